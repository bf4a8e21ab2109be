/-
  What is proved here, text by text: contracts of the reference's reader: term, ParseTerm. the rule for string(bytes) of a row of one's own; over any program. the contract of the reference's digits. contracts of strings.Builder's methods. contracts of the program's Print of levels. the text of a term; what the reference's reader reads is a term that can be printed, and how long its text is. contracts of the reference's functions on levels: PrintLevel. the contract of the reference's PrintTerm. that this program holds the library functions of which contracts are used (the kernel compares the bodies). strconv.Itoa at what a term's numbers are: the digits that the reference writes. strings.Join, and strconv.Atoi at what is no number: contracts of data. contracts of the program's Print of terms. declarations as data; what the reference's reader of files computes, in plain words. the text of a declaration, as the program puts it together and as the reference does; how long it is. rules for a slice with no room behind it: a piece of a row, cut with its capacity; an append to it makes a new row; over any program. the contract of the program's file.Print. the contract of the reference's PrintDecl. the contract of the reference's SameLevel.
-/
import Derived.Test.YtneaancanfpdhaaGreatDoorF3
import Derived.Laws.BytesString
import Derived.Laws.Cells
import Derived.Shelf.Strings.OnBuilder
import Derived.Shelf.Strconv.Itoa3
import Derived.Shelf.Strconv.ErrVarAll
import Derived.Test.YtneaancanfpdhaaGreatDoorProg
import Derived.WalkSmall
set_option linter.unusedSimpArgs false
set_option linter.unusedVariables false
namespace Go.Proofs.YtneaancanfpdhaaGreatDoor
open Go Go.Vd Go.RowKit
attribute [local irreducible] Runs OpsR OpR FloatR AnyR

/-- the package's variables, the first two of them the words -/
def glT (g : Nat → List D) : Nat → List D
  | 0 => [strsD wordsT]
  | 1 => wordsT.map fun s => .v (.string s)
  | n + 2 => g (n + 2)
variable {g : Nat → List D}
theorem size_pos {s : ByteArray} (h : s ≠ .empty) : 0 < s.size := by
  rcases Nat.eq_zero_or_pos s.size with h1 | h1
  · exact absurd (ByteArray.size_eq_zero_iff.1 h1) h
  · exact h1

theorem fcode_n : fcode none = 0 := rfl
theorem fcode_none {f : Option Nat} : fcode f = 0 ↔ f = none := by cases f <;> simp [fcode]
theorem levels_stop {s : ByteArray} {r : RS} {m : Nat} (h : ¬ (fcode r.f = 0 ∧ ¬ peekR s r = ⟨#[41]⟩)) : levelsR m s r = ([], r) := by
  cases m with
  | zero => rfl
  | succ m => simp only [levelsR]; rw [if_neg (by rw [fcode_none] at h; exact h)]
theorem level_prog {s : ByteArray} {n : Nat} {r : RS} (hp : r.p ≤ s.size) (h1 : r.f = none) (h2 : (levelR (n + 1) s r).2.f = none) : r.p < (levelR (n + 1) s r).2.p := by
  obtain ⟨p, f⟩ := r
  simp only at h1 hp
  subst h1
  have hf : ∀ (q : RS) (x : Nat), (q.fail x).f ≠ none := by rintro ⟨a, f⟩ x; cases f <;> simp [RS.fail]
  have hat := tokR_at (s := s) hp
  have hnx : (tokR s p).1 ≠ .empty → p < (nextR s ⟨p, none⟩).2.p := fun h => by rw [nextR_ok h]; have := size_pos h; simp only; omega
  have hn1 := nextR_le (s := s) (r := ⟨p, none⟩) hp
  have hn2 := nextR_le (s := s) (r := (nextR s ⟨p, none⟩).2) hn1.2
  have hl1 := levelR_le (s := s) n (r := (nextR s (nextR s ⟨p, none⟩).2).2) hn2.2
  have hl2 := levelR_le (s := s) n (r := (levelR n s (nextR s (nextR s ⟨p, none⟩).2).2).2) hl1.2
  have ht1 := takeR_le (s := s) (w := ⟨#[41]⟩) hl1.2
  have ht2 := takeR_le (s := s) (w := ⟨#[41]⟩) hl2.2
  by_cases c0 : (tokR s p).1 = ⟨#[48]⟩
  · rw [levelR_zero c0]; exact hnx (by rw [c0]; decide)
  cases c1 : isNameB (tokR s p).1 with
  | true =>
    rw [levelR_name c0 c1]
    exact hnx (by intro e; rw [e] at c1; simp [isNameB] at c1)
  | false =>
    by_cases c2 : (tokR s p).1 = ⟨#[40]⟩
    · have h3 := hnx (by rw [c2]; decide)
      by_cases c3 : kindR (tokR s (nextR s ⟨p, none⟩).2.p).1 = 0
      · rw [levelR_kind c0 c1 c2 c3] at h2; exact absurd h2 (hf _ _)
      · by_cases c4 : kindR (tokR s (nextR s ⟨p, none⟩).2.p).1 = 1
        · rw [levelR_one c0 c1 c2 c4]; simp only at h3 ⊢; omega
        · rw [levelR_two c0 c1 c2 c3 c4]; simp only at h3 ⊢; omega
    · rw [levelR_else c0 c1 c2] at h2; exact absurd h2 (hf _ _)
theorem levels_step {s : ByteArray} {r0 r' : RS} {m : Nat} {acc : List Lvl} {x : Lvl} (hinv : r'.p ≤ s.size ∧ acc.length + m = s.size + 2 ∧ (r'.f = none → s.size - r'.p < m) ∧ levelsR (s.size + 2) s r0 = (acc ++ (levelsR m s r').1, (levelsR m s r').2))
    (h : fcode r'.f = 0 ∧ ¬ peekR s r' = ⟨#[41]⟩) (hX : (levelR (s.size + 1) s r').1 = x) :
    (levelR (s.size + 1) s r').2.p ≤ s.size ∧ (acc ++ [x]).length + (m - 1) = s.size + 2 ∧ ((levelR (s.size + 1) s r').2.f = none → s.size - (levelR (s.size + 1) s r').2.p < m - 1) ∧
      levelsR (s.size + 2) s r0 = (acc ++ [x] ++ (levelsR (m - 1) s (levelR (s.size + 1) s r').2).1, (levelsR (m - 1) s (levelR (s.size + 1) s r').2).2) := by
  rw [fcode_none] at h
  obtain ⟨h1, h2, h3, h4⟩ := hinv
  have hm := h3 h.1
  obtain ⟨m, rfl⟩ : ∃ k, m = k + 1 := ⟨m - 1, by omega⟩
  have hle := levelR_le (s := s) (s.size + 1) h1
  refine ⟨hle.2, by simp; omega, fun hf => by have := level_prog h1 h.1 hf; omega, ?_⟩
  rw [h4]
  simp only [levelsR]
  rw [if_pos h, ← hX]
  simp
theorem partsOf_le (k : Nat) : partsOf k ≤ 3 := by unfold partsOf; split; omega; split <;> omega

theorem term_spec (s : ByteArray) (hs : s.size ≤ 1099511627776) : ∀ (n : Nat) (r : RS), r.p ≤ s.size → s.size - r.p < n →
    Tri Tryz.prog (glT g) 42 [rdO s r] [.blk 0 0] fun out ob' => out = .ret (.d (termR n s r).1.d) ∧ ob' = [rdO s (termR n s r).2] := by
  intro n
  induction n with
  | zero => intro r _ h; omega
  | succ n ih =>
    intro r hp hn
    have hat := tokR_at (s := s) hp
    obtain ⟨p, f⟩ := r
    simp only at hat hp hn
    cases f with
    | some a =>
      refine triS_of_runs Tryz.func42 rfl Tryz.ntmps42 (rs := [.cell 2 31]) rfl rfl rfl 1 rfl ?_
      refine sr ?_; refine oc (T := fun _ => False) (alc ti31 ?_ (hl := by simp only [List.length_cons, List.length_nil, Nat.reduceAdd]; rfl)); refine nx ?_; refine sr ?_; refine o1 (mv ?_)
      refine oc (ck ca82 rfl rfl (token_spec s p (fcode (some a)) (fat (some a)) hs hp) [0] rfl (boc .nil) (fir .nil) ?_); refine o1 (mv ?_); refine o1 (ex2 ?_); refine o1 (ex2 ?_); refine o1 (ex2 ?_); refine o1 (asg ?_); refine o1 (asg ?_)
      refine o1 (asg ?_); refine nx ?_; refine runs_seq ?_; refine kp [5, 4, 3, 2, 0] ?_; refine sr ?_; refine o1 (mv ?_); refine o1 (ncb ?_); refine o1 (fdb ti71 ?_); refine o1 (fdb ti33 ?_); refine o1 (ldb ti3 ?_); refine o1 (ine ?_)
      refine nx ?_; refine cdf (fun h2 => ?_) (fun h2 => ?_)
      · simp only [nrm, Int.reduceEq, Int.reduceNe, Int.reduceLT, Int.reduceLE, fcode, fat] at h2
      (try simp only [nrm, Int.reduceEq, Int.reduceNe, Int.reduceLT, Int.reduceLE, fcode, fat] at h2); refine kp [2] ?_; refine sr ?_; refine o1 (bld ti31 ?_); refine oc (sto ti31 ?_); refine nx ?_; refine runs_ret ?_; refine seq_ret ?_
      refine fin_ret ?_; refine fin_odl ⟨_, _, rfl, (from_cell rfl rfl ti31 rfl rfl rfl rfl), rfl⟩ rfl (zeroT.d) (by repeat (first | exact .refl _ | exact .nil | refine .agg ?_ | refine .cons ?_ ?_)) ([0]) ([rdO s ⟨p, some a⟩]) rfl rfl rfl ?_ ?_
      · repeat (first | exact boz | refine boc ?_)
      · exact ⟨rfl, rfl⟩
    | none =>
      have hn1 := nextR_le (s := s) (r := ⟨p, none⟩) hp
      have hn2 := nextR_le (s := s) (r := (nextR s ⟨p, none⟩).2) hn1.2
      have hpos := size_pos (s := (tokR s p).1)
      have hash := tok_hash (s := s) hp
      have hwl : (strs wordsT).length = 7 := rfl
      have hwl2 : wordsT.length = 7 := rfl
      refine triS_of_runs Tryz.func42 rfl Tryz.ntmps42 (rs := [.cell 2 31]) rfl rfl rfl 1 rfl ?_
      refine sr ?_; refine oc (T := fun _ => False) (alc ti31 ?_ (hl := by simp only [List.length_cons, List.length_nil, Nat.reduceAdd]; rfl)); refine nx ?_; refine sr ?_; refine o1 (mv ?_)
      refine oc (ck ca82 rfl rfl (token_spec s p (fcode none) (fat none) hs hp) [0] rfl (boc .nil) (fir .nil) ?_); refine o1 (mv ?_); refine o1 (ex2 ?_); refine o1 (ex2 ?_); refine o1 (ex2 ?_); refine o1 (asg ?_); refine o1 (asg ?_)
      refine o1 (asg ?_); refine nx ?_; refine runs_seq ?_; refine kp [5, 4, 3, 2, 0] ?_; refine sr ?_; refine o1 (mv ?_); refine o1 (ncb ?_); refine o1 (fdb ti71 ?_); refine o1 (fdb ti33 ?_); refine o1 (ldb ti3 ?_); refine o1 (ine ?_)
      refine nx ?_; refine cd (fun h2 => ?_) (fun h2 => ?_)
      · simp only [nrm, Int.reduceEq, Int.reduceNe, Int.reduceLT, Int.reduceLE, fcode_n] at h2
      (try simp only [nrm, Int.reduceEq, Int.reduceNe, Int.reduceLT, Int.reduceLE, fcode_n] at h2); refine runs_skip ?_; refine seq_normal ?_; refine runs_seq ?_; refine kp [5, 4, 3, 2, 0] ?_; refine sr ?_; refine o1 (mv ?_); refine o1 (f_not ?_)
      refine o1 (mv ?_)
      apply ops_or (yt := 31) (d := 29) 2 rfl rfl rfl (.none rfl) rfl rfl
      case h1 =>
        intro hb4 hK
        have hc := hb4; (try simp only [nrm, Int.reduceEq, Int.reduceNe, Int.reduceLT, Int.reduceLE, fcode_n] at hc)
        refine gye ?_ (hbw := by exact hb4); refine o1 (mv ?_); refine gye ?_ (hbw := by exact hb4); refine o1 (seq1 ?_); exact hK [_, _] rfl rfl
      case h2 =>
        intro hb4 hK; refine gno ?_ (hbw := by exact hb4); refine gno ?_ (hbw := by exact hb4); exact hK [_, _] rfl
      refine o1 (mv ?_)
      apply ops_or (yt := 40) (d := 33) 7 rfl rfl rfl (.none rfl) rfl rfl
      case h1 =>
        intro hb12 hK
        have hc := hb12; (try simp only [nrm, Int.reduceEq, Int.reduceNe, Int.reduceLT, Int.reduceLE, fcode_n] at hc)
        refine gye ?_ (hbw := by exact hb12); refine o1 (mv ?_); refine gye ?_ (hbw := by exact hb12); refine o1 (byt ut9 ?_ (h01 := by have h1 := hpos hc.2; omega)); refine gye ?_ (hbw := by exact hb12); refine o1 (ine ?_)
        refine gye ?_ (hbw := by exact hb12); refine o1 (mv ?_)
        apply ops_and (yt := 39) (d := 37) 2 rfl rfl rfl (.yes rfl rfl rfl hb12) rfl rfl
        case h1 =>
          intro hb21 hK
          have hc := hb21; (try simp only [nrm, Int.reduceEq, Int.reduceNe, Int.reduceLT, Int.reduceLE, fcode_n] at hc)
          refine gye ?_ (hbw := by exact hb21); refine o1 (mv ?_); refine gye ?_ (hbw := by exact hb21); refine o1 (sne ?_); exact hK [_, _] rfl rfl
        case h2 =>
          intro hb21 hK; refine gno ?_ (hbw := by exact hb21); refine gno ?_ (hbw := by exact hb21); exact hK [_, _] rfl
        exact hK [_, _, _, _, _] rfl rfl
      case h2 =>
        intro hb12 hK; refine gno ?_ (hbw := by exact hb12); refine gno ?_ (hbw := by exact hb12); refine gno ?_ (hbw := by exact hb12); refine gno ?_ (hbw := by exact hb12); refine gud ?_; refine gud ?_; refine gno ?_ (hbw := by exact hb12)
        exact hK [_, _, _, _, _, _, _] rfl
      refine nx ?_; refine cd (fun h4 => ?_) (fun h4 => ?_)
      · (try simp only [nrm, Int.reduceEq, Int.reduceNe, Int.reduceLT, Int.reduceLE, fcode_n] at h4)
        refine kp [4, 2, 0] ?_; refine sr ?_; refine o1 (mv ?_); refine o1 (mv ?_); refine oc (ck ca83 rfl rfl (fail_spec s (tokR s p).2.1 ⟨p, none⟩) [0] rfl (boc .nil) (fir (fir .nil)) ?_); refine nx ?_; refine kp [2] ?_; refine sr ?_
        refine o1 (bld ti31 ?_); refine oc (sto ti31 ?_); refine nx ?_; refine runs_ret ?_; refine seq_ret ?_; refine fin_ret ?_
        refine fin_odl ⟨_, _, rfl, (from_cell rfl rfl ti31 rfl rfl rfl rfl), rfl⟩ rfl (zeroT.d) (by repeat (first | exact .refl _ | exact .nil | refine .agg ?_ | refine .cons ?_ ?_)) ([0]) ([rdO s ((RS.mk p none).fail (tokR s p).2.1)]) rfl rfl rfl ?_ ?_
        · repeat (first | exact boz | refine boc ?_)
        · rw [termR_bad (by rintro ⟨ha, hb⟩; rcases h4 with (h | h) | h; exact ha (tokR_empty h); exact ha h; rcases hb with hb | hb; exact h.1 hb; exact h.2 hb)]; exact ⟨rfl, rfl⟩
      (try simp only [nrm, Int.reduceEq, Int.reduceNe, Int.reduceLT, Int.reduceLE, fcode_n] at h4); refine runs_skip ?_; refine seq_normal ?_; refine kp [3, 2, 0] ?_; refine sr ?_; refine o1 (mv ?_)
      refine oc (ck ca84 rfl rfl (next_spec s ⟨p, none⟩ hs hp) [0] rfl (boc .nil) (fir .nil) ?_); refine nx ?_; refine runs_seq ?_; refine sr ?_; refine o1 (mv ?_); refine o1 (sne ?_); refine nx ?_; refine cd (fun h8 => ?_) (fun h8 => ?_)
      · (try simp only [nrm, Int.reduceEq, Int.reduceNe, Int.reduceLT, Int.reduceLE, fcode_n] at h8)
        refine runs_seq ?_; refine kp [3, 2] ?_
        have hh4 : headT (tokR s p).1 := ⟨h4.1.2, h4.2⟩
        have hh35 : byteAt (tokR s p).1 0 = 35 := by rcases h4.2 with h | h; exact h; exact absurd h h8
        have hhash := hash h4.1.2 hh35
        refine runs_region ?_; refine o1 (mv ?_); refine o1 (fl_sub_l ut9 rfl rfl rfl (by omega) ?_)
        refine oc (cv ca85 rfl rfl (number_spec ((tokR s p).1.extract 1 (tokR s p).1.size) (by rw [ByteArray.size_extract]; omega) hhash.2.2) (fir .nil) ?_); refine o1 (bld ti31 ?_); refine oc (sto ti31 ?_); refine nx ?_; refine runs_ret ?_
        refine seq_ret ?_; refine fin_ret ?_
        refine fin_odl ⟨_, _, rfl, (from_cell rfl rfl ti31 rfl rfl rfl rfl), rfl⟩ rfl ((Trm.mk 0 (numR ((tokR s p).1.extract 1 (tokR s p).1.size) ((tokR s p).1.extract 1 (tokR s p).1.size).size) .empty [] []).d) (by repeat (first | exact .refl _ | exact .nil | refine .agg ?_ | refine .cons ?_ ?_)) ([0]) ([rdO s (nextR s ⟨p, none⟩).2]) rfl rfl rfl ?_ ?_
        · repeat (first | exact boz | refine boc ?_)
        · rw [termR_num hh4 h8, show ((tokR s p).1.extract 1 (tokR s p).1.size).size = (tokR s p).1.size - 1 by rw [ByteArray.size_extract]; omega]; exact ⟨rfl, rfl⟩
      (try simp only [nrm, Int.reduceEq, Int.reduceNe, Int.reduceLT, Int.reduceLE, fcode_n] at h8); refine runs_skip ?_; refine seq_normal ?_; refine kp [2, 0] ?_; refine sr ?_; refine o1 (mv ?_)
      refine oc (ck ca82 rfl rfl (token_spec s (nextR s ⟨p, none⟩).2.p (fcode (nextR s ⟨p, none⟩).2.f) (fat (nextR s ⟨p, none⟩).2.f) hs hn1.2) [0] rfl (boc .nil) (fir .nil) ?_); refine o1 (mv ?_); refine o1 (ex2 ?_); refine o1 (ex2 ?_)
      refine o1 (ex2 ?_); refine o1 (asg ?_); refine o1 (asg ?_); refine o1 (asg ?_); refine nx ?_; refine kp [7, 6, 2, 0] ?_; refine sr ?_; refine o1 (asg ?_); refine nx ?_; refine runs_seq ?_; refine sr ?_; refine o1 (asg ?_); refine nx ?_
      refine runs_block ?_
      apply runs_loop_c (ι := Nat) (fun i => [(10, int i), (9, int (kindTo (tokR s (nextR s ⟨p, none⟩).2.p).1 i))]) [7, 6, 2, 0] (fun i => 1 ≤ i ∧ i ≤ 7) (fun i => 7 - i) (1)
      case hk => exact rfl
      case hI =>
        exact ⟨Nat.le_refl _, by omega⟩
      case hm =>
        refine mo ?_ (sly (slx rfl (by exact Fit.of_eq (by unfold kindTo; rw [show (if kindT (tokR s (nextR s ⟨p, none⟩).2.p).1 < 1 then kindT (tokR s (nextR s ⟨p, none⟩).2.p).1 else 0) = 0 by split <;> omega]; rfl)) (sly (sly (sly (sly slz))))))
        repeat (first | exact boz | refine boc ?_)
      case h =>
        rintro i hinv
        try dsimp only at hinv
        refine kp [10, 9, 7, 6, 2, 0] ?_; refine runs_seq ?_; refine sr ?_; refine o1 (mv ?_); refine o1 (ldc ti42 ?_); refine o1 (le1 us42 ?_); refine o1 (ilt ?_); refine nx ?_; refine cd (fun h13 => ?_) (fun h13 => ?_)
        · (try simp only [nrm, Int.reduceEq, Int.reduceNe, Int.reduceLT, Int.reduceLE, fcode_n] at h13)
          refine runs_skip ?_; refine seq_normal ?_; refine runs_seq ?_; refine runs_block ?_; refine kp [10, 9, 7, 6, 2, 0] ?_; refine sr ?_; refine o1 (ldc ti42 ?_); refine o1 (mv ?_)
          refine o1 (ixs us42 te42 ?_ (he := by exact (str_at (show i < wordsT.length by omega)))); refine o1 (ldc ti9 ?_); refine o1 (mv ?_); refine o1 (seq1 ?_); refine nx ?_; refine cdf (fun h15 => ?_) (fun h15 => ?_)
          · (try simp only [nrm, Int.reduceEq, Int.reduceNe, Int.reduceLT, Int.reduceLE, fcode_n] at h15)
            refine runs_skip ?_; refine inb_normal ?_; refine seq_normal ?_; refine kp [10, 9, 7, 6, 2, 0] ?_; refine runs_region ?_; refine o1 (mv ?_); refine o1 (iad ?_); refine o1 (asg ?_); refine ops_nil ?_; refine seq_back ?_
            refine back_i (i + 1) rfl ?_ ?_
            · exact ⟨⟨by omega, by omega⟩, by omega⟩
            · refine mo ?_ (sly (slx rfl (by exact Fit.of_eq (by (first | rw [kindTo_yes hinv.1 (by omega) h15] | rw [kindTo_no hinv.1 (by omega) h15]); rfl)) (sly (sly (sly (sly slz))))))
              repeat (first | exact boz | refine boc ?_)
          (try simp only [nrm, Int.reduceEq, Int.reduceNe, Int.reduceLT, Int.reduceLE, fcode_n] at h15); refine kp [10, 7, 6, 2, 0] ?_; refine runs_region ?_; refine o1 (mv ?_); refine o1 (asg ?_); refine ops_nil ?_; refine inb_normal ?_
          refine seq_normal ?_; refine runs_region ?_; refine o1 (mv ?_); refine o1 (iad ?_); refine o1 (asg ?_); refine ops_nil ?_; refine seq_back ?_; refine back_i (i + 1) rfl ?_ ?_
          · exact ⟨⟨by omega, by omega⟩, by omega⟩
          · refine mo ?_ (sly (slx rfl (by exact Fit.of_eq (by (first | rw [kindTo_yes hinv.1 (by omega) h15] | rw [kindTo_no hinv.1 (by omega) h15]); rfl)) (sly (sly (sly (sly slz))))))
            repeat (first | exact boz | refine boc ?_)
        (try simp only [nrm, Int.reduceEq, Int.reduceNe, Int.reduceLT, Int.reduceLE, fcode_n] at h13); refine runs_exit ?_; refine seq_exit ?_; refine seq_exit ?_; refine inb_exit ?_; refine seq_normal ?_; refine runs_seq ?_; refine runs_seq ?_
        refine kp [9, 7, 2, 0] ?_; obtain rfl : i = 7 := by omega
        rw [kindTo_7]
        have hkl := kindT_le (tokR s (nextR s ⟨p, none⟩).2.p).1
        generalize hk : kindT (tokR s (nextR s ⟨p, none⟩).2.p).1 = k at hkl ⊢
        refine runs_region ?_; refine o1 (mv ?_); refine o1 (ieq ?_); refine nx ?_; refine cd (fun h17 => ?_) (fun h17 => ?_)
        · (try simp only [nrm, Int.reduceEq, Int.reduceNe, Int.reduceLT, Int.reduceLE, fcode_n] at h17)
          refine sr ?_; refine o1 (mv ?_); refine o1 (mv ?_); refine oc (ck ca83 rfl rfl (fail_spec s (tokR s (nextR s ⟨p, none⟩).2.p).2.1 (nextR s ⟨p, none⟩).2) [0] rfl (boc .nil) (fir (fir .nil)) ?_); refine nx ?_; refine kp [2] ?_; refine sr ?_
          refine o1 (bld ti31 ?_); refine oc (sto ti31 ?_); refine nx ?_; refine runs_ret ?_; refine seq_ret ?_; refine fin_ret ?_
          refine fin_odl ⟨_, _, rfl, (from_cell rfl rfl ti31 rfl rfl rfl rfl), rfl⟩ rfl (zeroT.d) (by repeat (first | exact .refl _ | exact .nil | refine .agg ?_ | refine .cons ?_ ?_)) ([0]) ([rdO s ((nextR s ⟨p, none⟩).2.fail (tokR s (nextR s ⟨p, none⟩).2.p).2.1)]) rfl rfl rfl ?_ ?_
          · repeat (first | exact boz | refine boc ?_)
          · rw [termR_kind h8 (by omega)]; exact ⟨rfl, rfl⟩
        (try simp only [nrm, Int.reduceEq, Int.reduceNe, Int.reduceLT, Int.reduceLE, fcode_n] at h17); refine runs_skip ?_; refine seq_normal ?_; refine sr ?_; refine o1 (mv ?_)
        refine oc (ck ca84 rfl rfl (next_spec s (nextR s ⟨p, none⟩).2 hs hn1.2) [0] rfl (boc .nil) (fir .nil) ?_); refine nx ?_; refine kp [9, 2, 0] ?_; refine sr ?_; refine o1 (mv ?_); refine o1 (bld ti31 ?_)
        refine oc (T := fun _ => False) (alc ti31 ?_ (hl := by simp only [List.length_cons, List.length_nil, Nat.reduceAdd]; rfl)); refine oc (sto ti31 ?_); refine nx ?_; refine runs_seq ?_; refine runs_nilrow 31 5 rfl ?_; refine runs_region ?_
        refine o1 (asg ?_); refine nx ?_; refine runs_seq ?_; refine sr ?_; refine o1 (mv ?_); refine nx ?_; refine kp [83, 12, 11, 2, 0] ?_
        apply runs_cut_o (ι := ByteArray × List Lvl × RS) (fun ⟨nm, L, r3⟩ => [(12, int (partsOf k))]) (fun ⟨nm, L, r3⟩ => [rdO s r3, .cells [.d (.v (.int .i64 0)), .d (.v (.int .i64 0)), .d (.v (.string .empty)), .d (.v (.slice none 0 0)), .d (.v (.slice none 0 0))] 31, .cells [.d (.v (.int .i64 k)), .d (.v (.int .i64 0)), .d (.v (.string nm)), .own 3 3 (lvls L), .d (.v (.slice none 0 0))] 31, .row 45 3, .nilrow 31 5]) [11, 2, 0] (fun ⟨nm, L, r3⟩ => headR s k (nextR s (nextR s ⟨p, none⟩).2).2 = (nm, L, r3))
        case hk => exact rfl
        case h1 =>
          refine runs_block ?_; refine sr ?_; refine o1 (ieq ?_); refine o1 (asg ?_); refine nx ?_; refine cd (fun h24 => ?_) (fun h24 => ?_)
          · (try simp only [nrm, Int.reduceEq, Int.reduceNe, Int.reduceLT, Int.reduceLE, fcode_n] at h24)
            refine runs_seq ?_; refine kp [11, 2, 0] ?_; obtain ⟨k1, s1, a1, hX⟩ := Lvl.case (levelR (s.size + 1) s (nextR s (nextR s ⟨p, none⟩).2).2).1; refine a_start ?_ (hm := by exact mixed); refine A1 0 rfl (fdb ti31 ⟨_, rfl, ?_⟩)
            refine A1 1 rfl (ldb ti28 ⟨_, rfl, ?_⟩); refine A1 2 rfl (mv ⟨_, rfl, ?_⟩)
            refine A2 3 rfl (op_callo ca60 rfl rfl rfl rfl (level_spec s hs (s.size + 1) (nextR s (nextR s ⟨p, none⟩).2).2 hn2.2 (by omega)) [0] (boc .nil) rfl rfl rfl rfl (fir .nil) (fun s ob' hq => ?_) (fun s ob' hq => ?_))
            rotate_left
            · first | exact hq.elim | cases hq.1
            obtain ⟨hq1, rfl⟩ := hq; rw [hX] at hq1; cases hq1; refine ⟨_, _, _, _, _, rfl, rfl, rfl, rfl, rfl, ?_⟩
            refine A2 (T := fun _ => False) 4 rfl (op_lit sl28 [.tmp 89] ti45 rfl rfl rfl rfl rfl rfl rfl (by decide) (by decide) (by decide) (by simp only [List.length_cons, List.length_nil, Nat.reduceAdd]; rfl) rfl ?_)
            refine A2 (T := fun _ => False) 5 rfl (op_append_nil sl28 rfl rfl rfl rfl rfl rfl (by simp only [List.length_cons, List.length_nil, Nat.reduceAdd]; rfl) rfl rfl (by decide) (by simp) (by first | decide | (simp only [maxLen, List.length_cons, List.length_nil, List.length_append, List.length_map]; omega) | omega) rfl rfl rfl ?_)
            refine A1 6 rfl (fdb ti31 ⟨_, rfl, ?_⟩); refine A2 7 rfl (sto ti28 ?_); refine a_end ?_; refine seq_normal ?_; refine kp [11, 2, 0] ?_; refine runs_region ?_; refine o1 (asg ?_); refine ops_nil ?_; refine inb_normal ?_; refine seq_back ?_
            refine back_c ((.empty, [Lvl.mk k1 s1 a1], (levelR (s.size + 1) s (nextR s (nextR s ⟨p, none⟩).2).2).2)) rfl ?_ ([0, 1, 2, 5, 3]) ?_
            · unfold headR; rw [if_pos (by omega), hX]
            · refine mo ?_ (slx rfl (by exact Fit.of_eq (by unfold partsOf; first | (rw [if_pos (by omega)]; rfl) | (rw [if_neg (by omega), if_pos (by omega)]; rfl) | (rw [if_neg (by omega), if_neg (by omega)]; rfl))) (sly (sly (sly slz))))
              repeat (first | exact boz | refine boc ?_ | refine bor ?_ | refine bonn ?_)
          (try simp only [nrm, Int.reduceEq, Int.reduceNe, Int.reduceLT, Int.reduceLE, fcode_n] at h24); refine sr ?_; refine o1 (ieq ?_); refine o1 (asg ?_); refine nx ?_; refine cdf (fun h27 => ?_) (fun h27 => ?_)
          · (try simp only [nrm, Int.reduceEq, Int.reduceNe, Int.reduceLT, Int.reduceLE, fcode_n] at h27)
            refine runs_seq ?_; refine kp [83, 12, 11, 2, 0] ?_; refine runs_nilrow 45 3 rfl ?_; refine runs_region ?_; refine o1 (ieq ?_); refine o1 (asg ?_); refine nx ?_; refine cdf (fun h32 => ?_) (fun h32 => ?_)
            · (try simp only [nrm, Int.reduceEq, Int.reduceNe, Int.reduceLT, Int.reduceLE, fcode_n] at h32)
              refine runs_skip ?_; refine inb_normal ?_; refine seq_back ?_; refine back_c ((.empty, [], (nextR s (nextR s ⟨p, none⟩).2).2)) rfl ?_ ([0, 1, 2, 4, 3]) ?_
              · unfold headR; rw [if_neg (by omega), if_neg (by omega)]
              · refine mo ?_ (slx rfl (by exact Fit.of_eq (by unfold partsOf; first | (rw [if_pos (by omega)]; rfl) | (rw [if_neg (by omega), if_pos (by omega)]; rfl) | (rw [if_neg (by omega), if_neg (by omega)]; rfl))) (sly (sly (sly slz))))
                repeat (first | exact boz | exact fiz | refine boc ?_ | refine bonn ?_ | refine bon ?_ | refine boe ?_ ?_ | refine fir ?_ | refine .cons (.nil rfl) ?_)
            (try simp only [nrm, Int.reduceEq, Int.reduceNe, Int.reduceLT, Int.reduceLE, fcode_n] at h32); refine kp [11, 2, 0] ?_; refine runs_region ?_; refine o1 (asg ?_); refine ops_nil ?_; refine inb_normal ?_; refine seq_back ?_
            refine back_c ((.empty, [], (nextR s (nextR s ⟨p, none⟩).2).2)) rfl ?_ ([0, 1, 2, 4, 3]) ?_
            · unfold headR; rw [if_neg (by omega), if_neg (by omega)]
            · refine mo ?_ (slx rfl (by exact Fit.of_eq (by unfold partsOf; first | (rw [if_pos (by omega)]; rfl) | (rw [if_neg (by omega), if_pos (by omega)]; rfl) | (rw [if_neg (by omega), if_neg (by omega)]; rfl))) (sly (sly (sly slz))))
              repeat (first | exact boz | exact fiz | refine boc ?_ | refine bonn ?_ | refine bon ?_ | refine boe ?_ ?_ | refine fir ?_ | refine .cons (.nil rfl) ?_)
          (try simp only [nrm, Int.reduceEq, Int.reduceNe, Int.reduceLT, Int.reduceLE, fcode_n] at h27); refine runs_seq ?_; refine kp [11, 2, 0] ?_
          have hnm := nameR_le (s := s) (r := (nextR s (nextR s ⟨p, none⟩).2).2) hn2.2
          refine runs_region ?_; refine o1 (mv ?_); refine oc (ck ca86 rfl rfl (name_spec s (nextR s (nextR s ⟨p, none⟩).2).2 hs hn2.2) [0] rfl (boc .nil) (fir .nil) ?_); refine o1 (fdb ti31 ?_); refine oc (sto ti9 ?_); refine nx ?_; refine sr ?_
          refine o1 (asg ?_); refine nx ?_; refine runs_block ?_; refine kp [12, 11, 2, 0] ?_; refine runs_nilrow 45 3 rfl ?_
          apply runs_loop_o (ι := Nat × List Lvl × RS) (fun ⟨m, acc, r'⟩ => []) (fun ⟨m, acc, r'⟩ => [rdO s r', .cells [.d (.v (.int .i64 0)), .d (.v (.int .i64 0)), .d (.v (.string .empty)), .d (.v (.slice none 0 0)), .d (.v (.slice none 0 0))] 31, .cells [.d (.v (.int .i64 k)), .d (.v (.int .i64 0)), .d (.v (.string (nameR s (nextR s (nextR s ⟨p, none⟩).2).2).1)), .own 4 3 (lvls acc), .d (.v (.slice none 0 0))] 31, .nilrow 31 5, .row 45 3]) [12, 11, 2, 0] (fun ⟨m, acc, r'⟩ => r'.p ≤ s.size ∧ acc.length + m = s.size + 2 ∧ (r'.f = none → s.size - r'.p < m) ∧ levelsR (s.size + 2) s (nameR s (nextR s (nextR s ⟨p, none⟩).2).2).2 = (acc ++ (levelsR m s r').1, (levelsR m s r').2)) (fun ⟨m, acc, r'⟩ => m) ((s.size + 2, [], (nameR s (nextR s (nextR s ⟨p, none⟩).2).2).2)) ([0, 1, 2, 3, 4])
          case hk => exact rfl
          case hI =>
            exact ⟨hnm.2, by simp, fun _ => by omega, rfl⟩
          case hm =>
            refine mo ?_ (sly (sly (sly (sly slz))))
            repeat (first | exact boz | exact fiz | refine boc ?_ | refine bonn ?_ | refine bon ?_ | refine boe ?_ ?_ | refine fir ?_ | refine .cons (.nil rfl) ?_)
          case h =>
            rintro ⟨m, acc, r'⟩ hinv
            try dsimp only at hinv
            refine kp [12, 11, 2, 0] ?_; refine runs_seq ?_; refine sr ?_; refine o1 (mv ?_); refine o1 (ncb ?_); refine o1 (fdb ti71 ?_); refine o1 (fdb ti33 ?_); refine o1 (ldb ti3 ?_); refine o1 (ieq ?_); refine o1 (mv ?_)
            apply ops_and (yt := 107) (d := 104) 3 rfl rfl rfl (.none rfl) rfl rfl
            case h1 =>
              intro hb13 hK
              have hc := hb13; (try simp only [nrm, Int.reduceEq, Int.reduceNe, Int.reduceLT, Int.reduceLE, fcode_n] at hc)
              refine gye ?_ (hbw := by exact hb13); refine o1 (mv ?_); refine gye ?_ (hbw := by exact hb13); refine oc (ck ca87 rfl rfl (peek_spec s r' hs hinv.1) [0] rfl (boc .nil) (fir .nil) ?_); refine gye ?_ (hbw := by exact hb13); refine o1 (sne ?_)
              exact hK [_, _, _] rfl rfl
            case h2 =>
              intro hb13 hK; refine gno ?_ (hbw := by exact hb13); refine gno ?_ (hbw := by exact hb13); refine gno ?_ (hbw := by exact hb13); exact hK [_, _, _] rfl
            refine nx ?_; refine cdf (fun h30 => ?_) (fun h30 => ?_)
            · (try simp only [nrm, Int.reduceEq, Int.reduceNe, Int.reduceLT, Int.reduceLE, fcode_n] at h30)
              refine runs_exit ?_; refine seq_exit ?_; refine seq_exit ?_; refine inb_exit ?_; refine inb_normal ?_; refine seq_back ?_; refine back_c (((nameR s (nextR s (nextR s ⟨p, none⟩).2).2).1, acc, r')) rfl ?_ ([0, 1, 2, 4, 3]) ?_
              · unfold headR; rw [if_neg (by omega), if_pos (by omega), hinv.2.2.2, levels_stop (by rintro ⟨ha, hb⟩; rcases h30 with h | h; exact h ha; exact hb h), List.append_nil]
              · refine mo ?_ (slx rfl (by exact Fit.of_eq (by unfold partsOf; first | (rw [if_pos (by omega)]; rfl) | (rw [if_neg (by omega), if_pos (by omega)]; rfl) | (rw [if_neg (by omega), if_neg (by omega)]; rfl))) (sly (sly (sly slz))))
                repeat (first | exact boz | refine boc ?_ | refine bor ?_ | refine bonn ?_)
            (try simp only [nrm, Int.reduceEq, Int.reduceNe, Int.reduceLT, Int.reduceLE, fcode_n] at h30); refine runs_skip ?_; refine seq_normal ?_; refine runs_block ?_; refine kp [12, 11, 2, 0] ?_
            obtain ⟨k1, s1, a1, hX⟩ := Lvl.case (levelR (s.size + 1) s r').1
            have hm1 := hinv.2.2.1 (fcode_none.1 h30.1)
            have hln := lvls_len acc
            have hlast : lvls acc ++ [[.v (.int .i64 k1), .v (.string s1), .sl 3 (lvls a1)]] = lvls (acc ++ [Lvl.mk k1 s1 a1]) := by rw [lvls_app]; rfl
            refine a_start ?_ (hm := by exact mixed); refine A1 0 rfl (fdb ti31 ⟨_, rfl, ?_⟩); refine A1 1 rfl (ldb ti28 ⟨_, rfl, ?_⟩); refine A1 2 rfl (mv ⟨_, rfl, ?_⟩)
            refine A2 3 rfl (op_callo ca60 rfl rfl rfl rfl (level_spec s hs (s.size + 1) r' hinv.1 (by omega)) [0] (boc .nil) rfl rfl rfl rfl (fir .nil) (fun s ob' hq => ?_) (fun s ob' hq => ?_))
            rotate_left
            · first | exact hq.elim | cases hq.1
            obtain ⟨hq1, rfl⟩ := hq; rw [hX] at hq1; cases hq1; refine ⟨_, _, _, _, _, rfl, rfl, rfl, rfl, rfl, ?_⟩
            refine A2 (T := fun _ => False) 4 rfl (op_lit sl28 [.tmp 112] ti45 rfl rfl rfl rfl rfl rfl rfl (by decide) (by decide) (by decide) (by simp only [List.length_cons, List.length_nil, Nat.reduceAdd]; rfl) rfl ?_)
            refine A2 5 rfl (op_append sl28 rfl rfl rfl rfl rfl rfl rfl (.inl rfl) (by decide) (by simp) (by first | decide | (simp only [maxLen, List.length_cons, List.length_nil, List.length_append, List.length_map]; omega) | omega) rfl rfl rfl ?_)
            refine A1 6 rfl (fdb ti31 ⟨_, rfl, ?_⟩); refine A2 7 rfl (sto ti28 ?_); refine a_end ?_; refine inb_normal ?_; refine seq_back ?_
            rw [hlast]
            refine back_c ((m - 1, acc ++ [Lvl.mk k1 s1 a1], (levelR (s.size + 1) s r').2)) rfl ?_ ([0, 1, 2, 3, 4]) ?_
            · exact ⟨levels_step hinv h30 hX, show m - 1 < m by omega⟩
            · refine mo ?_ (sly (sly (sly (sly slz))))
              repeat (first | exact boz | refine boc ?_ | refine bor ?_ | refine bonn ?_)
        case h2 =>
          rintro ⟨nm, L, r3⟩ hcut
          try dsimp only at hcut
          refine kp [12, 11, 2, 0] ?_; refine runs_seq ?_; refine runs_seq ?_
          have hh3 := headR_le (s := s) k (r := (nextR s (nextR s ⟨p, none⟩).2).2) hn2.2
          rw [hcut] at hh3
          dsimp only at hh3
          have hpl := partsOf_le k
          refine runs_region ?_; refine o1 (asg ?_); refine nx ?_; refine runs_block ?_
          apply runs_loop_o (ι := Nat) (fun i => [(13, int i)]) (fun i => [rdO s (partsR (termR n s) i r3).2, .cells [.d (.v (.int .i64 0)), .d (.v (.int .i64 0)), .d (.v (.string .empty)), .d (.v (.slice none 0 0)), .d (.v (.slice none 0 0))] 31, .cells [.d (.v (.int .i64 k)), .d (.v (.int .i64 0)), .d (.v (.string nm)), .own 3 3 (lvls L), .own 4 5 (trms (partsR (termR n s) i r3).1)] 31, .row 45 3, .row 31 5]) [12, 11, 2, 0] (fun i => i ≤ partsOf k) (fun i => partsOf k - i) (0) ([0, 1, 2, 3, 4])
          case hk => exact rfl
          case hI =>
            exact Nat.zero_le _
          case hm =>
            refine mo ?_ (sly (sly (sly (sly (sly slz)))))
            repeat (first | exact boz | exact fiz | refine boc ?_ | refine bor ?_ | refine bon ?_ | refine boe ?_ ?_ | refine fir ?_ | refine .cons (.nil rfl) ?_)
          case h =>
            rintro i hinv
            try dsimp only at hinv
            refine kp [13, 12, 11, 2, 0] ?_; refine runs_seq ?_; refine sr ?_; refine o1 (mv ?_); refine o1 (mv ?_); refine o1 (ilt ?_); refine nx ?_; refine cdf (fun h35 => ?_) (fun h35 => ?_)
            · (try simp only [nrm, Int.reduceEq, Int.reduceNe, Int.reduceLT, Int.reduceLE, fcode_n] at h35)
              refine runs_exit ?_; refine seq_exit ?_; refine seq_exit ?_; refine inb_exit ?_; refine seq_normal ?_; refine kp [11, 2, 0] ?_; refine sr ?_; refine o1 (mv ?_)
              refine oc (ck ca88 rfl rfl (take_spec s ⟨#[41]⟩ (partsR (termR n s) i r3).2 hs (partsR_le (s := s) (f := termR n s) (fun r hr => termR_le n r hr) i hh3.2).2) [0] rfl (boc .nil) (fir (fir .nil)) ?_); refine nx ?_; refine sr ?_
              refine o1 (ldb ti31 ?_); refine oc (sto ti31 ?_); refine nx ?_; refine runs_ret ?_; refine fin_ret ?_; obtain rfl : i = partsOf k := by omega
              refine fin_odl ⟨_, _, rfl, (from_cell rfl rfl ti31 rfl rfl rfl rfl), rfl⟩ rfl ((Trm.mk k 0 nm L (partsR (termR n s) (partsOf k) r3).1).d) (by exact .refl _) ([0]) ([rdO s (takeR s ⟨#[41]⟩ (partsR (termR n s) (partsOf k) r3).2)]) rfl rfl rfl ?_ ?_
              · repeat (first | exact boz | refine boc ?_)
              · rw [termR_node h8 hk (by omega) hcut]; exact ⟨rfl, rfl⟩
            (try simp only [nrm, Int.reduceEq, Int.reduceNe, Int.reduceLT, Int.reduceLE, fcode_n] at h35); refine runs_skip ?_; refine seq_normal ?_; refine runs_seq ?_; refine runs_block ?_
            have hpp := partsR_le (s := s) (f := termR n s) (fun r hr => termR_le n r hr) i hh3.2
            obtain ⟨k2, n2, s2, l2, a2', hX⟩ := Trm.case (termR n s (partsR (termR n s) i r3).2).1
            have hln : (trms (partsR (termR n s) i r3).1).length = i := by rw [trms_len, partsR_len]
            have hlast : trms (partsR (termR n s) i r3).1 ++ [[.v (.int .i64 k2), .v (.int .i64 n2), .v (.string s2), .sl 3 (lvls l2), .sl 5 (trms a2')]] = trms (partsR (termR n s) (i + 1) r3).1 := by simp only [partsR]; rw [hX, trms_app]; rfl
            have hpr : p < (nextR s ⟨p, none⟩).2.p := by rw [nextR_ok (by rw [h8]; decide), h8]; simp only; have : (ByteArray.mk #[40]).size = 1 := rfl; omega
            refine a_start ?_ (hm := by exact mixed); refine A1 0 rfl (fdb ti31 ⟨_, rfl, ?_⟩); refine A1 1 rfl (ldb ti29 ⟨_, rfl, ?_⟩); refine A1 2 rfl (mv ⟨_, rfl, ?_⟩)
            refine A2 3 rfl (op_callo ca42 rfl rfl rfl rfl (ih (partsR (termR n s) i r3).2 hpp.2 (by omega)) [0] (boc .nil) rfl rfl rfl rfl (fir .nil) (fun s ob' hq => ?_) (fun s ob' hq => ?_))
            rotate_left
            · first | exact hq.elim | cases hq.1
            obtain ⟨hq1, rfl⟩ := hq; rw [hX] at hq1; cases hq1; refine ⟨_, _, _, _, _, rfl, rfl, rfl, rfl, rfl, ?_⟩
            refine A2 (T := fun _ => False) 4 rfl (op_lit sl29 [.tmp 126] ti31 rfl rfl rfl rfl rfl rfl rfl (by decide) (by decide) (by decide) (by simp only [List.length_cons, List.length_nil, Nat.reduceAdd]; rfl) rfl ?_)
            refine A2 5 rfl (op_append sl29 rfl rfl rfl rfl rfl rfl rfl (.inl rfl) (by decide) (by simp) (by first | decide | (simp only [maxLen, List.length_cons, List.length_nil, List.length_append, List.length_map]; omega) | omega) rfl rfl rfl ?_)
            refine A1 6 rfl (fdb ti31 ⟨_, rfl, ?_⟩); refine A2 7 rfl (sto ti29 ?_); refine a_end ?_; refine inb_normal ?_; refine seq_normal ?_; refine kp [13, 12, 11, 2, 0] ?_; refine runs_region ?_; refine o1 (mv ?_); refine o1 (iad ?_)
            refine o1 (asg ?_); refine ops_nil ?_; refine seq_back ?_
            rw [hlast]
            refine back_c (i + 1) rfl ?_ ([0, 1, 2, 3, 4]) ?_
            · exact ⟨by omega, by omega⟩
            · refine mo ?_ (sly (sly (sly (sly (sly slz)))))
              repeat (first | exact boz | refine boc ?_ | refine bor ?_)
end Go.Proofs.YtneaancanfpdhaaGreatDoor
namespace Go.Vd
open Go Go.RowKit

theorem bytes_fold (s : ByteArray) : (s.data.toList.map fun c => (c.toNat : Int)).foldl (fun r n => r.push (UInt8.ofNat n.toNat)) ByteArray.empty = s := by
  have h : ∀ (l : List UInt8) (r : ByteArray), (l.map fun c => (c.toNat : Int)).foldl (fun r n => r.push (UInt8.ofNat n.toNat)) r = ⟨⟨r.data.toList ++ l⟩⟩ := by
    intro l
    induction l with
    | nil => intro r; simp
    | cons c l ih =>
      intro r
      simp only [List.map_cons, List.foldl_cons]
      rw [ih]
      simp [ByteArray.push]
  rw [h]
  rfl
theorem fl_bytes_str {P : Program} {GL : Nat → List D} {o : Oper} {σ : St} {K : SV → List Nat → Prop} {src dst e : TypeId} {x : Operand} {s : ByteArray} {i : Nat} {ls : List (List D)} (hu : P.underlying src = some (.slice e)) (he : P.underlying e = some (.int .u8)) (hd : P.underlying dst = some .string) (ho : o.op = .convert src dst x)
    (hx : evO GL σ.sl x = some (.own i 1 ls)) (hls : ls = bytesD s) (hne : s ≠ .empty) (hK : K (.d (.v (.string s))) []) : FloatR P GL o σ K := fun B g a w hr => by
  subst hls
  obtain ⟨ad, cap, h1, hc, hd'⟩ : (D.sl 1 (bytesD s)).Den g.m (a.eval x) := own_sl (hr.evo hx)
  obtain ⟨b, off, rfl, hd2⟩ := hd' (bytesD_ne hne)
  have hm : ∀ (j : Nat) c, s.data.toList[j]? = some c → g.m b (off + j) = some (.int .u8 c.toNat) := fun j c hj => by
    have hj2 : (bytesD s)[j]? = some [.v (.int .u8 c.toNat)] := by simp only [bytesD, List.getElem?_map, hj, Option.map_some]
    obtain ⟨⟨y, hy, hyd⟩, _⟩ := (hd2.get hj2).2
    rw [Nat.mul_one] at hy
    rw [hy]; exact congrArg some hyd
  refine ⟨s.data.toList.zipIdx.map fun p => (⟨b, off + p.2, none⟩, .int .u8 p.1.toNat), .d (.v (.string s)), .string s, [], fun w' hcw => ?_, fun p hp => ?_, fun p hp => ?_, rfl, hK⟩
  · have hl : (loadCells ⟨b, off, none⟩ (bytesD s).length).run P w' = .ok ((s.data.toList.map fun c => (c.toNat : Int)).map (Value.int .u8)).toArray w' := by
      have := run_loadCells_list (P := P) w' ⟨b, off, none⟩ ((s.data.toList.map fun c => (c.toNat : Int)).map (Value.int .u8)) (fun j v hj => by
        rw [addr_add]
        simp only [List.getElem?_map] at hj
        cases hjc : s.data.toList[j]? with
        | none => rw [hjc] at hj; cases hj
        | some c =>
          rw [hjc] at hj
          simp only [Option.map_some, Option.some.injEq] at hj
          subst hj
          exact hcw _ (List.mem_map.2 ⟨(c, j), List.mem_zipIdx_iff_getElem?.2 hjc, rfl⟩))
      simpa [bytesD] using this
    simp only [execOp, ho, h1, Sem.run_bind, run_convert_bytes_string w' src dst e _ _ _ hu he hd, run_bytesToString w' _ _ _ _ hl, Result.andThen_ok, bytes_fold]
    rfl
  · obtain ⟨⟨c, j⟩, hq, rfl⟩ := List.mem_map.1 hp
    rw [List.mem_zipIdx_iff_getElem?] at hq
    exact (hr.store.sat _ _ _ (hm j c hq)).1
  · obtain ⟨⟨c, j⟩, hq, rfl⟩ := List.mem_map.1 hp
    rw [List.mem_zipIdx_iff_getElem?] at hq
    exact ⟨rfl, .inl (hm j c hq)⟩
end Go.Vd
namespace Go.Proofs.YtneaancanfpdhaaGreatDoor
open Go Go.Vd Go.RowKit
attribute [local irreducible] Runs OpsR OpR FloatR AnyR AnyO
variable {g gl : Nat → List D}

/-- a number's digits -/
def digR (n : Nat) : ByteArray := if h : n < 10 then ⟨#[UInt8.ofNat (48 + n % 10)]⟩ else digR (n / 10) ++ ⟨#[UInt8.ofNat (48 + n % 10)]⟩
theorem digR_one {n : Nat} (h : n < 10) : digR n = ⟨#[UInt8.ofNat (48 + n % 10)]⟩ := by rw [digR, dif_pos h]
theorem digR_more {n : Nat} (h : ¬ n < 10) : digR n = digR (n / 10) ++ ⟨#[UInt8.ofNat (48 + n % 10)]⟩ := by rw [digR, dif_neg h]
theorem digR_size (n : Nat) : (digR n).size ≤ n + 1 := by
  induction n using Nat.strongRecOn with
  | _ n ih =>
    by_cases h : n < 10
    · rw [digR_one h]; show 1 ≤ _; omega
    · rw [digR_more h, ByteArray.size_append]
      have := ih (n / 10) (by omega)
      have h1 : (ByteArray.mk #[UInt8.ofNat (48 + n % 10)]).size = 1 := rfl
      omega
theorem dig_lit (n : Nat) : [[D.v (.int .u8 (IntKind.wrap .u8 (48 + (n : Int) % 10)))]] = bytesD ⟨#[UInt8.ofNat (48 + n % 10)]⟩ := by
  have h : IntKind.wrap .u8 (48 + (n : Int) % 10) = ((UInt8.ofNat (48 + n % 10)).toNat : Int) := by
    unfold IntKind.wrap
    simp [IntKind.bits, IntKind.signed]
  rw [h]; rfl
theorem digits_spec (n : Nat) (hn : n ≤ 1099511627776) : TriD Tryz.prog gl 68 [.v (.int .i64 n)] (· = .v (.string (digR n))) := by
  induction n using Nat.strongRecOn with
  | _ n ih =>
    have hsz := digR_size (n / 10)
    have h1s : (ByteArray.mk #[UInt8.ofNat (48 + n % 10)]).size = 1 := rfl
    refine triD_of_runs Tryz.func68 rfl Tryz.ntmps68 (rs := [.tmp 2]) rfl rfl rfl ?_
    refine sr ?_; refine o1 (asg ?_); refine nx ?_; refine sr ?_; refine o1 (mv ?_); refine o1 (f_rem ?_); refine o1 (iad ?_); refine o1 (fl_conv ui5 uo3 rfl rfl ?_)
    refine oc (T := fun _ => False) (op_lit sl89 [.tmp 7] ti5 rfl rfl rfl rfl rfl rfl rfl (by decide) (by decide) (by decide) (by simp only [List.length_cons, List.length_nil, Nat.reduceAdd]; rfl) rfl ?_)
    refine o1 (fl_bytes_str sl89.under ui5 ut9 rfl rfl (dig_lit n) (by intro e; have := congrArg ByteArray.size e; rw [h1s] at this; cases this) ?_); refine o1 (asg ?_); refine nx ?_; refine runs_seq ?_; refine kp [3, 0] ?_; refine sr ?_
    refine o1 (mv ?_); refine o1 (ilt ?_); refine nx ?_; refine cd (fun h2 => ?_) (fun h2 => ?_)
    · (try simp only [nrm, Int.reduceEq, Int.reduceNe, Int.reduceLT, Int.reduceLE] at h2)
      refine sr ?_; refine o1 (mv ?_); refine o1 (asg ?_); refine nx ?_; refine runs_ret ?_; refine seq_ret ?_; refine fin_ret ?_; refine fin_d1 rfl rfl ?_
      rw [digR_one (by omega)]
    (try simp only [nrm, Int.reduceEq, Int.reduceNe, Int.reduceLT, Int.reduceLE] at h2); refine runs_skip ?_; refine seq_normal ?_; refine sr ?_; refine o1 (mv ?_); refine o1 (fl_quo rfl rfl rfl (by omega) ?_)
    refine oc (cv ca68 rfl rfl (ih (n / 10) (by omega) (by omega)) (fir .nil) ?_); refine o1 (mv ?_); refine o1 (f_sadd ?_ (hb := by (try simp only [ByteArray.size_append, size_mk, List.size_toArray, List.length_cons, List.length_nil]); omega))
    refine o1 (asg ?_); refine nx ?_; refine runs_ret ?_; refine fin_ret ?_; refine fin_d1 rfl rfl ?_
    rw [digR_more (n := n) (by omega)]
end Go.Proofs.YtneaancanfpdhaaGreatDoor
namespace Go.Proofs.YtneaancanfpdhaaGreatDoor
open Go Go.Vd Go.RowKit
attribute [local irreducible] Runs OpsR OpR FloatR AnyR
variable {gl : Nat → List D}

/-- a builder: used or not, and what it holds -/
def bldA (used : Bool) : SV := cond used (.blk 0 0) (.d (.v (.pointer none)))
def bldO (used : Bool) (s : ByteArray) : List Ob := [.cells [bldA used, .own 1 1 (bytesD s)] 91, .row 5 1]

theorem noesc (y : Value) (w : World) : (callFunc 130 #[y]).run Tryz.prog w = .ok (.value y) w := by
  rw [run_callFunc_extern Tryz.func130 (by kernel_rfl) (by kernel_rfl) (by kernel_rfl) (e := Extern.AbiNoEscape.same) (by kernel_rfl)]
  rw [Lib.run_noEscape]
  rfl

theorem check_spec (used : Bool) (s : ByteArray) :
    Tri Tryz.prog gl 111 (bldO used s) [.blk 0 0] fun out ob' => out = .ret (.d (.tup [])) ∧ ob' = bldO true s := by
  cases used with
  | false =>
    unfold bldO bldA
    dsimp only [cond_true, cond_false]
    refine triS_of_runs Tryz.func111 rfl Tryz.ntmps111 (rs := []) rfl rfl rfl 2 rfl ?_
    refine sr ?_; refine o1 (mv ?_); refine o1 (ncb ?_); refine o1 (fdb ti91 ?_); refine o1 (ldb ti88 ?_); refine o1 (f_peql_nil up88 ?_); refine nx ?_; refine cdf (fun h0 => ?_) (fun h0 => ?_)
    · simp only [nrm, Int.reduceEq, Int.reduceNe, Int.reduceLT, Int.reduceLE] at h0
    (try simp only [nrm, Int.reduceEq, Int.reduceNe, Int.reduceLT, Int.reduceLE] at h0); refine kp [0] ?_; refine runs_region ?_; refine o1 (mv ?_); refine o1 (mv ?_)
    refine oc (T := fun _ => False) (op_to_unsafe up88 uu136 ti91 rfl rfl rfl rfl rfl rfl rfl ?_); refine oc (T := fun _ => False) (op_same noesc rfl rfl rfl rfl ?_)
    refine oc (T := fun _ => False) (op_from_unsafe uu136 up88 ti91 rfl (by kernel_rfl) rfl rfl rfl rfl rfl rfl ?_); refine o1 (ncb ?_); refine o1 (fdb ti91 ?_); refine oc (sto ti88 ?_); refine ops_nil ?_; refine fin_normal ?_
    refine fin_od (l := []) rfl rfl ([0, 1]) ([.cells [.blk 0 0, .own 1 1 (bytesD s)] 91, .row 5 1]) rfl rfl rfl ?_ ?_
    · repeat (first | exact boz | refine boc ?_ | refine bor ?_)
    · exact ⟨rfl, rfl⟩
  | true =>
    unfold bldO bldA
    dsimp only [cond_true, cond_false]
    refine triS_of_runs Tryz.func111 rfl Tryz.ntmps111 (rs := []) rfl rfl rfl 2 rfl ?_
    refine sr ?_; refine o1 (mv ?_); refine o1 (ncb ?_); refine o1 (fdb ti91 ?_); refine o1 (ldb ti88 ?_); refine o1 (f_peql_blk up88 ?_); refine nx ?_; refine cd (fun h0 => ?_) (fun h0 => ?_)
    · simp only [nrm, Int.reduceEq, Int.reduceNe, Int.reduceLT, Int.reduceLE] at h0
    (try simp only [nrm, Int.reduceEq, Int.reduceNe, Int.reduceLT, Int.reduceLE] at h0); refine kp [0] ?_; refine sr ?_; refine o1 (mv ?_); refine o1 (ncb ?_); refine o1 (fdb ti91 ?_); refine o1 (ldb ti88 ?_); refine o1 (mv ?_)
    refine o1 (f_pneq_self up88 ti91 ?_); refine nx ?_; refine cd (fun h2 => ?_) (fun h2 => ?_)
    · simp only [nrm, Int.reduceEq, Int.reduceNe, Int.reduceLT, Int.reduceLE] at h2
    (try simp only [nrm, Int.reduceEq, Int.reduceNe, Int.reduceLT, Int.reduceLE] at h2); refine runs_skip ?_; refine fin_normal ?_
    refine fin_od (l := []) rfl rfl ([0, 1]) ([.cells [.blk 0 0, .own 1 1 (bytesD s)] 91, .row 5 1]) rfl rfl rfl ?_ ?_
    · repeat (first | exact boz | refine boc ?_ | refine bor ?_)
    · exact ⟨rfl, rfl⟩

theorem ws_spec (used : Bool) (s t : ByteArray) (ht : t ≠ .empty) (hb : s.size + t.size ≤ 70368744177664) :
    Tri Tryz.prog gl 79 (bldO used s) [.blk 0 0, .d (.v (.string t))] fun out ob' => out = .ret (.d (.tup [.v (.int .i64 t.size), .v .nilIface])) ∧ ob' = bldO true (s ++ t) := by
  have hck := check_spec (gl := gl) used s
  cases used
  all_goals (
    unfold bldO bldA
    dsimp only [cond_true, cond_false]
    refine triS_of_runs Tryz.func79 rfl Tryz.ntmps79 (rs := [.tmp 4, .tmp 5]) rfl rfl rfl 2 rfl ?_
    refine sr ?_; refine o1 (asg ?_); refine o1 (asg ?_); refine nx ?_; refine sr ?_; refine o1 (mv ?_); refine oc (ck ca111 rfl rfl (hck) [0, 1] rfl (boc (bor .nil)) (fir .nil) ?_); refine nx ?_; refine kp [0, 1] ?_; refine sr ?_
    refine o1 (mv ?_); refine o1 (mv ?_); refine o1 (ncb ?_); refine o1 (fdb ti91 ?_); refine o1 (ldb ti89 ?_); refine o1 (mv ?_); refine oc (op_appends sl89 ut9 rfl rfl rfl rfl rfl rfl (.inl rfl) (ht) (by omega) rfl rfl rfl ?_)
    refine o1 (ncb ?_); refine o1 (fdb ti91 ?_); refine oc (sto ti89 ?_); refine nx ?_; refine kp [1] ?_; refine sr ?_; refine o1 (mv ?_); refine o1 (le3 ut9 ?_); refine o1 (asg ?_); refine o1 (asg ?_); refine nx ?_; refine runs_ret ?_
    refine fin_ret ?_; refine fin_od ⟨_, _, rfl, rfl, ⟨_, _, rfl, rfl, rfl⟩⟩ rfl ([0, 1]) ([.cells [.blk 0 0, .own 1 1 (bytesD (s ++ t))] 91, .row 5 1]) rfl rfl rfl ?_ ?_
    · repeat (first | exact boz | refine boc ?_ | refine bor ?_)
    · exact ⟨rfl, rfl⟩
  )

theorem bytesD_push (s : ByteArray) (c : UInt8) : bytesD s ++ [[.v (.int .u8 c.toNat)]] = bytesD (s ++ ⟨#[c]⟩) := by
  rw [← bytesD_app]; rfl

theorem wb_spec (used : Bool) (s : ByteArray) (c : UInt8) (hb : s.size ≤ 70368744177664) :
    Tri Tryz.prog gl 100 (bldO used s) [.blk 0 0, .d (.v (.int .u8 c.toNat))] fun out ob' => out = .ret (.d (.v .nilIface)) ∧ ob' = bldO true (s ++ ⟨#[c]⟩) := by
  have hl := bytesD_len s
  have hck := check_spec (gl := gl) used s
  cases used
  all_goals (
    unfold bldO bldA
    dsimp only [cond_true, cond_false]
    refine triS_of_runs Tryz.func100 rfl Tryz.ntmps100 (rs := [.tmp 4]) rfl rfl rfl 2 rfl ?_
    refine sr ?_; refine o1 (asg ?_); refine nx ?_; refine sr ?_; refine o1 (mv ?_); refine oc (ck ca111 rfl rfl (hck) [0, 1] rfl (boc (bor .nil)) (fir .nil) ?_); refine nx ?_; refine sr ?_; refine o1 (mv ?_); refine o1 (mv ?_)
    refine o1 (ncb ?_); refine o1 (fdb ti91 ?_); refine o1 (ldb ti89 ?_); refine o1 (mv ?_)
    refine oc (T := fun _ => False) (op_lit sl89 [.tmp 12] ti5 rfl rfl rfl rfl rfl rfl rfl (by decide) (by decide) (by decide) (by simp only [List.length_cons, List.length_nil, Nat.reduceAdd]; rfl) rfl ?_)
    refine oc (op_append sl89 rfl rfl rfl rfl rfl rfl rfl (.inl rfl) (by decide) (by simp) (by simp only [maxLen, hl, List.length_cons, List.length_nil]; omega) rfl rfl rfl ?_); refine o1 (ncb ?_); refine o1 (fdb ti91 ?_)
    refine oc (sto ti89 ?_); refine nx ?_; refine kp [] ?_; refine sr ?_; refine o1 (asg ?_); refine nx ?_; refine runs_ret ?_; refine fin_ret ?_
    refine fin_od ⟨_, _, rfl, rfl, rfl⟩ rfl ([0, 1]) ([.cells [.blk 0 0, .own 1 1 (bytesD s ++ [[.v (.int .u8 c.toNat)]])] 91, .row 5 1]) rfl rfl rfl ?_ ?_
    · repeat (first | exact boz | refine boc ?_ | refine bor ?_)
    · exact ⟨rfl, by rw [bytesD_push]⟩
  )

theorem bstr_spec (s : ByteArray) (hs : s ≠ .empty) :
    Tri Tryz.prog gl 67 (bldO true s) [.blk 0 0] fun out ob' => out = .ret (.d (.v (.string s))) ∧ ob' = [.dead, .dead] := by
  have hl := bytesD_len s
  have hne := bytesD_ne hs
  unfold bldO
  refine triS_of_runs Tryz.func67 rfl Tryz.ntmps67 (rs := [.tmp 2]) rfl rfl rfl 2 rfl ?_
  refine sr ?_; refine o1 (asg ?_); refine nx ?_; refine runs_seq ?_; refine a_start ?_ (hm := by exact mixed); refine A1 0 rfl (mv ⟨_, rfl, ?_⟩); refine A1 1 rfl (ncb ⟨_, rfl, ?_⟩); refine A1 2 rfl (fdb ti91 ⟨_, rfl, ?_⟩)
  refine A1 3 rfl (ldb ti89 ⟨_, rfl, ?_⟩); refine A1 4 rfl (f_usd ⟨_, rfl, ?_⟩ (hne := by exact hne)); refine A1 5 rfl (mv ⟨_, rfl, ?_⟩); refine A1 6 rfl (ncb ⟨_, rfl, ?_⟩); refine A1 7 rfl (fdb ti91 ⟨_, rfl, ?_⟩)
  refine A1 8 rfl (ldb ti89 ⟨_, rfl, ?_⟩); refine A1 9 rfl (le2 us89 ⟨_, rfl, ?_⟩); refine A2 10 rfl (op_ustr (u := 6) up123 (by kernel_rfl) rfl rfl rfl rfl rfl rfl rfl hs (by rw [hl]) rfl rfl ?_); refine A1 11 rfl (asg ⟨_, rfl, ?_⟩)
  refine a_end ?_; refine seq_normal ?_; refine runs_ret ?_; refine fin_ret ?_; refine fin_od ⟨_, _, rfl, rfl, rfl⟩ rfl ([0, 1]) ([.dead, .dead]) rfl rfl rfl ?_ ?_
  · repeat (first | exact boz | refine bod ?_)
  · exact ⟨rfl, rfl⟩
end Go.Proofs.YtneaancanfpdhaaGreatDoor
namespace Go.Proofs.YtneaancanfpdhaaGreatDoor
open Go Go.Vd Go.RowKit
attribute [local irreducible] Runs OpsR OpR FloatR AnyR
variable {gl : Nat → List D}

def word (k : Int) : ByteArray := if k = 1 then ⟨#[115]⟩ else if k = 2 then ⟨#[109, 97, 120]⟩ else if k = 3 then ⟨#[105, 109, 97, 120]⟩ else .empty
def wordsD : List D := [.v (.string .empty), .v (.string ⟨#[115]⟩), .v (.string ⟨#[109, 97, 120]⟩), .v (.string ⟨#[105, 109, 97, 120]⟩)]
theorem word_at {k : Int} (h0 : 0 ≤ k) (h1 : k < 4) (hw : gl 3 = wordsD) : ∃ r, dropO (k.toNat * 1) (gl 3) = some (.v (.string (word k)) :: r) := by
  rw [hw]
  have : k = 0 ∨ k = 1 ∨ k = 2 ∨ k = 3 := by omega
  rcases this with rfl | rfl | rfl | rfl <;> exact ⟨_, rfl⟩
theorem word_size (k : Int) : (word k).size ≤ 4 := by
  unfold word; split
  · decide
  · split
    · decide
    · split <;> decide

mutual
def wr : Lvl → ByteArray
  | .mk k s args => if k = 0 then ⟨#[48]⟩ else if k = 4 then s else ⟨#[40]⟩ ++ word k ++ wrL args ++ ⟨#[41]⟩
def wrL : List Lvl → ByteArray
  | [] => .empty
  | l :: r => ⟨#[32]⟩ ++ wr l ++ wrL r
end
theorem wrL_append (l m : List Lvl) : wrL (l ++ m) = wrL l ++ wrL m := by
  induction l with
  | nil => simp [wrL]
  | cons a r ih => simp only [List.cons_append, wrL, ih, ByteArray.append_assoc]
theorem wrL_take {l : List Lvl} {i : Nat} {a : Lvl} (h : l[i]? = some a) : wrL (l.take (i + 1)) = wrL (l.take i) ++ ⟨#[32]⟩ ++ wr a := by
  rw [List.take_add_one, h]; simp [wrL_append, wrL, ByteArray.append_assoc]
theorem wrL_take_le (l : List Lvl) (i : Nat) : (wrL (l.take i)).size ≤ (wrL l).size := by
  have : wrL l = wrL (l.take i) ++ wrL (l.drop i) := by rw [← wrL_append, List.take_append_drop]
  rw [this, ByteArray.size_append]; omega
theorem fit_get : ∀ {ls : List Lvl} {i : Nat} {l : Lvl}, fitL ls → ls[i]? = some l → fitP l
  | [], i, l, _, h => by simp at h
  | a :: r, 0, l, hf, h => by simp at h; subst h; exact hf.1
  | a :: r, i + 1, l, hf, h => fit_get hf.2 (by simpa using h)

theorem write_spec (hw : gl 3 = wordsD) : ∀ (n : Nat) (k : Int) (s : ByteArray) (args : List Lvl) (used : Bool) (b : ByteArray), (Lvl.mk k s args).size ≤ n → (Lvl.mk k s args).size ≤ 1099511627776 → fitP (Lvl.mk k s args) → b.size + (wr (.mk k s args)).size ≤ 35184372088832 →
    Tri Tryz.prog gl 117 (bldO used b) [.blk 0 0, .d (Lvl.mk k s args).d] fun out ob' => out = .ret (.d (.tup [])) ∧ ob' = bldO true (b ++ wr (.mk k s args)) := by
  intro n
  induction n with
  | zero => intro k s args used b h; simp [Lvl.size] at h
  | succ n ih =>
    intro k s args used b hn hb hf hsize
    have hsz : sizes args ≤ n := by simp [Lvl.size] at hn; omega
    have hlen := lvls_len args
    have hlb := lvls_size args
    simp only [Lvl.size] at hb
    obtain ⟨hf0, hf4, hfs, hfa⟩ := hf
    have hws := word_size k
    by_cases hk0 : k = 0
    · subst hk0
      have hck := ws_spec (gl := gl) used b ⟨#[48]⟩ (by decide) (by simp [size_mk]; omega)
      rw [show wr (.mk 0 s args) = ⟨#[48]⟩ by simp [wr]]
      cases used
      all_goals (
        unfold bldO bldA
        dsimp only [cond_true, cond_false]
        refine triS_of_runs Tryz.func117 rfl Tryz.ntmps117 (rs := []) rfl rfl rfl 2 rfl ?_
        refine sr ?_; refine oc (T := fun _ => False) (bx ti45 ?_ (hl := by simp only [List.length_cons, List.length_nil, Nat.reduceAdd]; rfl)); refine nx ?_; refine sr ?_; refine o1 (fdb ti45 ?_); refine o1 (ldb ti3 ?_); refine nx ?_
        refine runs_block ?_; refine sr ?_; refine o1 (ieq ?_); refine o1 (asg ?_); refine nx ?_; refine cdf (fun h10 => ?_) (fun h10 => ?_)
        · simp only [nrm, Int.reduceEq, Int.reduceNe, Int.reduceLT, Int.reduceLE] at h10
        (try simp only [nrm, Int.reduceEq, Int.reduceNe, Int.reduceLT, Int.reduceLE] at h10); refine kp [0] ?_; refine runs_region ?_; refine o1 (mv ?_); refine oc (ck ca79 rfl rfl (hck) [0, 1] rfl (boc (bor .nil)) (fir (fir .nil)) ?_)
        refine ops_nil ?_; refine inb_normal ?_; refine fin_normal ?_; refine fin_od (l := []) rfl rfl ([0, 1]) (bldO true (b ++ ⟨#[48]⟩)) rfl rfl rfl ?_ ?_
        · repeat (first | exact boz | refine boc ?_ | refine bor ?_)
        · exact ⟨rfl, rfl⟩
      )
    by_cases hk4 : k = 4
    · subst hk4
      rw [show wr (.mk 4 s args) = s by simp [wr]] at hsize ⊢
      have hck := ws_spec (gl := gl) used b s (hfs rfl) (by omega)
      cases used
      all_goals (
        unfold bldO bldA
        dsimp only [cond_true, cond_false]
        refine triS_of_runs Tryz.func117 rfl Tryz.ntmps117 (rs := []) rfl rfl rfl 2 rfl ?_
        refine sr ?_; refine oc (T := fun _ => False) (bx ti45 ?_ (hl := by simp only [List.length_cons, List.length_nil, Nat.reduceAdd]; rfl)); refine nx ?_; refine sr ?_; refine o1 (fdb ti45 ?_); refine o1 (ldb ti3 ?_); refine nx ?_
        refine runs_block ?_; refine sr ?_; refine o1 (ieq ?_); refine o1 (asg ?_); refine nx ?_; refine cd (fun h10 => ?_) (fun h10 => ?_)
        · simp only [nrm, Int.reduceEq, Int.reduceNe, Int.reduceLT, Int.reduceLE] at h10
        (try simp only [nrm, Int.reduceEq, Int.reduceNe, Int.reduceLT, Int.reduceLE] at h10); refine kp [7, 3, 0] ?_; refine sr ?_; refine o1 (ieq ?_); refine o1 (asg ?_); refine nx ?_; refine cdf (fun h12 => ?_) (fun h12 => ?_)
        · simp only [nrm, Int.reduceEq, Int.reduceNe, Int.reduceLT, Int.reduceLE] at h12
        (try simp only [nrm, Int.reduceEq, Int.reduceNe, Int.reduceLT, Int.reduceLE] at h12); refine runs_region ?_; refine o1 (mv ?_); refine o1 (fdb ti45 ?_); refine o1 (ldb ti9 ?_)
        refine oc (ck ca79 rfl rfl (hck) [0, 1] rfl (boc (bor .nil)) (fir (fir .nil)) ?_); refine ops_nil ?_; refine inb_normal ?_; refine fin_normal ?_; refine fin_od (l := []) rfl rfl ([0, 1]) (bldO true (b ++ s)) rfl rfl rfl ?_ ?_
        · repeat (first | exact boz | refine boc ?_ | refine bor ?_)
        · exact ⟨rfl, rfl⟩
      )
    have hwr : wr (.mk k s args) = ⟨#[40]⟩ ++ word k ++ wrL args ++ ⟨#[41]⟩ := by simp only [wr, if_neg hk0, if_neg hk4]
    rw [hwr] at hsize ⊢
    simp only [ByteArray.size_append, size_mk, List.size_toArray, List.length_cons, List.length_nil] at hsize
    obtain ⟨rr, hat⟩ := word_at (gl := gl) hf0 (show k < 4 by omega) hw
    have hck := ws_spec (gl := gl) used b (⟨#[40]⟩ ++ word k) (fun e => by have := congrArg ByteArray.size e; simp only [ByteArray.size_append, size_mk, List.size_toArray, List.length_cons, List.length_nil, ByteArray.size_empty] at this; omega) (by simp only [ByteArray.size_append, size_mk, List.size_toArray, List.length_cons, List.length_nil]; omega)
    cases used
    all_goals (
      unfold bldO bldA
      dsimp only [cond_true, cond_false]
      refine triS_of_runs Tryz.func117 rfl Tryz.ntmps117 (rs := []) rfl rfl rfl 2 rfl ?_
      refine sr ?_; refine oc (T := fun _ => False) (bx ti45 ?_ (hl := by simp only [List.length_cons, List.length_nil, Nat.reduceAdd]; rfl)); refine nx ?_; refine sr ?_; refine o1 (fdb ti45 ?_); refine o1 (ldb ti3 ?_); refine nx ?_
      refine runs_block ?_; refine sr ?_; refine o1 (ieq ?_); refine o1 (asg ?_); refine nx ?_; refine cd (fun h10 => ?_) (fun h10 => ?_)
      · (try simp only [nrm, Int.reduceEq, Int.reduceNe, Int.reduceLT, Int.reduceLE] at h10); contradiction
      (try simp only [nrm, Int.reduceEq, Int.reduceNe, Int.reduceLT, Int.reduceLE] at h10); refine kp [7, 3, 0] ?_; refine sr ?_; refine o1 (ieq ?_); refine o1 (asg ?_); refine nx ?_; refine cd (fun h12 => ?_) (fun h12 => ?_)
      · (try simp only [nrm, Int.reduceEq, Int.reduceNe, Int.reduceLT, Int.reduceLE] at h12); contradiction
      (try simp only [nrm, Int.reduceEq, Int.reduceNe, Int.reduceLT, Int.reduceLE] at h12); refine sr ?_; refine o1 (mv ?_); refine o1 (fdb ti45 ?_); refine o1 (ldb ti3 ?_); refine o1 (f_index_arr ua155 ti9 ?_ (hl := by exact (hat)))
      refine o1 (ldc ti9 ?_); refine o1 (f_sadd ?_ (hb := by (try simp only [ByteArray.size_append, size_mk, List.size_toArray, List.length_cons, List.length_nil]); omega))
      refine oc (ck ca79 rfl rfl (hck) [0, 1] rfl (boc (bor .nil)) (fir (fir .nil)) ?_); refine nx ?_; refine runs_seq ?_; refine kp [3, 0] ?_; refine sr ?_; refine o1 (fdb ti45 ?_); refine o1 (ldb ti28 ?_); refine o1 (le1 us28 ?_)
      refine o1 (mv ?_); refine nx ?_; refine runs_block ?_; refine kp [18, 17, 16, 0] ?_
      rw [show b ++ (⟨#[40]⟩ ++ word k) = b ++ (⟨#[40]⟩ ++ word k) ++ wrL (args.take 0) by simp [wrL]]
      apply runs_loop_o (ι := Nat) (fun i => [(18, int i)]) (fun i => [.cells [.blk 0 0, .own 1 1 (bytesD (b ++ (⟨#[40]⟩ ++ word k) ++ wrL (args.take i)))] 91, .row 5 1, .cells [.d (.v (.int .i64 k)), .d (.v (.string s)), .d (.sl 3 (lvls args))] 45]) [17, 16, 0] (fun i => i ≤ args.length) (fun i => args.length - i) (0) ([0, 1, 2])
      case hk => exact rfl
      case hI =>
        exact Nat.zero_le _
      case hm =>
        refine mo ?_ (sly (sly (sly (sly slz))))
        repeat (first | exact boz | refine boc ?_ | refine bor ?_)
      case h =>
        rintro i hinv
        try dsimp only at hinv
        refine kp [18, 17, 16, 0] ?_; refine sr ?_; refine o1 (ilt ?_); refine nx ?_; refine runs_seq ?_; refine cdf (fun h4 => ?_) (fun h4 => ?_)
        · (try simp only [nrm, Int.reduceEq, Int.reduceNe, Int.reduceLT, Int.reduceLE] at h4)
          refine runs_exit ?_; refine seq_exit ?_; refine seq_exit ?_; refine inb_exit ?_; refine seq_normal ?_; refine kp [0] ?_
          have hsl := wrL_take_le args i
          refine runs_region ?_; refine o1 (mv ?_)
          refine oc (ck ca100 rfl rfl (wb_spec true (b ++ (⟨#[40]⟩ ++ word k) ++ wrL (args.take i)) 41 (by simp only [ByteArray.size_append, size_mk, List.size_toArray, List.length_cons, List.length_nil]; omega)) [0, 1] rfl (boc (bor .nil)) (fir (fir .nil)) ?_)
          refine ops_nil ?_; refine inb_normal ?_; refine fin_normal ?_; refine fin_od (l := []) rfl rfl ([0, 1]) (bldO true (b ++ (⟨#[40]⟩ ++ word k) ++ wrL (args.take i) ++ ⟨#[41]⟩)) rfl rfl rfl ?_ ?_
          · repeat (first | exact boz | refine boc ?_ | refine bor ?_)
          · refine ⟨rfl, ?_⟩; rw [List.take_of_length_le (by omega)]; simp only [ByteArray.append_assoc]; rfl
        (try simp only [nrm, Int.reduceEq, Int.reduceNe, Int.reduceLT, Int.reduceLE] at h4); refine runs_skip ?_; refine seq_normal ?_; refine runs_seq ?_; refine runs_block ?_; refine runs_seq ?_
        obtain ⟨k', s', a', hget⟩ := lvl_get (show i < args.length by omega)
        have hsz' := size_get hget
        have hf' := fit_get hfa hget
        have hst := congrArg ByteArray.size (wrL_take hget)
        simp only [ByteArray.size_append, size_mk, List.size_toArray, List.length_cons, List.length_nil] at hst
        have hsl := wrL_take_le args (i + 1)
        refine runs_region ?_; refine o1 (ixs us28 te28 ?_ (he := by exact (lvl_at hget))); refine o1 (ldc ti45 ?_); refine oc (T := fun _ => False) (alc ti45 ?_ (hl := by simp only [List.length_cons, List.length_nil, Nat.reduceAdd]; rfl))
        refine oc (sto ti45 ?_); refine nx ?_; refine sr ?_; refine o1 (mv ?_)
        refine oc (ck ca100 rfl rfl (wb_spec true (b ++ (⟨#[40]⟩ ++ word k) ++ wrL (args.take i)) 32 (by simp only [ByteArray.size_append, size_mk, List.size_toArray, List.length_cons, List.length_nil]; omega)) [0, 1] rfl (boc (bor .nil)) (fir (fir .nil)) ?_)
        refine nx ?_; refine kp [5, 18, 17, 16, 0] ?_; refine runs_region ?_; refine o1 (mv ?_); refine o1 (ldb ti45 ?_)
        refine oc (ck ca117 rfl rfl (ih k' s' a' true (b ++ (⟨#[40]⟩ ++ word k) ++ wrL (args.take i) ++ ⟨#[32]⟩) (by omega) (by omega) hf' (by simp only [ByteArray.size_append, size_mk, List.size_toArray, List.length_cons, List.length_nil]; omega)) [0, 1] rfl (boc (bor .nil)) (fir (fid .nil)) ?_)
        refine ops_nil ?_; refine inb_normal ?_; refine seq_normal ?_; refine kp [18, 17, 16, 0] ?_; refine runs_region ?_; refine o1 (iad ?_); refine o1 (mv ?_); refine ops_nil ?_; refine seq_back ?_
        rw [show b ++ (⟨#[40]⟩ ++ word k) ++ wrL (args.take i) ++ ⟨#[32]⟩ ++ wr (.mk k' s' a') = b ++ (⟨#[40]⟩ ++ word k) ++ wrL (args.take (i + 1)) by rw [wrL_take hget]; simp only [ByteArray.append_assoc]]
        refine back_c (i + 1) rfl ?_ ([0, 1, 2]) ?_
        · exact ⟨by omega, by omega⟩
        · refine mo ?_ (sly (sly (sly (sly slz))))
          repeat (first | exact boz | refine boc ?_ | refine bor ?_)
    )

theorem wr_ne {k : Int} {s : ByteArray} {args : List Lvl} (h : fitP (.mk k s args)) : wr (.mk k s args) ≠ .empty := by
  simp only [wr]
  split
  · decide
  · split
    · rename_i h4; exact h.2.2.1 h4
    · intro e
      have := congrArg ByteArray.size e
      simp only [ByteArray.size_append, size_mk, List.size_toArray, List.length_cons, List.length_nil, ByteArray.size_empty] at this; omega

theorem pprint_spec (hw : gl 3 = wordsD) (k : Int) (s : ByteArray) (args : List Lvl) (hb : (Lvl.mk k s args).size ≤ 1099511627776) (hf : fitP (.mk k s args)) (hs : (wr (.mk k s args)).size ≤ 35184372088832) :
    TriD Tryz.prog gl 99 [(Lvl.mk k s args).d] (· = .v (.string (wr (.mk k s args)))) := by
  have hwe := write_spec (gl := gl) hw _ k s args false .empty (Nat.le_refl _) hb hf (by simpa using hs)
  rw [ByteArray.empty_append] at hwe
  refine triD_of_runs Tryz.func99 rfl Tryz.ntmps99 (rs := [.tmp 2]) rfl rfl rfl ?_
  refine sr ?_; refine oc (T := fun _ => False) (bx ti45 ?_ (hl := by simp only [List.length_cons, List.length_nil, Nat.reduceAdd]; rfl)); refine o1 (asg ?_); refine nx ?_; refine sr ?_
  refine oc (T := fun _ => False) (alc ti91 ?_ (hl := by simp only [List.length_cons, List.length_nil, Nat.reduceAdd]; rfl)); refine nx ?_; refine runs_seq ?_; refine runs_nilrow 5 1 rfl ?_; refine runs_region ?_; refine o1 (ldb ti45 ?_)
  refine oc (ck ca117 rfl rfl (hwe) [1, 2] rfl (.cons rfl (.cells rfl (by repeat (first | exact fiz | refine fir ?_ | refine .cons (.nil rfl) ?_))) (bon .nil)) (fir (fid .nil)) ?_); refine nx ?_; refine kp [3] ?_; refine sr ?_
  refine oc (ck ca67 rfl rfl (bstr_spec (wr (.mk k s args)) (wr_ne hf)) [1, 2] rfl (boc (bor .nil)) (fir .nil) ?_); refine o1 (asg ?_); refine nx ?_; refine runs_ret ?_; refine fin_ret ?_; refine fin_d1 rfl rfl ?_
  rfl

theorem wr_lev : ∀ l : Lev, wr l.toLvl = l.print
  | .zero => by simp [Lev.toLvl, wr, Lev.print]
  | .param s => by simp [Lev.toLvl, wr, Lev.print]
  | .succ a => by
    have h := wr_lev a
    simp only [Lev.toLvl, wr, wrL, Lev.print, h]
    rw [if_neg (by decide), if_neg (by decide), show (⟨#[40, 115, 32]⟩ : ByteArray) = ⟨#[40]⟩ ++ word 1 ++ ⟨#[32]⟩ by rfl]
    simp only [ByteArray.append_assoc, ByteArray.append_empty]
  | .max a b => by
    have h := wr_lev a
    have h2 := wr_lev b
    simp only [Lev.toLvl, wr, wrL, Lev.print, h, h2]
    rw [if_neg (by decide), if_neg (by decide), show (⟨#[109, 97, 120]⟩ : ByteArray) = word 2 by rfl]
    simp only [ByteArray.append_assoc, ByteArray.append_empty]
  | .imax a b => by
    have h := wr_lev a
    have h2 := wr_lev b
    simp only [Lev.toLvl, wr, wrL, Lev.print, h, h2]
    rw [if_neg (by decide), if_neg (by decide), show (⟨#[105, 109, 97, 120]⟩ : ByteArray) = word 3 by rfl]
    simp only [ByteArray.append_assoc, ByteArray.append_empty]
end Go.Proofs.YtneaancanfpdhaaGreatDoor
namespace Go.Proofs.YtneaancanfpdhaaGreatDoor
open Go Go.Vd Go.RowKit
attribute [local irreducible] Runs OpsR OpR FloatR AnyR AnyO
variable {g gl : Nat → List D}

mutual
/-- the bytes of names, and ten for each part -/
def wtL : Lvl → Nat
  | .mk _ s args => 10 + s.size + wtLs args
def wtLs : List Lvl → Nat
  | [] => 0
  | l :: r => wtL l + wtLs r
end
theorem wtL_lev : ∀ x : Lev, wtL x.toLvl = x.weight
  | .zero => by simp [Lev.toLvl, wtL, wtLs, Lev.weight]
  | .succ a => by simp [Lev.toLvl, wtL, wtLs, Lev.weight, wtL_lev a]
  | .max a b => by simp [Lev.toLvl, wtL, wtLs, Lev.weight, wtL_lev a, wtL_lev b]; omega
  | .imax a b => by simp [Lev.toLvl, wtL, wtLs, Lev.weight, wtL_lev a, wtL_lev b]; omega
  | .param s => by simp [Lev.toLvl, wtL, wtLs, Lev.weight]
theorem wtLs_app (l m : List Lvl) : wtLs (l ++ m) = wtLs l + wtLs m := by
  induction l with
  | nil => simp [wtLs]
  | cons a r ih => simp [wtLs, ih]; omega
theorem wtL_get : ∀ {ls : List Lvl} {i : Nat} {l : Lvl}, ls[i]? = some l → wtL l ≤ wtLs ls
  | [], i, l, h => by simp at h
  | a :: r, 0, l, h => by simp at h; subst h; simp [wtLs]
  | a :: r, i + 1, l, h => by simp at h; have := wtL_get h; simp [wtLs]; omega
mutual
def wtT : Trm → Nat
  | .mk _ _ s ls args => 20 + s.size + wtLs ls + ls.length + wtTs args
def wtTs : List Trm → Nat
  | [] => 0
  | t :: r => 1 + wtT t + wtTs r
end
theorem wtTs_app (l m : List Trm) : wtTs (l ++ m) = wtTs l + wtTs m := by
  induction l with
  | nil => simp [wtTs]
  | cons a r ih => simp [wtTs, ih]; omega
theorem wtT_get : ∀ {ls : List Trm} {i : Nat} {l : Trm}, ls[i]? = some l → wtT l + 1 ≤ wtTs ls
  | [], i, l, h => by simp at h
  | a :: r, 0, l, h => by simp at h; subst h; simp [wtTs]; omega
  | a :: r, i + 1, l, h => by simp at h; have := wtT_get h; simp [wtTs]; omega
/-- levels that can be printed -/
def okLs (ls : List Lvl) : Prop := ∀ l ∈ ls, ∃ x : Lev, l = x.toLvl ∧ fitP x.toLvl
mutual
/-- terms that can be printed -/
def okT : Trm → Prop
  | .mk k n _ ls args => 0 ≤ k ∧ k ≤ 6 ∧ 0 ≤ n ∧ n ≤ 99999 ∧ okLs ls ∧ okTs args
def okTs : List Trm → Prop
  | [] => True
  | t :: r => okT t ∧ okTs r
end
theorem okTs_app {l : List Trm} {t : Trm} (h1 : okTs l) (h2 : okT t) : okTs (l ++ [t]) := by
  induction l with
  | nil => exact ⟨h2, trivial⟩
  | cons a r ih => exact ⟨h1.1, ih h1.2⟩
theorem okT_get : ∀ {ls : List Trm} {i : Nat} {l : Trm}, okTs ls → ls[i]? = some l → okT l
  | [], i, l, _, h => by simp at h
  | a :: r, 0, l, ho, h => by simp at h; subst h; exact ho.1
  | a :: r, i + 1, l, ho, h => okT_get ho.2 (by simpa using h)
theorem okLs_get {ls : List Lvl} {i : Nat} {l : Lvl} (ho : okLs ls) (h : ls[i]? = some l) : ∃ x : Lev, l = x.toLvl ∧ fitP x.toLvl := ho _ (List.mem_of_getElem? h)

def wordT (k : Int) : ByteArray := wordsT.getD k.toNat .empty
theorem wordT_size (k : Int) : (wordT k).size ≤ 5 := by
  unfold wordT
  by_cases h : k.toNat < wordsT.length
  · have h7 : wordsT.length = 7 := rfl
    have : k.toNat = 0 ∨ k.toNat = 1 ∨ k.toNat = 2 ∨ k.toNat = 3 ∨ k.toNat = 4 ∨ k.toNat = 5 ∨ k.toNat = 6 := by omega
    rcases this with h | h | h | h | h | h | h <;> rw [h] <;> decide
  · rw [List.getD_eq_getElem?_getD, List.getElem?_eq_none (by omega)]; decide
mutual
/-- the text of a term -/
def wrT : Trm → ByteArray
  | .mk k n s ls args => if k = 0 then ⟨#[35]⟩ ++ digR n.toNat else ⟨#[40]⟩ ++ wordT k ++ (if k = 2 then ⟨#[32]⟩ ++ s else .empty) ++ wrL ls ++ wrTs args ++ ⟨#[41]⟩
def wrTs : List Trm → ByteArray
  | [] => .empty
  | t :: r => ⟨#[32]⟩ ++ wrT t ++ wrTs r
end
theorem wrTs_append (l m : List Trm) : wrTs (l ++ m) = wrTs l ++ wrTs m := by
  induction l with
  | nil => simp [wrTs]
  | cons a r ih => simp only [List.cons_append, wrTs, ih, ByteArray.append_assoc]
theorem wrTs_take {l : List Trm} {i : Nat} {a : Trm} (h : l[i]? = some a) : wrTs (l.take (i + 1)) = wrTs (l.take i) ++ ⟨#[32]⟩ ++ wrT a := by
  rw [List.take_add_one, h]; simp [wrTs_append, wrTs, ByteArray.append_assoc]
theorem wrTs_take_le (l : List Trm) (i : Nat) : (wrTs (l.take i)).size ≤ (wrTs l).size := by
  have : wrTs l = wrTs (l.take i) ++ wrTs (l.drop i) := by rw [← wrTs_append, List.take_append_drop]
  rw [this, ByteArray.size_append]; omega
theorem wrT_var {n : Int} {s : ByteArray} {ls : List Lvl} {args : List Trm} : wrT (.mk 0 n s ls args) = ⟨#[35]⟩ ++ digR n.toNat := by simp [wrT]
theorem wrT_const {n : Int} {s : ByteArray} {ls : List Lvl} {args : List Trm} : wrT (.mk 2 n s ls args) = ⟨#[40]⟩ ++ wordT 2 ++ (⟨#[32]⟩ ++ s) ++ wrL ls ++ wrTs args ++ ⟨#[41]⟩ := by simp [wrT]
theorem wrT_else {k n : Int} {s : ByteArray} {ls : List Lvl} {args : List Trm} (h0 : ¬ k = 0) (h2 : ¬ k = 2) : wrT (.mk k n s ls args) = ⟨#[40]⟩ ++ wordT k ++ wrL ls ++ wrTs args ++ ⟨#[41]⟩ := by simp [wrT, h0, h2]
theorem wrT_ne (t : Trm) : wrT t ≠ .empty := by
  obtain ⟨k, n, s, ls, args⟩ := t
  intro e
  have := congrArg ByteArray.size e
  simp only [wrT] at this
  split at this <;> simp only [ByteArray.size_append, size_mk, List.size_toArray, List.length_cons, List.length_nil, ByteArray.size_empty] at this <;> omega
theorem digR_size5 {n : Nat} (h : n ≤ 99999) : (digR n).size ≤ 5 := by
  have key : ∀ m : Nat, (ByteArray.mk #[UInt8.ofNat (48 + m % 10)]).size = 1 := fun _ => rfl
  by_cases h1 : n < 10
  · rw [digR_one h1, key]; omega
  rw [digR_more h1, ByteArray.size_append, key]
  by_cases h2 : n / 10 < 10
  · rw [digR_one h2, key]; omega
  rw [digR_more h2, ByteArray.size_append, key]
  by_cases h3 : n / 10 / 10 < 10
  · rw [digR_one h3, key]; omega
  rw [digR_more h3, ByteArray.size_append, key]
  by_cases h4 : n / 10 / 10 / 10 < 10
  · rw [digR_one h4, key]; omega
  rw [digR_more h4, ByteArray.size_append, key, digR_one (by omega), key]; omega
theorem wrL_size {ls : List Lvl} (h : okLs ls) : (wrL ls).size ≤ wtLs ls + ls.length := by
  induction ls with
  | nil => simp [wrL]
  | cons l r ih =>
    obtain ⟨x, rfl, _⟩ := h l (by simp)
    have h1 := ih fun m hm => h m (by simp [hm])
    have h2 := x.print_size
    simp only [wrL, wtLs, ByteArray.size_append, size_mk, List.size_toArray, List.length_cons, List.length_nil, wr_lev, wtL_lev] at *
    omega
mutual
theorem wrT_size : ∀ t : Trm, okT t → (wrT t).size ≤ wtT t
  | .mk k n s ls args, h => by
    obtain ⟨h0, h6, hn0, hn, hl, ha⟩ := h
    have h1 := wrTs_size args ha
    have h2 := wrL_size hl
    have h3 := wordT_size k
    have h4 := digR_size5 (n := n.toNat) (by omega)
    simp only [wrT, wtT]
    split
    · simp only [ByteArray.size_append, size_mk, List.size_toArray, List.length_cons, List.length_nil]; omega
    · split <;> simp only [ByteArray.size_append, size_mk, List.size_toArray, List.length_cons, List.length_nil, ByteArray.size_empty] <;> omega
theorem wrTs_size : ∀ l : List Trm, okTs l → (wrTs l).size ≤ wtTs l
  | [], _ => by simp [wrTs]
  | t :: r, h => by
    have h1 := wrT_size t h.1
    have h2 := wrTs_size r h.2
    simp only [wrTs, wtTs, ByteArray.size_append, size_mk, List.size_toArray, List.length_cons, List.length_nil]; omega
end

/-! what was read -/
theorem level_ok {s : ByteArray} (n : Nat) {r : RS} (hp : r.p ≤ s.size) : okLs [(levelR n s r).1] ∧ wtL (levelR n s r).1 + 20 * r.p ≤ 10 + 20 * (levelR n s r).2.p := by
  obtain ⟨x, hx, hf, hw⟩ := levelR_lev n hp
  rw [hx]
  refine ⟨fun l hl => ?_, by rw [wtL_lev]; omega⟩
  simp only [List.mem_singleton] at hl
  exact ⟨x, hl, hf⟩
theorem okLs_cons {l : Lvl} {r : List Lvl} (h1 : okLs [l]) (h2 : okLs r) : okLs (l :: r) := fun m hm => by
  rcases List.mem_cons.1 hm with rfl | hm
  · exact h1 _ (by simp)
  · exact h2 _ hm
theorem levels_ok {s : ByteArray} : ∀ (n : Nat) {r : RS}, r.p ≤ s.size → okLs (levelsR n s r).1 ∧ wtLs (levelsR n s r).1 + (levelsR n s r).1.length + 40 * r.p ≤ 11 + 40 * (levelsR n s r).2.p := by
  intro n
  induction n with
  | zero => intro r hp; exact ⟨fun l hl => by simp [levelsR] at hl, by simp only [levelsR, wtLs, List.length_nil]; omega⟩
  | succ n ih =>
    intro r hp
    simp only [levelsR]
    split
    · rename_i hc
      have h1 := levelR_le (s := s) (s.size + 1) hp
      have h2 := level_ok (s := s) (s.size + 1) hp
      have h3 := ih h1.2
      refine ⟨okLs_cons h2.1 h3.1, ?_⟩
      simp only [wtLs, List.length_cons]
      cases hf : (levelR (s.size + 1) s r).2.f with
      | none =>
        have h4 := level_prog hp hc.1 hf
        omega
      | some a =>
        have h5 : levelsR n s (levelR (s.size + 1) s r).2 = ([], (levelR (s.size + 1) s r).2) := by
          cases n with
          | zero => rfl
          | succ n => simp only [levelsR]; rw [if_neg (by rintro ⟨e, _⟩; rw [hf] at e; cases e)]
        rw [h5]
        simp only [wtLs, List.length_nil]
        omega
    · exact ⟨fun l hl => by simp at hl, by simp only [wtLs, List.length_nil]; omega⟩
theorem nameR_size {s : ByteArray} {r : RS} (hp : r.p ≤ s.size) : (nameR s r).1.size + r.p ≤ (nameR s r).2.p := by
  have hat := tokR_at (s := s) hp
  obtain ⟨p, f⟩ := r
  simp only at hp hat
  unfold nameR
  dsimp only
  split
  · rw [RS.fail_p]; simp
  · cases f with
    | none => dsimp only; omega
    | some a => simp
theorem head_ok {s : ByteArray} (k : Nat) {r : RS} (hp : r.p ≤ s.size) : okLs (headR s k r).2.1 ∧ (headR s k r).1.size + wtLs (headR s k r).2.1 + (headR s k r).2.1.length + 40 * r.p ≤ 11 + 40 * (headR s k r).2.2.p := by
  unfold headR
  split
  · have h1 := levelR_le (s := s) (s.size + 1) hp
    have h2 := level_ok (s := s) (s.size + 1) hp
    refine ⟨h2.1, ?_⟩
    simp only [wtLs, List.length_cons, List.length_nil, ByteArray.size_empty]; omega
  · split
    · have h1 := nameR_le (s := s) hp
      have h2 := levels_ok (s.size + 2) h1.2
      have h3 := nameR_size (s := s) hp
      refine ⟨h2.1, ?_⟩
      simp only; omega
    · exact ⟨fun l hl => by simp at hl, by simp only [wtLs, List.length_nil, ByteArray.size_empty]; omega⟩
theorem next_ge {s : ByteArray} {p : Nat} (hp : p ≤ s.size) (h : (tokR s p).1 ≠ .empty) : p + 1 ≤ (nextR s ⟨p, none⟩).2.p := by
  have hat := tokR_at (s := s) hp
  rw [nextR_ok h]; have := size_pos h; simp only; omega
/-- a number that was read -/
theorem num_ok {s : ByteArray} {p : Nat} (hp : p ≤ s.size) (h : headT (tokR s p).1) (h1 : (tokR s p).1 ≠ ⟨#[40]⟩) :
    0 ≤ numR ((tokR s p).1.extract 1 (tokR s p).1.size) ((tokR s p).1.size - 1) ∧ numR ((tokR s p).1.extract 1 (tokR s p).1.size) ((tokR s p).1.size - 1) ≤ 99999 := by
  have h2 : byteAt (tokR s p).1 0 = 35 := by rcases h.2 with h | h; exact h; exact absurd h h1
  have h3 := tok_hash hp h.1 h2
  exact numR_bound h3.2.2 _ (by rw [ByteArray.size_extract]; omega) (by omega)
theorem term_ok {s : ByteArray} : ∀ (n : Nat) (r : RS), r.p ≤ s.size → okT (termR n s r).1 ∧ wtT (termR n s r).1 + 100 * r.p ≤ 20 + 100 * (termR n s r).2.p := by
  have hz : wtT zeroT = 20 := rfl
  have hzo : okT zeroT := ⟨by decide, by decide, by decide, by decide, fun l hl => (by cases hl), trivial⟩
  intro n
  induction n with
  | zero => intro r hp; exact ⟨hzo, by simp only [termR, hz]; omega⟩
  | succ n ih =>
    have hpart : ∀ (i : Nat) {r : RS}, r.p ≤ s.size → okTs (partsR (termR n s) i r).1 ∧ wtTs (partsR (termR n s) i r).1 + 100 * r.p ≤ 21 * i + 100 * (partsR (termR n s) i r).2.p := by
      intro i
      induction i with
      | zero => intro r hp; exact ⟨trivial, by simp only [partsR, wtTs]; omega⟩
      | succ i ihi =>
        intro r hp
        have h1 := ihi hp
        have h2 := partsR_le (s := s) (f := termR n s) (fun r hr => termR_le n r hr) i hp
        have h3 := ih _ h2.2
        simp only [partsR, wtTs_app, wtTs]
        exact ⟨okTs_app h1.1 h3.1, by omega⟩
    intro r hp
    obtain ⟨p, f⟩ := r
    simp only at hp
    cases f with
    | some a => exact ⟨hzo, by simp only [termR, hz]; omega⟩
    | none =>
      have h1 := nextR_le (s := s) (r := ⟨p, none⟩) hp
      have h2 := nextR_le (s := s) (r := (nextR s ⟨p, none⟩).2) h1.2
      simp only at h1
      by_cases c1 : headT (tokR s p).1
      · by_cases c2 : (tokR s p).1 = ⟨#[40]⟩
        · rcases hk : kindT (tokR s (nextR s ⟨p, none⟩).2.p).1 with _ | k
          · rw [termR_kind c2 hk]
            exact ⟨hzo, by simp only [hz, RS.fail_p]; omega⟩
          · rcases hh : headR s (k + 1) (nextR s (nextR s ⟨p, none⟩).2).2 with ⟨nm, L, r3⟩
            have h3 := headR_le (s := s) (k + 1) h2.2
            have h4 := head_ok (s := s) (k + 1) h2.2
            rw [hh] at h3 h4
            simp only at h3 h4
            have h5 := hpart (partsOf (k + 1)) h3.2
            have h6 := partsR_le (s := s) (f := termR n s) (fun r hr => termR_le n r hr) (partsOf (k + 1)) h3.2
            have h7 := takeR_le (s := s) (w := ⟨#[41]⟩) h6.2
            have h8 := partsOf_le (k + 1)
            have h9 := kindT_le (tokR s (nextR s ⟨p, none⟩).2.p).1
            have h10 := next_ge hp (by rw [c2]; decide)
            rw [termR_node c2 hk (by omega) hh]
            refine ⟨⟨by omega, by omega, by decide, by decide, h4.1, h5.1⟩, ?_⟩
            simp only [wtT]
            omega
        · rw [termR_num c1 c2]
          have h3 := num_ok hp c1 c2
          refine ⟨⟨by decide, by decide, h3.1, h3.2, fun l hl => (by cases hl), trivial⟩, ?_⟩
          simp only [wtT, wtLs, wtTs, List.length_nil, ByteArray.size_empty]; omega
      · rw [termR_bad c1]
        exact ⟨hzo, by simp only [hz, RS.fail_p]; omega⟩
end Go.Proofs.YtneaancanfpdhaaGreatDoor
namespace Go.Proofs.YtneaancanfpdhaaGreatDoor
open Go Go.Vd Go.RowKit
attribute [local irreducible] Runs OpsR OpR FloatR AnyR
variable {gl : Nat → List D}

theorem printLevel_spec : ∀ x : Lev, x.weight ≤ 1099511627776 →
    TriD Tryz.prog gl 69 [x.toLvl.d] (· = .v (.string x.print)) := by
  intro x
  induction x with
  | zero =>
    intro hsz
    refine triD_of_runs Tryz.func69 rfl Tryz.ntmps69 (rs := [.tmp 2]) rfl rfl rfl ?_
    refine sr ?_; refine oc (T := fun _ => False) (bx ti45 ?_ (hl := by simp only [List.length_cons, List.length_nil, Nat.reduceAdd]; rfl)); refine o1 (asg ?_); refine nx ?_; refine runs_seq ?_; refine sr ?_; refine o1 (fdb ti45 ?_)
    refine o1 (ldb ti3 ?_); refine nx ?_; refine runs_block ?_; refine sr ?_; refine o1 (ieq ?_); refine o1 (asg ?_); refine nx ?_; refine cdf (fun h2 => ?_) (fun h2 => ?_)
    · simp only [nrm, Int.reduceEq, Int.reduceNe, Int.reduceLT, Int.reduceLE] at h2
    (try simp only [nrm, Int.reduceEq, Int.reduceNe, Int.reduceLT, Int.reduceLE] at h2); refine kp [] ?_; refine sr ?_; refine o1 (asg ?_); refine nx ?_; refine runs_ret ?_; refine inb_ret ?_; refine seq_ret ?_; refine fin_ret ?_
    refine fin_d1 rfl rfl ?_
    rfl
  | succ a ih =>
    intro hsz
    simp only [Lev.weight] at hsz
    have h9 := a.print_size
    refine triD_of_runs Tryz.func69 rfl Tryz.ntmps69 (rs := [.tmp 2]) rfl rfl rfl ?_
    refine sr ?_; refine oc (T := fun _ => False) (bx ti45 ?_ (hl := by simp only [List.length_cons, List.length_nil, Nat.reduceAdd]; rfl)); refine o1 (asg ?_); refine nx ?_; refine runs_seq ?_; refine sr ?_; refine o1 (fdb ti45 ?_)
    refine o1 (ldb ti3 ?_); refine nx ?_; refine runs_block ?_; refine sr ?_; refine o1 (ieq ?_); refine o1 (asg ?_); refine nx ?_; refine cd (fun h2 => ?_) (fun h2 => ?_)
    · simp only [nrm, Int.reduceEq, Int.reduceNe, Int.reduceLT, Int.reduceLE] at h2
    (try simp only [nrm, Int.reduceEq, Int.reduceNe, Int.reduceLT, Int.reduceLE] at h2); refine kp [5, 1] ?_; refine sr ?_; refine o1 (ieq ?_); refine o1 (asg ?_); refine nx ?_; refine cdf (fun h4 => ?_) (fun h4 => ?_)
    · simp only [nrm, Int.reduceEq, Int.reduceNe, Int.reduceLT, Int.reduceLE] at h4
    (try simp only [nrm, Int.reduceEq, Int.reduceNe, Int.reduceLT, Int.reduceLE] at h4); refine sr ?_; refine o1 (fdb ti45 ?_); refine o1 (ldb ti28 ?_); refine o1 (ixs us28 te28 ?_ (he := by exact (rfl)))
    refine o1 (lda ti45 ?_ (hlen := by exact (Lvl.cells_len _))); refine oc (cv ca69 rfl rfl (ih (by omega)) (fir .nil) ?_)
    refine o1 (f_sadd ?_ (hb := by (try simp only [ByteArray.size_append, size_mk, List.size_toArray, List.length_cons, List.length_nil]); omega))
    refine o1 (f_sadd ?_ (hb := by (try simp only [ByteArray.size_append, size_mk, List.size_toArray, List.length_cons, List.length_nil]); omega)); refine o1 (asg ?_); refine nx ?_; refine runs_ret ?_; refine inb_ret ?_; refine seq_ret ?_
    refine fin_ret ?_; refine fin_d1 rfl rfl ?_
    rfl
  | max a b iha ihb =>
    intro hsz
    simp only [Lev.weight] at hsz
    have h9 := a.print_size
    have h10 := b.print_size
    refine triD_of_runs Tryz.func69 rfl Tryz.ntmps69 (rs := [.tmp 2]) rfl rfl rfl ?_
    refine sr ?_; refine oc (T := fun _ => False) (bx ti45 ?_ (hl := by simp only [List.length_cons, List.length_nil, Nat.reduceAdd]; rfl)); refine o1 (asg ?_); refine nx ?_; refine runs_seq ?_; refine sr ?_; refine o1 (fdb ti45 ?_)
    refine o1 (ldb ti3 ?_); refine nx ?_; refine runs_block ?_; refine sr ?_; refine o1 (ieq ?_); refine o1 (asg ?_); refine nx ?_; refine cd (fun h2 => ?_) (fun h2 => ?_)
    · simp only [nrm, Int.reduceEq, Int.reduceNe, Int.reduceLT, Int.reduceLE] at h2
    (try simp only [nrm, Int.reduceEq, Int.reduceNe, Int.reduceLT, Int.reduceLE] at h2); refine kp [5, 1] ?_; refine sr ?_; refine o1 (ieq ?_); refine o1 (asg ?_); refine nx ?_; refine cd (fun h4 => ?_) (fun h4 => ?_)
    · simp only [nrm, Int.reduceEq, Int.reduceNe, Int.reduceLT, Int.reduceLE] at h4
    (try simp only [nrm, Int.reduceEq, Int.reduceNe, Int.reduceLT, Int.reduceLE] at h4); refine sr ?_; refine o1 (ieq ?_); refine o1 (asg ?_); refine nx ?_; refine cd (fun h6 => ?_) (fun h6 => ?_)
    · simp only [nrm, Int.reduceEq, Int.reduceNe, Int.reduceLT, Int.reduceLE] at h6
    (try simp only [nrm, Int.reduceEq, Int.reduceNe, Int.reduceLT, Int.reduceLE] at h6); refine runs_skip ?_; refine inb_normal ?_; refine seq_normal ?_; refine kp [1] ?_; refine sr ?_; refine o1 (asg ?_); refine nx ?_; refine runs_seq ?_
    refine sr ?_; refine o1 (fdb ti45 ?_); refine o1 (ldb ti3 ?_); refine o1 (ieq ?_); refine nx ?_; refine cd (fun h9 => ?_) (fun h9 => ?_)
    · simp only [nrm, Int.reduceEq, Int.reduceNe, Int.reduceLT, Int.reduceLE] at h9
    (try simp only [nrm, Int.reduceEq, Int.reduceNe, Int.reduceLT, Int.reduceLE] at h9); refine runs_skip ?_; refine seq_normal ?_; refine runs_seq ?_; refine a_start ?_ (hm := by exact mixed); refine A1 0 rfl (mv ⟨_, rfl, ?_⟩)
    refine A1 1 rfl (f_sadd ⟨_, rfl, ?_⟩ (hb := by (try simp only [ByteArray.size_append, size_mk, List.size_toArray, List.length_cons, List.length_nil]); omega))
    refine A1 2 rfl (f_sadd ⟨_, rfl, ?_⟩ (hb := by (try simp only [ByteArray.size_append, size_mk, List.size_toArray, List.length_cons, List.length_nil]); omega)); refine A1 3 rfl (fdb ti45 ⟨_, rfl, ?_⟩); refine A1 4 rfl (ldb ti28 ⟨_, rfl, ?_⟩)
    refine A1 5 rfl (ixs us28 te28 ⟨_, rfl, ?_⟩ (he := by exact (rfl))); refine A1 6 rfl (lda ti45 ⟨_, rfl, ?_⟩ (hlen := by exact (Lvl.cells_len _))); refine A1 10 rfl (fdb ti45 ⟨_, rfl, ?_⟩); refine A1 11 rfl (ldb ti28 ⟨_, rfl, ?_⟩)
    refine A1 12 rfl (ixs us28 te28 ⟨_, rfl, ?_⟩ (he := by exact (rfl))); refine A1 13 rfl (lda ti45 ⟨_, rfl, ?_⟩ (hlen := by exact (Lvl.cells_len _))); refine A2 7 rfl (cv ca69 rfl rfl (iha (by omega)) (fir .nil) ?_)
    refine A1 8 rfl (f_sadd ⟨_, rfl, ?_⟩ (hb := by (try simp only [ByteArray.size_append, size_mk, List.size_toArray, List.length_cons, List.length_nil]); omega))
    refine A1 9 rfl (f_sadd ⟨_, rfl, ?_⟩ (hb := by (try simp only [ByteArray.size_append, size_mk, List.size_toArray, List.length_cons, List.length_nil]); omega)); refine A2 14 rfl (cv ca69 rfl rfl (ihb (by omega)) (fir .nil) ?_)
    refine A1 15 rfl (f_sadd ⟨_, rfl, ?_⟩ (hb := by (try simp only [ByteArray.size_append, size_mk, List.size_toArray, List.length_cons, List.length_nil]); omega))
    refine A1 16 rfl (f_sadd ⟨_, rfl, ?_⟩ (hb := by (try simp only [ByteArray.size_append, size_mk, List.size_toArray, List.length_cons, List.length_nil]); omega)); refine A1 17 rfl (asg ⟨_, rfl, ?_⟩); refine a_end ?_; refine seq_normal ?_
    refine runs_ret ?_; refine fin_ret ?_; refine fin_d1 rfl rfl ?_
    rfl
  | imax a b iha ihb =>
    intro hsz
    simp only [Lev.weight] at hsz
    have h9 := a.print_size
    have h10 := b.print_size
    refine triD_of_runs Tryz.func69 rfl Tryz.ntmps69 (rs := [.tmp 2]) rfl rfl rfl ?_
    refine sr ?_; refine oc (T := fun _ => False) (bx ti45 ?_ (hl := by simp only [List.length_cons, List.length_nil, Nat.reduceAdd]; rfl)); refine o1 (asg ?_); refine nx ?_; refine runs_seq ?_; refine sr ?_; refine o1 (fdb ti45 ?_)
    refine o1 (ldb ti3 ?_); refine nx ?_; refine runs_block ?_; refine sr ?_; refine o1 (ieq ?_); refine o1 (asg ?_); refine nx ?_; refine cd (fun h2 => ?_) (fun h2 => ?_)
    · simp only [nrm, Int.reduceEq, Int.reduceNe, Int.reduceLT, Int.reduceLE] at h2
    (try simp only [nrm, Int.reduceEq, Int.reduceNe, Int.reduceLT, Int.reduceLE] at h2); refine kp [5, 1] ?_; refine sr ?_; refine o1 (ieq ?_); refine o1 (asg ?_); refine nx ?_; refine cd (fun h4 => ?_) (fun h4 => ?_)
    · simp only [nrm, Int.reduceEq, Int.reduceNe, Int.reduceLT, Int.reduceLE] at h4
    (try simp only [nrm, Int.reduceEq, Int.reduceNe, Int.reduceLT, Int.reduceLE] at h4); refine sr ?_; refine o1 (ieq ?_); refine o1 (asg ?_); refine nx ?_; refine cd (fun h6 => ?_) (fun h6 => ?_)
    · simp only [nrm, Int.reduceEq, Int.reduceNe, Int.reduceLT, Int.reduceLE] at h6
    (try simp only [nrm, Int.reduceEq, Int.reduceNe, Int.reduceLT, Int.reduceLE] at h6); refine runs_skip ?_; refine inb_normal ?_; refine seq_normal ?_; refine kp [1] ?_; refine sr ?_; refine o1 (asg ?_); refine nx ?_; refine runs_seq ?_
    refine sr ?_; refine o1 (fdb ti45 ?_); refine o1 (ldb ti3 ?_); refine o1 (ieq ?_); refine nx ?_; refine cdf (fun h9 => ?_) (fun h9 => ?_)
    · simp only [nrm, Int.reduceEq, Int.reduceNe, Int.reduceLT, Int.reduceLE] at h9
    (try simp only [nrm, Int.reduceEq, Int.reduceNe, Int.reduceLT, Int.reduceLE] at h9); refine kp [1] ?_; refine runs_region ?_; refine o1 (asg ?_); refine nx ?_; refine runs_seq ?_; refine a_start ?_ (hm := by exact mixed)
    refine A1 0 rfl (mv ⟨_, rfl, ?_⟩); refine A1 1 rfl (f_sadd ⟨_, rfl, ?_⟩ (hb := by (try simp only [ByteArray.size_append, size_mk, List.size_toArray, List.length_cons, List.length_nil]); omega))
    refine A1 2 rfl (f_sadd ⟨_, rfl, ?_⟩ (hb := by (try simp only [ByteArray.size_append, size_mk, List.size_toArray, List.length_cons, List.length_nil]); omega)); refine A1 3 rfl (fdb ti45 ⟨_, rfl, ?_⟩); refine A1 4 rfl (ldb ti28 ⟨_, rfl, ?_⟩)
    refine A1 5 rfl (ixs us28 te28 ⟨_, rfl, ?_⟩ (he := by exact (rfl))); refine A1 6 rfl (lda ti45 ⟨_, rfl, ?_⟩ (hlen := by exact (Lvl.cells_len _))); refine A1 10 rfl (fdb ti45 ⟨_, rfl, ?_⟩); refine A1 11 rfl (ldb ti28 ⟨_, rfl, ?_⟩)
    refine A1 12 rfl (ixs us28 te28 ⟨_, rfl, ?_⟩ (he := by exact (rfl))); refine A1 13 rfl (lda ti45 ⟨_, rfl, ?_⟩ (hlen := by exact (Lvl.cells_len _))); refine A2 7 rfl (cv ca69 rfl rfl (iha (by omega)) (fir .nil) ?_)
    refine A1 8 rfl (f_sadd ⟨_, rfl, ?_⟩ (hb := by (try simp only [ByteArray.size_append, size_mk, List.size_toArray, List.length_cons, List.length_nil]); omega))
    refine A1 9 rfl (f_sadd ⟨_, rfl, ?_⟩ (hb := by (try simp only [ByteArray.size_append, size_mk, List.size_toArray, List.length_cons, List.length_nil]); omega)); refine A2 14 rfl (cv ca69 rfl rfl (ihb (by omega)) (fir .nil) ?_)
    refine A1 15 rfl (f_sadd ⟨_, rfl, ?_⟩ (hb := by (try simp only [ByteArray.size_append, size_mk, List.size_toArray, List.length_cons, List.length_nil]); omega))
    refine A1 16 rfl (f_sadd ⟨_, rfl, ?_⟩ (hb := by (try simp only [ByteArray.size_append, size_mk, List.size_toArray, List.length_cons, List.length_nil]); omega)); refine A1 17 rfl (asg ⟨_, rfl, ?_⟩); refine a_end ?_; refine seq_normal ?_
    refine runs_ret ?_; refine fin_ret ?_; refine fin_d1 rfl rfl ?_
    rfl
  | param s =>
    intro hsz
    refine triD_of_runs Tryz.func69 rfl Tryz.ntmps69 (rs := [.tmp 2]) rfl rfl rfl ?_
    refine sr ?_; refine oc (T := fun _ => False) (bx ti45 ?_ (hl := by simp only [List.length_cons, List.length_nil, Nat.reduceAdd]; rfl)); refine o1 (asg ?_); refine nx ?_; refine runs_seq ?_; refine sr ?_; refine o1 (fdb ti45 ?_)
    refine o1 (ldb ti3 ?_); refine nx ?_; refine runs_block ?_; refine sr ?_; refine o1 (ieq ?_); refine o1 (asg ?_); refine nx ?_; refine cd (fun h2 => ?_) (fun h2 => ?_)
    · simp only [nrm, Int.reduceEq, Int.reduceNe, Int.reduceLT, Int.reduceLE] at h2
    (try simp only [nrm, Int.reduceEq, Int.reduceNe, Int.reduceLT, Int.reduceLE] at h2); refine kp [5, 1] ?_; refine sr ?_; refine o1 (ieq ?_); refine o1 (asg ?_); refine nx ?_; refine cd (fun h4 => ?_) (fun h4 => ?_)
    · simp only [nrm, Int.reduceEq, Int.reduceNe, Int.reduceLT, Int.reduceLE] at h4
    (try simp only [nrm, Int.reduceEq, Int.reduceNe, Int.reduceLT, Int.reduceLE] at h4); refine sr ?_; refine o1 (ieq ?_); refine o1 (asg ?_); refine nx ?_; refine cdf (fun h6 => ?_) (fun h6 => ?_)
    · simp only [nrm, Int.reduceEq, Int.reduceNe, Int.reduceLT, Int.reduceLE] at h6
    (try simp only [nrm, Int.reduceEq, Int.reduceNe, Int.reduceLT, Int.reduceLE] at h6); refine kp [1] ?_; refine sr ?_; refine o1 (fdb ti45 ?_); refine o1 (ldb ti9 ?_); refine o1 (asg ?_); refine nx ?_; refine runs_ret ?_; refine inb_ret ?_
    refine seq_ret ?_; refine fin_ret ?_; refine fin_d1 rfl rfl ?_
    rfl
end Go.Proofs.YtneaancanfpdhaaGreatDoor
namespace Go.Proofs.YtneaancanfpdhaaGreatDoor
open Go Go.Vd Go.RowKit
attribute [local irreducible] Runs OpsR OpR FloatR AnyR AnyO
variable {g gl : Nat → List D}

/-- what stands ahead of a term's levels -/
def hdT (k : Int) (s : ByteArray) : ByteArray := if k = 2 then ⟨#[40]⟩ ++ wordT k ++ ⟨#[32]⟩ ++ s else ⟨#[40]⟩ ++ wordT k
theorem wrT_hd {k n : Int} {s : ByteArray} {ls : List Lvl} {args : List Trm} (h0 : ¬ k = 0) : wrT (.mk k n s ls args) = hdT k s ++ wrL ls ++ wrTs args ++ ⟨#[41]⟩ := by
  unfold hdT
  split
  · rename_i h; subst h; rw [wrT_const]; simp only [ByteArray.append_assoc]
  · rename_i h; rw [wrT_else h0 h]
theorem wordT_at {k : Int} (h0 : 0 ≤ k) (h6 : k ≤ 6) : (strs wordsT)[k.toNat]? = some [.v (.string (wordT k))] := by
  have : k = 0 ∨ k = 1 ∨ k = 2 ∨ k = 3 ∨ k = 4 ∨ k = 5 ∨ k = 6 := by omega
  rcases this with rfl | rfl | rfl | rfl | rfl | rfl | rfl <;> rfl
theorem wtLs_len : ∀ ls : List Lvl, ls.length ≤ wtLs ls
  | [] => by simp
  | l :: r => by have := wtLs_len r; cases l; simp [wtLs, wtL]; omega
theorem wtTs_len : ∀ ls : List Trm, ls.length ≤ wtTs ls
  | [] => by simp
  | l :: r => by have := wtTs_len r; simp [wtTs]; omega
theorem printTerm_spec : ∀ (n : Nat) (k m : Int) (s : ByteArray) (ls : List Lvl) (args : List Trm), wtT (.mk k m s ls args) ≤ n → wtT (.mk k m s ls args) ≤ 1099511627776 → okT (.mk k m s ls args) →
    TriD Tryz.prog (glT g) 32 [(Trm.mk k m s ls args).d] (· = .v (.string (wrT (.mk k m s ls args)))) := by
  intro n
  induction n with
  | zero => intro k m s ls args h; simp [wtT] at h
  | succ n ih =>
    intro k m s ls args hn hb ho
    have hwt := wrT_size _ ho
    obtain ⟨h0, h6, hm0, hm, hl, ha⟩ := ho
    have hll := wtLs_len ls
    have hlt := wtTs_len args
    simp only [wtT] at hn hb
    simp only [wtT] at hwt
    have hle1 := lvls_len ls
    have hle2 := trms_len args
    by_cases hk : k = 0
    · subst hk
      obtain ⟨m, rfl⟩ := Int.eq_ofNat_of_zero_le hm0
      have hd5 := digR_size5 (n := m) (by omega)
      refine triD_of_runs Tryz.func32 rfl Tryz.ntmps32 (rs := [.tmp 2]) rfl rfl rfl ?_
      refine sr ?_; refine oc (T := fun _ => False) (bx ti31 ?_ (hl := by simp only [List.length_cons, List.length_nil, Nat.reduceAdd]; rfl)); refine o1 (asg ?_); refine nx ?_; refine runs_seq ?_; refine sr ?_; refine o1 (fdb ti31 ?_)
      refine o1 (ldb ti3 ?_); refine o1 (ieq ?_); refine nx ?_; refine cdf (fun h1 => ?_) (fun h1 => ?_)
      · simp only [nrm, Int.reduceEq, Int.reduceNe, Int.reduceLT, Int.reduceLE] at h1
      (try simp only [nrm, Int.reduceEq, Int.reduceNe, Int.reduceLT, Int.reduceLE] at h1); refine kp [1] ?_; refine sr ?_; refine o1 (fdb ti31 ?_); refine o1 (ldb ti3 ?_); refine oc (cv ca68 rfl rfl (digits_spec m (by omega)) (fir .nil) ?_)
      refine o1 (f_sadd ?_ (hb := by (try simp only [ByteArray.size_append, size_mk, List.size_toArray, List.length_cons, List.length_nil]); omega)); refine o1 (asg ?_); refine nx ?_; refine runs_ret ?_; refine seq_ret ?_; refine fin_ret ?_
      refine fin_d1 rfl rfl ?_
      rw [wrT_var]; rfl
    · rw [wrT_hd hk] at hwt ⊢
      simp only [ByteArray.size_append, size_mk, List.size_toArray, List.length_cons, List.length_nil] at hwt
      have hw5 := wordT_size k
      have hhd : (hdT k s).size ≤ 7 + s.size := by unfold hdT; split <;> simp only [ByteArray.size_append, size_mk, List.size_toArray, List.length_cons, List.length_nil] <;> omega
      refine triD_of_runs Tryz.func32 rfl Tryz.ntmps32 (rs := [.tmp 2]) rfl rfl rfl ?_
      refine sr ?_; refine oc (T := fun _ => False) (bx ti31 ?_ (hl := by simp only [List.length_cons, List.length_nil, Nat.reduceAdd]; rfl)); refine o1 (asg ?_); refine nx ?_; refine runs_seq ?_; refine sr ?_; refine o1 (fdb ti31 ?_)
      refine o1 (ldb ti3 ?_); refine o1 (ieq ?_); refine nx ?_; refine cd (fun h1 => ?_) (fun h1 => ?_)
      · (try simp only [nrm, Int.reduceEq, Int.reduceNe, Int.reduceLT, Int.reduceLE] at h1); contradiction
      (try simp only [nrm, Int.reduceEq, Int.reduceNe, Int.reduceLT, Int.reduceLE] at h1); refine runs_skip ?_; refine seq_normal ?_; refine kp [1] ?_; refine sr ?_; refine o1 (ldc ti42 ?_); refine o1 (fdb ti31 ?_); refine o1 (ldb ti3 ?_)
      refine o1 (ixs us42 te42 ?_ (he := by exact (wordT_at h0 h6))); refine o1 (ldc ti9 ?_); refine o1 (f_sadd ?_ (hb := by (try simp only [ByteArray.size_append, size_mk, List.size_toArray, List.length_cons, List.length_nil]); omega))
      refine o1 (asg ?_); refine nx ?_; refine runs_seq ?_; refine kp [3, 1] ?_; refine sr ?_; refine o1 (fdb ti31 ?_); refine o1 (ldb ti3 ?_); refine o1 (ieq ?_); refine nx ?_; refine kp [21, 3, 1] ?_
      apply runs_cut_c (ι := Unit) (fun _ => [(3, .d (.v (.string (hdT k s))))]) [1] (fun _ => True)
      case hk => exact rfl
      case h1 =>
        refine cdf (fun h4 => ?_) (fun h4 => ?_)
        · (try simp only [nrm, Int.reduceEq, Int.reduceNe, Int.reduceLT, Int.reduceLE] at h4)
          refine runs_skip ?_; refine seq_back ?_; refine back_i (()) rfl ?_ ?_
          · trivial
          · refine mo ?_ (slx rfl (by exact Fit.of_eq (by simp only [hdT, h4, if_true, if_false]; rfl)) (sly slz))
            repeat (first | exact boz | refine boc ?_)
        (try simp only [nrm, Int.reduceEq, Int.reduceNe, Int.reduceLT, Int.reduceLE] at h4); refine runs_region ?_; refine o1 (mv ?_)
        refine o1 (f_sadd ?_ (hb := by (try simp only [ByteArray.size_append, size_mk, List.size_toArray, List.length_cons, List.length_nil]); omega)); refine o1 (fdb ti31 ?_); refine o1 (ldb ti9 ?_)
        refine o1 (f_sadd ?_ (hb := by (try simp only [ByteArray.size_append, size_mk, List.size_toArray, List.length_cons, List.length_nil]); omega)); refine o1 (asg ?_); refine ops_nil ?_; refine seq_back ?_; refine back_i (()) rfl ?_ ?_
        · trivial
        · refine mo ?_ (slx rfl (by exact Fit.of_eq (by simp only [hdT, h4, if_true, if_false]; rfl)) (sly slz))
          repeat (first | exact boz | refine boc ?_)
      case h2 =>
        rintro _ hcut
        try dsimp only at hcut
        refine kp [3, 1] ?_; refine runs_seq ?_; refine sr ?_; refine o1 (asg ?_); refine nx ?_; refine runs_block ?_
        apply runs_loop_c (ι := Nat) (fun i => [(4, int i), (3, .d (.v (.string (hdT k s ++ wrL (ls.take i)))))]) [1] (fun i => i ≤ ls.length) (fun i => ls.length - i) (0)
        case hk => exact rfl
        case hI =>
          exact Nat.zero_le _
        case hm =>
          refine mo ?_ (sly (slx rfl (by exact Fit.of_eq (by simp only [List.take_zero, wrL, ByteArray.append_empty]; rfl)) (sly slz)))
          repeat (first | exact boz | refine boc ?_)
        case h =>
          rintro i hinv
          try dsimp only at hinv
          refine kp [4, 3, 1] ?_; refine runs_seq ?_; refine sr ?_; refine o1 (mv ?_); refine o1 (fdb ti31 ?_); refine o1 (ldb ti28 ?_); refine o1 (le1 us28 ?_); refine o1 (ilt ?_); refine nx ?_; refine cd (fun h7 => ?_) (fun h7 => ?_)
          · (try simp only [nrm, Int.reduceEq, Int.reduceNe, Int.reduceLT, Int.reduceLE] at h7)
            refine runs_skip ?_; refine seq_normal ?_; refine runs_seq ?_; refine runs_block ?_; refine kp [4, 3, 1] ?_
            have hget : ls[i]? = some ls[i] := by simp
            obtain ⟨x, hx, _⟩ := okLs_get hl hget
            rw [hx] at hget
            have hwx := wtL_get hget
            rw [wtL_lev] at hwx
            have hpx := x.print_size
            obtain ⟨k1, s1, a1, hX⟩ := Lvl.case x.toLvl
            have hget' := hget
            rw [hX] at hget'
            have hst := wrL_take_le ls (i + 1)
            rw [wrL_take hget, wr_lev] at hst
            simp only [ByteArray.size_append, size_mk, List.size_toArray, List.length_cons, List.length_nil] at hst
            have hpr := printLevel_spec (gl := glT g) x (by omega)
            rw [hX] at hpr
            refine runs_region ?_; refine o1 (mv ?_); refine o1 (f_sadd ?_ (hb := by (try simp only [ByteArray.size_append, size_mk, List.size_toArray, List.length_cons, List.length_nil]); omega)); refine o1 (fdb ti31 ?_); refine o1 (ldb ti28 ?_)
            refine o1 (mv ?_); refine o1 (ixs us28 te28 ?_ (he := by exact (lvl_at hget'))); refine o1 (ldc ti45 ?_); refine oc (cv ca69 rfl rfl (hpr) (fid .nil) ?_)
            refine o1 (f_sadd ?_ (hb := by (try simp only [ByteArray.size_append, size_mk, List.size_toArray, List.length_cons, List.length_nil]); omega)); refine o1 (asg ?_); refine ops_nil ?_; refine inb_normal ?_; refine seq_normal ?_
            refine kp [3, 4, 1] ?_; refine runs_region ?_; refine o1 (mv ?_); refine o1 (iad ?_); refine o1 (asg ?_); refine ops_nil ?_; refine seq_back ?_; refine back_i (i + 1) rfl ?_ ?_
            · exact ⟨by omega, by omega⟩
            · refine mo ?_ (sly (slx rfl (by exact Fit.of_eq (by rw [wrL_take hget, wr_lev]; simp only [ByteArray.append_assoc]; rfl)) (sly slz)))
              repeat (first | exact boz | refine boc ?_)
          (try simp only [nrm, Int.reduceEq, Int.reduceNe, Int.reduceLT, Int.reduceLE] at h7); refine runs_exit ?_; refine seq_exit ?_; refine seq_exit ?_; refine inb_exit ?_; refine seq_normal ?_; refine runs_seq ?_; refine kp [3, 1] ?_; refine sr ?_
          refine o1 (asg ?_); refine nx ?_; refine runs_block ?_; obtain rfl : i = ls.length := by omega
          apply runs_loop_c (ι := Nat) (fun j => [(5, int j), (3, .d (.v (.string (hdT k s ++ wrL ls ++ wrTs (args.take j)))))]) [1] (fun j => j ≤ args.length) (fun j => args.length - j) (0)
          case hk => exact rfl
          case hI =>
            exact Nat.zero_le _
          case hm =>
            refine mo ?_ (sly (slx rfl (by exact Fit.of_eq (by rw [List.take_length]; simp only [List.take_zero, wrTs, ByteArray.append_empty]; rfl)) (sly slz)))
            repeat (first | exact boz | refine boc ?_)
          case h =>
            rintro j hinv
            try dsimp only at hinv
            refine kp [5, 3, 1] ?_; refine runs_seq ?_; refine sr ?_; refine o1 (mv ?_); refine o1 (fdb ti31 ?_); refine o1 (ldb ti29 ?_); refine o1 (le1 us29 ?_); refine o1 (ilt ?_); refine nx ?_; refine cdf (fun h11 => ?_) (fun h11 => ?_)
            · (try simp only [nrm, Int.reduceEq, Int.reduceNe, Int.reduceLT, Int.reduceLE] at h11)
              refine runs_exit ?_; refine seq_exit ?_; refine seq_exit ?_; refine inb_exit ?_; refine seq_normal ?_; refine runs_seq ?_; refine kp [3] ?_; obtain rfl : j = args.length := (by omega)
              have htl := wrTs_take_le args args.length
              refine runs_region ?_; refine o1 (mv ?_); refine o1 (f_sadd ?_ (hb := by (try simp only [ByteArray.size_append, size_mk, List.size_toArray, List.length_cons, List.length_nil]); omega)); refine o1 (asg ?_); refine nx ?_; refine runs_ret ?_
              refine fin_ret ?_; refine fin_d1 rfl rfl ?_
              rw [List.take_length]
            (try simp only [nrm, Int.reduceEq, Int.reduceNe, Int.reduceLT, Int.reduceLE] at h11); refine runs_skip ?_; refine seq_normal ?_; refine runs_seq ?_; refine runs_block ?_; refine kp [5, 3, 1] ?_
            obtain ⟨k2, n2, s2, l2, a2, hget⟩ := trm_get (show j < args.length by omega)
            have hwx := wtT_get hget
            have hox := okT_get ha hget
            have hpx := wrT_size _ hox
            have hst := wrTs_take_le args (j + 1)
            rw [wrTs_take hget] at hst
            simp only [ByteArray.size_append, size_mk, List.size_toArray, List.length_cons, List.length_nil] at hst
            refine runs_region ?_; refine o1 (mv ?_); refine o1 (f_sadd ?_ (hb := by (try simp only [ByteArray.size_append, size_mk, List.size_toArray, List.length_cons, List.length_nil]); omega)); refine o1 (fdb ti31 ?_); refine o1 (ldb ti29 ?_)
            refine o1 (mv ?_); refine o1 (ixs us29 te29 ?_ (he := by exact (trm_at hget))); refine o1 (ldc ti31 ?_); refine oc (cv ca32 rfl rfl (ih k2 n2 s2 l2 a2 (by omega) (by omega) hox) (fid .nil) ?_)
            refine o1 (f_sadd ?_ (hb := by (try simp only [ByteArray.size_append, size_mk, List.size_toArray, List.length_cons, List.length_nil]); omega)); refine o1 (asg ?_); refine ops_nil ?_; refine inb_normal ?_; refine seq_normal ?_
            refine kp [3, 5, 1] ?_; refine runs_region ?_; refine o1 (mv ?_); refine o1 (iad ?_); refine o1 (asg ?_); refine ops_nil ?_; refine seq_back ?_; refine back_i (j + 1) rfl ?_ ?_
            · exact ⟨by omega, by omega⟩
            · refine mo ?_ (sly (slx rfl (by exact Fit.of_eq (by rw [wrTs_take hget]; simp only [ByteArray.append_assoc]; rfl)) (sly slz)))
              repeat (first | exact boz | refine boc ?_)
end Go.Proofs.YtneaancanfpdhaaGreatDoor
namespace Go.Proofs.YtneaancanfpdhaaGreatDoor
open Go.Shelf
def laysM246_ren : Go.Shelf.Ren := ⟨fun | 246 => 132 | 283 => 146 | 284 => 147 | 285 => 148 | 286 => 149 | 129 => 156 | 317 => 155 | 318 => 157 | 319 => 158 | 320 => 159 | 337 => 163 | 338 => 164 | n => n, fun | 2 => 2 | 3 => 3 | 9 => 9 | 4 => 4 | 171 => 178 | 0 => 0 | 53 => 179 | 37 => 89 | 5 => 5 | 173 => 182 | 212 => 197 | 51 => 198 | 20 => 20 | 213 => 199 | 46 => 191 | 232 => 210 | 233 => 211 | n => n, fun | 17 => 7 | 18 => 8 | 19 => 9 | n => n⟩
theorem laysM246 : Go.Proofs.LaysM.n246 Tryz.prog laysM246_ren := {
  mixed := by kernel_rfl
  f129 := Tryz.func156.trans (congrArg some (by kernel_rfl))
  f246 := Tryz.func132.trans (congrArg some (by kernel_rfl))
  f283 := Tryz.func146.trans (congrArg some (by kernel_rfl))
  f284 := Tryz.func147.trans (congrArg some (by kernel_rfl))
  f285 := Tryz.func148.trans (congrArg some (by kernel_rfl))
  f286 := Tryz.func149.trans (congrArg some (by kernel_rfl))
  f317 := Tryz.func155.trans (congrArg some (by kernel_rfl))
  f318 := Tryz.func157.trans (congrArg some (by kernel_rfl))
  f319 := Tryz.func158.trans (congrArg some (by kernel_rfl))
  f320 := Tryz.func159.trans (congrArg some (by kernel_rfl))
  f337 := Tryz.func163.trans (congrArg some (by kernel_rfl))
  f338 := Tryz.func164.trans (congrArg some (by kernel_rfl))
  t0 := Tryz.underlying0
  a0 := Tryz.isAgg0
  z0 := Tryz.sizeOf0
  v0 := Tryz.zeroValue0
  t2 := Tryz.underlying2
  a2 := Tryz.isAgg2
  z2 := Tryz.sizeOf2
  v2 := Tryz.zeroValue2
  t3 := Tryz.underlying3
  a3 := Tryz.isAgg3
  z3 := Tryz.sizeOf3
  v3 := Tryz.zeroValue3
  t4 := Tryz.underlying4
  a4 := Tryz.isAgg4
  z4 := Tryz.sizeOf4
  v4 := Tryz.zeroValue4
  t5 := Tryz.underlying5
  a5 := Tryz.isAgg5
  z5 := Tryz.sizeOf5
  v5 := Tryz.zeroValue5
  t9 := Tryz.underlying9
  a9 := Tryz.isAgg9
  z9 := Tryz.sizeOf9
  v9 := Tryz.zeroValue9
  t20 := Tryz.underlying20
  a20 := Tryz.isAgg20
  z20 := Tryz.sizeOf20
  v20 := Tryz.zeroValue20
  t37 := Tryz.underlying89
  a37 := Tryz.isAgg89
  z37 := Tryz.sizeOf89
  v37 := Tryz.zeroValue89
  t46 := Tryz.underlying191
  a46 := Tryz.isAgg191
  z46 := Tryz.sizeOf191
  v46 := Tryz.zeroValue191
  t51 := Tryz.underlying198
  a51 := Tryz.isAgg198
  z51 := Tryz.sizeOf198
  v51 := Tryz.zeroValue198
  t53 := Tryz.underlying179
  a53 := Tryz.isAgg179
  z53 := Tryz.sizeOf179
  v53 := Tryz.zeroValue179
  t171 := Tryz.underlying178
  a171 := Tryz.isAgg178
  z171 := Tryz.sizeOf178
  v171 := Tryz.zeroValue178
  t173 := Tryz.underlying182
  a173 := Tryz.isAgg182
  z173 := Tryz.sizeOf182
  v173 := Tryz.zeroValue182
  t212 := Tryz.underlying197
  a212 := Tryz.isAgg197
  z212 := Tryz.sizeOf197
  v212 := Tryz.zeroValue197
  t213 := Tryz.underlying199
  a213 := Tryz.isAgg199
  z213 := Tryz.sizeOf199
  t232 := Tryz.underlying210
  a232 := Tryz.isAgg210
  z232 := Tryz.sizeOf210
  v232 := Tryz.zeroValue210
  t233 := Tryz.underlying211
  a233 := Tryz.isAgg211
  z233 := Tryz.sizeOf211
  v233 := Tryz.zeroValue211
  g17 := by kernel_rfl
  g18 := by kernel_rfl
  g19 := by kernel_rfl
  i0 := by kernel_rfl
  i2 := by kernel_rfl
  i3 := by kernel_rfl
  i4 := by kernel_rfl
  i5 := by kernel_rfl
  i9 := by kernel_rfl
  i20 := by kernel_rfl
  i37 := by kernel_rfl
  i46 := by kernel_rfl
  i51 := by kernel_rfl
  i53 := by kernel_rfl
  i171 := by kernel_rfl
  i173 := by kernel_rfl
  i212 := by kernel_rfl
  i232 := by kernel_rfl
  i233 := by kernel_rfl
  m17 := by kernel_rfl
  m18 := by kernel_rfl
  m19 := by kernel_rfl }
def lays156_ren : Go.Shelf.Ren := ⟨fun | 156 => 80 | 165 => 112 | 166 => 79 | 169 => 67 | 240 => 111 | 241 => 131 | 276 => 130 | 277 => 145 | n => n, fun | 31 => 42 | 9 => 9 | 3 => 3 | 4 => 4 | 0 => 0 | 20 => 20 | 72 => 91 | 76 => 107 | 70 => 88 | 37 => 89 | 75 => 54 | 127 => 123 | 164 => 136 | 5 => 5 | 80 => 93 | n => n, fun | n => n⟩
theorem lays156 : Go.Proofs.Lays.n156 Tryz.prog lays156_ren := {
  mixed := by kernel_rfl
  f156 := Tryz.func80.trans (congrArg some (by kernel_rfl))
  f165 := Tryz.func112.trans (congrArg some (by kernel_rfl))
  f166 := Tryz.func79.trans (congrArg some (by kernel_rfl))
  f169 := Tryz.func67.trans (congrArg some (by kernel_rfl))
  f240 := Tryz.func111.trans (congrArg some (by kernel_rfl))
  f241 := Tryz.func131.trans (congrArg some (by kernel_rfl))
  f276 := Tryz.func130.trans (congrArg some (by kernel_rfl))
  f277 := Tryz.func145.trans (congrArg some (by kernel_rfl))
  t0 := Tryz.underlying0
  a0 := Tryz.isAgg0
  z0 := Tryz.sizeOf0
  v0 := Tryz.zeroValue0
  t3 := Tryz.underlying3
  a3 := Tryz.isAgg3
  z3 := Tryz.sizeOf3
  v3 := Tryz.zeroValue3
  t4 := Tryz.underlying4
  a4 := Tryz.isAgg4
  z4 := Tryz.sizeOf4
  v4 := Tryz.zeroValue4
  t9 := Tryz.underlying9
  a9 := Tryz.isAgg9
  z9 := Tryz.sizeOf9
  v9 := Tryz.zeroValue9
  t20 := Tryz.underlying20
  a20 := Tryz.isAgg20
  z20 := Tryz.sizeOf20
  v20 := Tryz.zeroValue20
  t31 := Tryz.underlying42
  a31 := Tryz.isAgg42
  z31 := Tryz.sizeOf42
  v31 := Tryz.zeroValue42
  t37 := Tryz.underlying89
  a37 := Tryz.isAgg89
  z37 := Tryz.sizeOf89
  v37 := Tryz.zeroValue89
  t70 := Tryz.underlying88
  a70 := Tryz.isAgg88
  z70 := Tryz.sizeOf88
  v70 := Tryz.zeroValue88
  t72 := Tryz.underlying91
  a72 := Tryz.isAgg91
  z72 := Tryz.sizeOf91
  v72 := Tryz.zeroValue91
  t75 := Tryz.underlying54
  a75 := Tryz.isAgg54
  z75 := Tryz.sizeOf54
  v75 := Tryz.zeroValue54
  t76 := Tryz.underlying107
  a76 := Tryz.isAgg107
  z76 := Tryz.sizeOf107
  v76 := Tryz.zeroValue107
  t127 := Tryz.underlying123
  a127 := Tryz.isAgg123
  z127 := Tryz.sizeOf123
  v127 := Tryz.zeroValue123
  t164 := Tryz.underlying136
  a164 := Tryz.isAgg136
  z164 := Tryz.sizeOf136
  v164 := Tryz.zeroValue136 }
theorem Builder_Extra_156 : Builder.Extra Tryz.prog lays156_ren := {
  sizeBuilder := by kernel_rfl
  liesBuilder := by kernel_rfl
  t5 := Tryz.underlying5
  a5 := Tryz.isAgg5
  z5 := Tryz.sizeOf5
  v5 := Tryz.zeroValue5
  infoByte := by kernel_rfl
  cellsByte := by kernel_rfl
  sizeByte := by kernel_rfl
  neB5 := by decide }
def laysC172_ren : Go.Shelf.Ren := ⟨fun | 172 => 103 | 244 => 124 | 245 => 125 | 247 => 137 | 279 => 138 | 280 => 139 | 281 => 140 | 282 => 141 | 287 => 152 | 316 => 153 | 171 => 81 | 205 => 154 | 321 => 161 | 322 => 162 | 243 => 113 | 246 => 132 | 283 => 146 | 284 => 147 | 285 => 148 | 286 => 149 | 129 => 156 | 317 => 155 | 318 => 157 | 319 => 158 | 320 => 159 | 337 => 163 | 338 => 164 | n => n, fun | 9 => 9 | 3 => 3 | 75 => 54 | 76 => 107 | 4 => 4 | 5 => 5 | 167 => 157 | 37 => 89 | 0 => 0 | 85 => 158 | 2 => 2 | 168 => 160 | 53 => 179 | 175 => 189 | 46 => 191 | 210 => 194 | 127 => 123 | 145 => 207 | 143 => 205 | 21 => 21 | 171 => 178 | 173 => 182 | 212 => 197 | 51 => 198 | 20 => 20 | 213 => 199 | 232 => 210 | 233 => 211 | 80 => 93 | n => n, fun | 15 => 4 | 16 => 5 | 17 => 7 | 18 => 8 | 19 => 9 | n => n⟩
theorem laysC172 : Go.Proofs.LaysC.n172 Tryz.prog laysC172_ren := {
  mixed := by kernel_rfl
  f129 := Tryz.func156.trans (congrArg some (by kernel_rfl))
  f171 := Tryz.func81.trans (congrArg some (by kernel_rfl))
  f172 := Tryz.func103.trans (congrArg some (by kernel_rfl))
  f205 := Tryz.func154.trans (congrArg some (by kernel_rfl))
  f243 := Tryz.func113.trans (congrArg some (by kernel_rfl))
  f244 := Tryz.func124.trans (congrArg some (by kernel_rfl))
  f245 := Tryz.func125.trans (congrArg some (by kernel_rfl))
  f246 := Tryz.func132.trans (congrArg some (by kernel_rfl))
  f247 := Tryz.func137.trans (congrArg some (by kernel_rfl))
  f279 := Tryz.func138.trans (congrArg some (by kernel_rfl))
  f280 := Tryz.func139.trans (congrArg some (by kernel_rfl))
  f281 := Tryz.func140.trans (congrArg some (by kernel_rfl))
  f282 := Tryz.func141.trans (congrArg some (by kernel_rfl))
  f283 := Tryz.func146.trans (congrArg some (by kernel_rfl))
  f284 := Tryz.func147.trans (congrArg some (by kernel_rfl))
  f285 := Tryz.func148.trans (congrArg some (by kernel_rfl))
  f286 := Tryz.func149.trans (congrArg some (by kernel_rfl))
  f287 := Tryz.func152.trans (congrArg some (by kernel_rfl))
  f316 := Tryz.func153.trans (congrArg some (by kernel_rfl))
  f317 := Tryz.func155.trans (congrArg some (by kernel_rfl))
  f318 := Tryz.func157.trans (congrArg some (by kernel_rfl))
  f319 := Tryz.func158.trans (congrArg some (by kernel_rfl))
  f320 := Tryz.func159.trans (congrArg some (by kernel_rfl))
  f321 := Tryz.func161.trans (congrArg some (by kernel_rfl))
  f322 := Tryz.func162.trans (congrArg some (by kernel_rfl))
  f337 := Tryz.func163.trans (congrArg some (by kernel_rfl))
  f338 := Tryz.func164.trans (congrArg some (by kernel_rfl))
  t0 := Tryz.underlying0
  a0 := Tryz.isAgg0
  z0 := Tryz.sizeOf0
  v0 := Tryz.zeroValue0
  t2 := Tryz.underlying2
  a2 := Tryz.isAgg2
  z2 := Tryz.sizeOf2
  v2 := Tryz.zeroValue2
  t3 := Tryz.underlying3
  a3 := Tryz.isAgg3
  z3 := Tryz.sizeOf3
  v3 := Tryz.zeroValue3
  t4 := Tryz.underlying4
  a4 := Tryz.isAgg4
  z4 := Tryz.sizeOf4
  v4 := Tryz.zeroValue4
  t5 := Tryz.underlying5
  a5 := Tryz.isAgg5
  z5 := Tryz.sizeOf5
  v5 := Tryz.zeroValue5
  t9 := Tryz.underlying9
  a9 := Tryz.isAgg9
  z9 := Tryz.sizeOf9
  v9 := Tryz.zeroValue9
  t20 := Tryz.underlying20
  a20 := Tryz.isAgg20
  z20 := Tryz.sizeOf20
  v20 := Tryz.zeroValue20
  t21 := Tryz.underlying21
  a21 := Tryz.isAgg21
  z21 := Tryz.sizeOf21
  v21 := Tryz.zeroValue21
  t37 := Tryz.underlying89
  a37 := Tryz.isAgg89
  z37 := Tryz.sizeOf89
  v37 := Tryz.zeroValue89
  t46 := Tryz.underlying191
  a46 := Tryz.isAgg191
  z46 := Tryz.sizeOf191
  v46 := Tryz.zeroValue191
  t51 := Tryz.underlying198
  a51 := Tryz.isAgg198
  z51 := Tryz.sizeOf198
  v51 := Tryz.zeroValue198
  t53 := Tryz.underlying179
  a53 := Tryz.isAgg179
  z53 := Tryz.sizeOf179
  v53 := Tryz.zeroValue179
  t75 := Tryz.underlying54
  a75 := Tryz.isAgg54
  z75 := Tryz.sizeOf54
  v75 := Tryz.zeroValue54
  t76 := Tryz.underlying107
  a76 := Tryz.isAgg107
  z76 := Tryz.sizeOf107
  v76 := Tryz.zeroValue107
  t85 := Tryz.underlying158
  a85 := Tryz.isAgg158
  z85 := Tryz.sizeOf158
  v85 := Tryz.zeroValue158
  t127 := Tryz.underlying123
  a127 := Tryz.isAgg123
  z127 := Tryz.sizeOf123
  v127 := Tryz.zeroValue123
  t143 := Tryz.underlying205
  a143 := Tryz.isAgg205
  z143 := Tryz.sizeOf205
  v143 := Tryz.zeroValue205
  t145 := Tryz.underlying207
  a145 := Tryz.isAgg207
  z145 := Tryz.sizeOf207
  v145 := Tryz.zeroValue207
  t167 := Tryz.underlying157
  a167 := Tryz.isAgg157
  z167 := Tryz.sizeOf157
  v167 := Tryz.zeroValue157
  t168 := Tryz.underlying160
  a168 := Tryz.isAgg160
  z168 := Tryz.sizeOf160
  v168 := Tryz.zeroValue160
  t171 := Tryz.underlying178
  a171 := Tryz.isAgg178
  z171 := Tryz.sizeOf178
  v171 := Tryz.zeroValue178
  t173 := Tryz.underlying182
  a173 := Tryz.isAgg182
  z173 := Tryz.sizeOf182
  v173 := Tryz.zeroValue182
  t175 := Tryz.underlying189
  a175 := Tryz.isAgg189
  z175 := Tryz.sizeOf189
  v175 := Tryz.zeroValue189
  t210 := Tryz.underlying194
  a210 := Tryz.isAgg194
  z210 := Tryz.sizeOf194
  v210 := Tryz.zeroValue194
  t212 := Tryz.underlying197
  a212 := Tryz.isAgg197
  z212 := Tryz.sizeOf197
  v212 := Tryz.zeroValue197
  t213 := Tryz.underlying199
  a213 := Tryz.isAgg199
  z213 := Tryz.sizeOf199
  t232 := Tryz.underlying210
  a232 := Tryz.isAgg210
  z232 := Tryz.sizeOf210
  v232 := Tryz.zeroValue210
  t233 := Tryz.underlying211
  a233 := Tryz.isAgg211
  z233 := Tryz.sizeOf211
  v233 := Tryz.zeroValue211
  g15 := by kernel_rfl
  g16 := by kernel_rfl
  g17 := by kernel_rfl
  g18 := by kernel_rfl
  g19 := by kernel_rfl
  t80 := Tryz.underlying93
  a80 := Tryz.isAgg93
  z80 := Tryz.sizeOf93
  v80 := Tryz.zeroValue93
  i0 := by kernel_rfl
  i2 := by kernel_rfl
  i3 := by kernel_rfl
  i4 := by kernel_rfl
  i5 := by kernel_rfl
  i9 := by kernel_rfl
  i20 := by kernel_rfl
  i21 := by kernel_rfl
  i37 := by kernel_rfl
  i46 := by kernel_rfl
  i51 := by kernel_rfl
  i53 := by kernel_rfl
  i75 := by kernel_rfl
  i76 := by kernel_rfl
  i80 := by kernel_rfl
  i85 := by kernel_rfl
  i127 := by kernel_rfl
  i143 := by kernel_rfl
  i145 := by kernel_rfl
  i167 := by kernel_rfl
  i168 := by kernel_rfl
  i171 := by kernel_rfl
  i173 := by kernel_rfl
  i175 := by kernel_rfl
  i210 := by kernel_rfl
  i212 := by kernel_rfl
  i232 := by kernel_rfl
  i233 := by kernel_rfl
  m15 := by kernel_rfl
  m16 := by kernel_rfl
  m17 := by kernel_rfl
  m18 := by kernel_rfl
  m19 := by kernel_rfl
  c0 := by kernel_rfl
  c2 := by kernel_rfl
  c3 := by kernel_rfl
  c4 := by kernel_rfl
  c5 := by kernel_rfl
  c9 := by kernel_rfl
  c20 := by kernel_rfl
  c21 := by kernel_rfl
  c37 := by kernel_rfl
  c46 := by kernel_rfl
  c51 := by kernel_rfl
  c53 := by kernel_rfl
  c75 := by kernel_rfl
  c76 := by kernel_rfl
  c80 := by kernel_rfl
  c85 := by kernel_rfl
  c127 := by kernel_rfl
  c143 := by kernel_rfl
  c145 := by kernel_rfl
  c167 := by kernel_rfl
  c168 := by kernel_rfl
  c171 := by kernel_rfl
  c173 := by kernel_rfl
  c175 := by kernel_rfl
  c210 := by kernel_rfl
  c212 := by kernel_rfl
  c213 := by kernel_rfl
  c232 := by kernel_rfl
  c233 := by kernel_rfl }
end Go.Proofs.YtneaancanfpdhaaGreatDoor
namespace Go.Proofs.YtneaancanfpdhaaGreatDoor
open Go Go.Vd Go.RowKit Go.Shelf Go.Sort Go.Lib
variable {g gl : Nat → List D}

/-- a library contract that returns a text, over worlds, is one of data -/
theorem triD_of_calls {P : Program} {GL : Nat → List D} {f : FuncId} {args : List D} {s : ByteArray}
    (h : ∀ (m : Mem) (w : World) (vs : List Value), (∀ b o x, m b o = some x → w.cell? ⟨b, o, none⟩ = some x) → (∀ b, DenC m b 0 (GL b)) → SDenL ⟨m, []⟩ (args.map .d) vs → Calls P f ⟨vs⟩ w fun e w' => e = .returned (.string s) ∧ Below w.heap.size w w') :
    TriD P GL f args (· = .v (.string s)) := fun g w vs hs hd => by
  have hgs : g.gs = [] := List.length_eq_zero_iff.1 (hs.len ▸ rfl)
  obtain ⟨m, gs⟩ := g
  simp only at hgs
  subst hgs
  refine (h m w vs (fun b o x e => (hs.sat b o x e).1) hs.glob hd).mono fun e w' he => ?_
  obtain ⟨rfl, hb⟩ := he
  have hkeep : ∀ b o x, m b o = some x → w'.cell? ⟨b, o, none⟩ = some x := fun b o x e => by
    have h1 := (hs.sat b o x e).1
    have hlt : b < w.heap.size := by
      unfold World.cell? at h1
      rcases hh : w.heap[b]? with _ | ob
      · rw [hh] at h1; cases h1
      · exact (Array.getElem?_eq_some_iff.1 hh).1
    unfold World.cell? at h1 ⊢
    rw [hb.block b hlt]; exact h1
  refine ⟨⟨m, []⟩, [], ⟨rfl, by simp, by simp, by simp, fun b o x e => ⟨hkeep b o x e, (hs.sat b o x e).2⟩, hs.glob⟩,
    ⟨⟨hb.os, hb.tape, hb.output, hb.size, fun c hc _ => hb.block c hc⟩, Mle.refl _, fun b o x e1 e2 => ?_, by simp, fun i b hi => ?_⟩, by simp, rfl, .d (.v (.string s)), rfl, rfl, _, rfl, rfl⟩
  · simp only at e1 e2; rw [e1] at e2; cases e2
  · simp at hi

theorem digR_lib (n : Nat) : digR n = ⟨(decDigits n).toArray⟩ := by
  induction n using Nat.strongRecOn with
  | _ n ih =>
    rw [decDigits]
    by_cases h : n < 10
    · rw [digR_one h, dif_pos h, Nat.mod_eq_of_lt h]
    · rw [digR_more h, dif_neg h, ih (n / 10) (by omega)]
      apply ByteArray.ext
      simp
def p10D : List D := pow10Tab.map fun z => .v (.int .u64 z)
theorem p10_cell {m : Mem} {w : World} {b : Nat} (hm : ∀ b o x, m b o = some x → w.cell? ⟨b, o, none⟩ = some x) (h : DenC m b 0 p10D) {i : Nat} (hi : i < 20) : w.cell? ⟨b, i, none⟩ = some (.int .u64 ((10 ^ i : Nat) : Int)) := by
  have hl : pow10Tab[i]? = some ((10 ^ i : Nat) : Int) := by
    have := pow10Tab_at i hi
    rw [List.getD_eq_getElem?_getD] at this
    rw [List.getElem?_eq_getElem (by rw [pow10Tab_length]; exact hi)] at this ⊢
    simpa using this
  obtain ⟨x, h1, h2⟩ := DenC.get h (i := i) (d := .v (.int .u64 ((10 ^ i : Nat) : Int))) (by simp [p10D, hl])
  rw [Nat.zero_add] at h1
  rw [hm _ _ _ h1]
  exact congrArg some h2

section
variable {P : Program} {ρ : Ren}
set_option maxHeartbeats 2000000 in
set_option maxRecDepth 100000 in
theorem nd_calls (L : LaysM.n284 P ρ) (u : Nat) (h1 : 1 ≤ u) (h2 : u < 18446744073709551616) (w : World) (hc : w.cell? ⟨ρ.g 17, l10 (Lib.bitLen u), none⟩ = some (.int .u64 ((10 ^ l10 (Lib.bitLen u) : Nat) : Int))) :
    Calls P (ρ.f 284) #[.int .u64 u] w fun e w' => e = .returned (.int .i64 (nDigits u)) ∧ w' = w := by
  have mixed := L.mixed
  have t53 := L.t53; have a53 := L.a53; have z53 := L.z53; have v53 := L.v53
  have t3 := L.t3; have a3 := L.a3; have z3 := L.z3; have v3 := L.v3
  have t212 := L.t212; have a212 := L.a212; have z212 := L.z212; have v212 := L.v212
  have t0 := L.t0; have a0 := L.a0; have z0 := L.z0; have v0 := L.v0
  have t4 := L.t4; have a4 := L.a4; have z4 := L.z4; have v4 := L.v4
  have e129 : ∀ args w, (callFunc (ρ.f 129) args).run P w = .ok (.enter (ρ.f 129) args) w := enters_of L.f129 (by kernel_rfl) rfl
  have e317 : ∀ args w, (callFunc (ρ.f 317) args).run P w = .ok (.enter (ρ.f 317) args) w := enters_of L.f317 (by kernel_rfl) rfl
  have e318 : ∀ args w, (callFunc (ρ.f 318) args).run P w = .ok (.enter (ρ.f 318) args) w := enters_of L.f318 (by kernel_rfl) rfl
  obtain ⟨hnd, h19⟩ := numDigits_eq u h1 h2
  have hL : Lib.bitLen u ≤ 64 := Lib.bitLen_le u 64 (Nat.le_refl _) h2
  have hto : ((u : Int)).toNat = u := by omega
  generalize hq : l10 (Lib.bitLen u) = q at hnd h19 hc
  generalize hT : 10 ^ q = T at hnd hc
  have h20 : q < 20 := by omega
  have Hnd := Lib.hid hnd
  clear hnd
  go_enter L.f284, Body.n284_ntmps ρ
  go_wp2_with (first
    | (go_at_fn (ρ.f 129); refine (Any.bits_Len64 { L with } _ _ (by omega) (by omega)).mono ?_; rintro e w' ⟨rfl, rfl⟩)
    | (go_at_fn (ρ.f 317); refine (Any.internal_strconv_log10Pow2 { L with } _ (by first | exact hL | (rw [hto]; exact hL)) _).mono ?_; rintro e w' ⟨rfl, rfl⟩)
    | (go_at_fn (ρ.f 318); refine (Any.internal_strconv_bool2_int { L with } _ _).mono ?_; rintro e w' ⟨rfl, rfl⟩))
  all_goals go_ret
  all_goals (
    refine ⟨?_, rfl⟩
    have hnd := Hnd.out
    congr 2
    split at hnd <;> simp_all <;> omega)
set_option maxHeartbeats 6400000 in
set_option maxRecDepth 100000 in
theorem fmt_calls (L : LaysM.n246 P ρ) (u : Nat) (hu : u ≤ 99999) (w : World) (hc : ∀ i, i < 20 → w.cell? ⟨ρ.g 17, i, none⟩ = some (.int .u64 ((10 ^ i : Nat) : Int))) :
    Calls P (ρ.f 246) #[.int .i64 u, .int .i64 10] w fun e w' => e = .returned (.string (digR u)) ∧ Below w.heap.size w w' := by
  by_cases hs : u < 100
  · refine (Any.internal_strconv_FormatInt_10_small { L with } u hs w).mono ?_
    rintro e w' ⟨rfl, rfl⟩
    exact ⟨by rw [digR_lib], Below.refl _ _⟩
  have mixed := L.mixed
  have t2 := L.t2; have a2 := L.a2; have z2 := L.z2; have v2 := L.v2
  have t3 := L.t3; have a3 := L.a3; have z3 := L.z3; have v3 := L.v3
  have t9 := L.t9; have a9 := L.a9; have z9 := L.z9; have v9 := L.v9
  have t4 := L.t4; have a4 := L.a4; have z4 := L.z4; have v4 := L.v4
  have t171 := L.t171; have a171 := L.a171; have z171 := L.z171; have v171 := L.v171
  have t0 := L.t0; have a0 := L.a0; have z0 := L.z0; have v0 := L.v0
  have t53 := L.t53; have a53 := L.a53; have z53 := L.z53; have v53 := L.v53
  have t37 := L.t37; have a37 := L.a37; have z37 := L.z37; have v37 := L.v37
  have t5 := L.t5; have a5 := L.a5; have z5 := L.z5; have v5 := L.v5
  have t173 := L.t173; have a173 := L.a173; have z173 := L.z173; have v173 := L.v173
  have e283 : ∀ args w, (callFunc (ρ.f 283) args).run P w = .ok (.enter (ρ.f 283) args) w := enters_of L.f283 (by kernel_rfl) rfl
  have e284 : ∀ args w, (callFunc (ρ.f 284) args).run P w = .ok (.enter (ρ.f 284) args) w := enters_of L.f284 (by kernel_rfl) rfl
  have e285 : ∀ args w, (callFunc (ρ.f 285) args).run P w = .ok (.enter (ρ.f 285) args) w := enters_of L.f285 (by kernel_rfl) rfl
  have hu1 : 1 ≤ u := by omega
  have hu64 : u < 18446744073709551616 := by omega
  have h19 := (numDigits_eq u hu1 hu64).2
  have hnd20 : nDigits u ≤ 20 := by have := numDigits_eq u hu1 hu64; split at this <;> omega
  have hb3 : nDigits u ≤ 23 := by omega
  have hal : P.arrayLen (ρ.t 171) = 24 := by simp [Program.arrayLen, L.t171]
  have hsl1 : ∀ W, (Instr.sliceAt (ρ.t 171) (.pointer (some ⟨w.heap.size, 0, none⟩)) (some (.int .i64 1)) (some (.int .i64 (1 + (nDigits u : Int)))) none).run P W = .ok (.slice (some ⟨w.heap.size, 1, none⟩) (nDigits u) 23) W := fun W => by
    rw [run_sliceAt_array_lh W (ρ.t 171) ⟨w.heap.size, 0, none⟩ (by simp [Program.arrayLen, Program.elem, L.t171]) .i64 .i64 1 (1 + (nDigits u : Int)) (by omega) (by omega) (by rw [hal]; omega)]
    go_simp
    omega
  have hH0 := holds_zero w (ρ.t 171) (nDigits u) (by omega)
  have hfmt := Any.internal_strconv_formatBase10 { L with } w.heap.size 1 23 u (Array.replicate (nDigits u) 0) (w.alloc (.cells zeros24 (ρ.t 171))) hH0 (by rw [Array.size_replicate]; exact lt_pow_nDigits u) hu64 (by rw [Array.size_replicate]; omega)
  rw [Array.size_replicate] at hfmt
  have hcell : (w.alloc (.cells zeros24 (ρ.t 171))).cell? ⟨ρ.g 17, l10 (Lib.bitLen u), none⟩ = some (.int .u64 ((10 ^ l10 (Lib.bitLen u) : Nat) : Int)) := by
    have h := hc (l10 (Lib.bitLen u)) (by omega)
    have hlt : ρ.g 17 < w.heap.size := by
      unfold World.cell? at h
      rcases hh : w.heap[ρ.g 17]? with _ | ob
      · rw [hh] at h; cases h
      · exact (Array.getElem?_eq_some_iff.1 hh).1
    unfold World.cell? at h ⊢
    rw [Below.heap_alloc w _ _ hlt]; exact h
  have HH0 := Lib.hid hH0
  have Hc := Lib.hid hc
  clear hH0 hal hc
  go_enter L.f246, Body.n246_ntmps ρ
  go_wp2_with (first
    | (go_at_fn (ρ.f 284); refine (nd_calls { L with } u hu1 hu64 _ hcell).mono ?_; rintro e w' ⟨rfl, rfl⟩))
  go_at_fn (ρ.f 285)
  refine hfmt.mono ?_
  rintro e w' ⟨rfl, k, v', dk, rfl, hF⟩
  have hcv : (convert (ρ.t 37) (ρ.t 9) (.slice (some ⟨w.heap.size, 1, none⟩) (nDigits u) 23)).run P ((putRow (fun (b : UInt8) => Value.int .u8 (b.toNat : Int)) (w.alloc (.cells zeros24 (ρ.t 171))) w.heap.size 1 dk).drewN k) = .ok (.string ⟨(decDigits u).toArray⟩) ((putRow (fun (b : UInt8) => Value.int .u8 (b.toNat : Int)) (w.alloc (.cells zeros24 (ρ.t 171))) w.heap.size 1 dk).drewN k) := by
    have h := run_convert_bytes_back (P := P) ((putRow (fun (b : UInt8) => Value.int .u8 (b.toNat : Int)) (w.alloc (.cells zeros24 (ρ.t 171))) w.heap.size 1 dk).drewN k) (ρ.t 37) (ρ.t 9) (ρ.t 5) ⟨w.heap.size, 1, none⟩ 23 (decDigits u) L.t37 L.t5 L.t9 (fun j hj => by
      rw [row_is_numeral hF j hj, Lib.add_plain, World.cell?_drewN]
      exact cell?_putRow (fun (b : UInt8) => Value.int .u8 (b.toNat : Int)) _ w.heap.size 1 _ dk HH0.out (by rw [hF.size, Array.size_replicate]) j (by rw [hF.size]; rw [decDigits_length] at hj; exact hj))
    rw [decDigits_length] at h
    exact h
  go_wp2
  go_ret
  obtain ⟨os, eo⟩ := fin_pos w (.cells zeros24 (ρ.t 171)) dk k
  refine ⟨by rw [digR_lib]; rfl, ?_⟩
  rw [eo]
  exact ⟨rfl, rfl, rfl, (by simp [grow]), fun c hc => (by show (w.heap ++ os)[c]? = w.heap[c]?; rw [Array.getElem?_append_left hc])⟩
end

theorem formatInt_spec (hg : gl (laysM246_ren.g 17) = p10D) (n : Nat) (hn : n ≤ 99999) : TriD Tryz.prog gl 132 [.v (.int .i64 n), .v (.int .i64 10)] (· = .v (.string (digR n))) :=
  triD_of_calls fun m w vs hm hG hd => by
    obtain ⟨x, l, rfl, hx, y, l2, rfl, hy, rfl⟩ := hd
    cases hx
    cases hy
    exact fmt_calls laysM246 n hn w fun i hi => p10_cell hm (hg ▸ hG (laysM246_ren.g 17)) hi
end Go.Proofs.YtneaancanfpdhaaGreatDoor
namespace Go.Proofs.YtneaancanfpdhaaGreatDoor
open Go Go.Vd Go.RowKit Go.Shelf Go.Sort Go.Lib
variable {g gl : Nat → List D}

def joinB (l : List ByteArray) (sep : ByteArray) : ByteArray := ⟨(Lib.join (l.map (·.data.toList)) sep.data.toList).toArray⟩
theorem joinB_nil (sep : ByteArray) : joinB [] sep = .empty := rfl
theorem joinB_one (x sep : ByteArray) : joinB [x] sep = x := by
  unfold joinB; rw [List.map_cons, List.map_nil, Lib.join_one]
theorem toB (l : List UInt8) (m : List UInt8) : (⟨(l ++ m).toArray⟩ : ByteArray) = ⟨l.toArray⟩ ++ ⟨m.toArray⟩ := by
  apply ByteArray.ext; simp
theorem toB_self (s : ByteArray) : (⟨s.data.toList.toArray⟩ : ByteArray) = s := by
  apply ByteArray.ext; simp
def tailB (sep : ByteArray) : List ByteArray → ByteArray
  | [] => .empty
  | x :: r => sep ++ x ++ tailB sep r
theorem tailB_lib (sep : ByteArray) : ∀ l : List ByteArray, (⟨(Lib.joinTail sep.data.toList (l.map (·.data.toList))).toArray⟩ : ByteArray) = tailB sep l
  | [] => rfl
  | x :: r => by
    have h := tailB_lib sep r
    simp only [tailB, ← h]
    unfold Lib.joinTail
    simp only [List.map_cons, List.flatten_cons]
    rw [toB, toB, toB_self, toB_self]
theorem joinB_cons (x : ByteArray) (r : List ByteArray) (sep : ByteArray) : joinB (x :: r) sep = x ++ tailB sep r := by
  unfold joinB
  rw [List.map_cons, Lib.join_cons, toB, toB_self, tailB_lib]
theorem tailB_app (sep : ByteArray) (l m : List ByteArray) : tailB sep (l ++ m) = tailB sep l ++ tailB sep m := by
  induction l with
  | nil => simp [tailB]
  | cons a r ih => simp only [List.cons_append, tailB, ih, ByteArray.append_assoc]

theorem joinLib_spec (l : List ByteArray) (sep : ByteArray) (hn : l.length ≤ 140737488355328) (hb : (joinB l sep).size ≤ 140737488355328) :
    TriD Tryz.prog gl 80 [.sl 1 (strs l), .v (.string sep)] (· = .v (.string (joinB l sep))) :=
  triD_of_calls fun m w vs hm hG hd => by
    obtain ⟨x, l1, rfl, hx, y, l2, rfl, hy, rfl⟩ := hd
    cases hy
    obtain ⟨a, cap, rfl, hcap, hel⟩ := hx
    rw [strs_len] at hcap ⊢
    by_cases hl : l = []
    · subst hl
      refine (Any.strings_Join_none lays156 Builder_Extra_156 a cap sep w).mono ?_
      rintro e w' ⟨rfl, rfl⟩
      exact ⟨rfl, Below.refl _ _⟩
    · obtain ⟨b, off, rfl, hr⟩ := hel (by intro e; apply hl; have := congrArg List.length e; rw [strs_len] at this; exact List.length_eq_zero_iff.1 this)
      have hcells : ∀ (j : Nat) x, l[j]? = some x → w.cell? ⟨b, off + j, none⟩ = some (.string x) := fun j x h => by
        obtain ⟨_, h2⟩ := DenR.get hr (i := j) (e := [.v (.string x)]) (by simp [strs, h])
        obtain ⟨⟨v, h3, h4⟩, _⟩ := h2
        rw [Nat.mul_one] at h3
        cases h4
        exact hm _ _ _ h3
      have hbk : b < w.heap.size := by
        have h0 : l[0]? = some l[0]! := by
          cases l with
          | nil => exact absurd rfl hl
          | cons a r => rfl
        have h := hcells 0 _ h0
        unfold World.cell? at h
        rcases hh : w.heap[b]? with _ | ob
        · rw [hh] at h; cases h
        · exact (Array.getElem?_eq_some_iff.1 hh).1
      have hlen : (Lib.join (l.map (·.data.toList)) sep.data.toList).length = (joinB l sep).size := by
        unfold joinB; simp [ByteArray.size]
      exact Any.strings_Join lays156 Builder_Extra_156 b off cap l sep w hcells hbk hn hcap (by rw [hlen]; exact hb)

/-- no number -/
def badNum (t : ByteArray) : Prop := Lib.atoiAll t.data.toList = Lib.atoiAll []
def ifcD (d : D) : Prop := ∀ (m : Mem) (v : Value), d.Den m v → (v = .nilIface ∨ ∃ te pe, v = .iface te pe)
def numErrD (t : ByteArray) (e : D) : D := .ifc 160 (.cp [.v (.string ⟨#[65, 116, 111, 105]⟩), .v (.string t), e])
theorem atoiBad_spec (t : ByteArray) (e : D) (hg : gl (laysC172_ren.g 15) = [e]) (he : ifcD e) (ht : t.size ≤ 281474976710656) (h : badNum t) :
    TriD Tryz.prog gl 103 [.v (.string t)] (· = .tup [.v (.int .i64 0), numErrD t e]) := fun g w vs hs hd => by
  obtain ⟨x, l1, rfl, hx, rfl⟩ := hd
  cases hx
  have hgs : g.gs = [] := List.length_eq_zero_iff.1 (hs.len ▸ rfl)
  obtain ⟨m, gs⟩ := g
  simp only at hgs
  subst hgs
  have hG := hs.glob (laysC172_ren.g 15)
  rw [hg] at hG
  obtain ⟨⟨ev, h1, h2⟩, _⟩ := hG
  have hev := (hs.sat _ _ _ h1)
  have hltm : ∀ b o x, m b o = some x → b < w.heap.size := fun b o x e => by
    have h := (hs.sat b o x e).1
    unfold World.cell? at h
    rcases hh : w.heap[b]? with _ | ob
    · rw [hh] at h; cases h
    · exact (Array.getElem?_eq_some_iff.1 hh).1
  refine (Any.strconv_Atoi_syntax laysC172 t ht h ev w hev.1 (he _ _ h2)).mono fun e' w' hq => ?_
  obtain ⟨N, rfl, hN, hcell, hb⟩ := hq
  let cs : List Value := [.string ⟨#[65, 116, 111, 105]⟩, .string t, ev]
  let m' : Mem := fun b o => if b = N then cs[o]? else m b o
  have hmm : Mle m m' := fun b o x e => by
    have := hltm b o x e
    show (if b = N then _ else _) = _
    rw [if_neg (by omega)]; exact e
  have hkeep : ∀ b o x, m b o = some x → w'.cell? ⟨b, o, none⟩ = some x := fun b o x e => by
    have h1 := (hs.sat b o x e).1
    unfold World.cell? at h1 ⊢
    rw [hb.block b (hltm b o x e)]; exact h1
  have hsat : ∀ b o x, m' b o = some x → w'.cell? ⟨b, o, none⟩ = some x ∧ x.oneCell' = true := fun b o x e => by
    by_cases hbN : b = N
    · have e2 : cs[o]? = some x := by
        have : m' b o = cs[o]? := if_pos hbN
        rw [this] at e; exact e
      subst hbN
      constructor
      · unfold World.cell?
        rw [hcell]
        simpa [cs] using e2
      · rcases o with _ | _ | _ | o
        · simp [cs] at e2; subst e2; rfl
        · simp [cs] at e2; subst e2; rfl
        · simp [cs] at e2; subst e2; exact hev.2
        · simp [cs] at e2
    · have e2 : m b o = some x := by
        have : m' b o = m b o := if_neg hbN
        rw [this] at e; exact e
      exact ⟨hkeep b o x e2, (hs.sat b o x e2).2⟩
  have hm3 : ∀ o, m' N o = cs[o]? := fun o => if_pos rfl
  refine ⟨⟨m', []⟩, [], ⟨rfl, by simp, by simp, by simp, hsat, fun b => DenC.mono hmm _ (hs.glob b)⟩,
    ⟨⟨hb.os, hb.tape, hb.output, hb.size, fun c hc _ => hb.block c hc⟩, hmm, fun b o x e1 e2 => ?_, by simp, fun i b hi => ?_⟩, by simp, rfl, .d (.tup [.v (.int .i64 0), numErrD t e]), ?_, rfl, _, rfl, rfl⟩
  · by_cases hbN : b = N
    · subst hbN; exact .inr hN
    · have e3 : m' b o = m b o := if_neg hbN
      simp only at e1 e2
      rw [e3, e2] at e1; cases e1
  · simp at hi
  · refine ⟨_, rfl, _, _, rfl, rfl, _, _, rfl, ⟨_, rfl, N, 0, rfl, ?_⟩, rfl⟩
    exact ⟨⟨_, hm3 0, rfl⟩, ⟨_, hm3 1, rfl⟩, ⟨_, hm3 2, D.Den.mono hmm _ h2⟩, trivial⟩
end Go.Proofs.YtneaancanfpdhaaGreatDoor
namespace Go.Proofs.YtneaancanfpdhaaGreatDoor
open Go Go.Vd Go.RowKit
attribute [local irreducible] Runs OpsR OpR FloatR AnyR AnyO
variable {g gl : Nat → List D}

theorem itoaIn_spec (hg : gl (laysM246_ren.g 17) = p10D) (n : Nat) (hn : n ≤ 99999) : TriD Tryz.prog gl 113 [.v (.int .i64 n)] (· = .v (.string (digR n))) := by
  refine triD_of_runs Tryz.func113 rfl Tryz.ntmps113 (rs := [.tmp 2]) rfl rfl rfl ?_
  refine sr ?_; refine o1 (asg ?_); refine nx ?_; refine sr ?_; refine o1 (mv ?_); refine oc (cv ca132 rfl rfl (formatInt_spec hg n hn) (fir (fir .nil)) ?_); refine o1 (asg ?_); refine nx ?_; refine runs_ret ?_; refine fin_ret ?_
  refine fin_d1 rfl rfl ?_
  rfl
theorem itoa_spec (hg : gl (laysM246_ren.g 17) = p10D) (n : Nat) (hn : n ≤ 99999) : TriD Tryz.prog gl 81 [.v (.int .i64 n)] (· = .v (.string (digR n))) := by
  refine triD_of_runs Tryz.func81 rfl Tryz.ntmps81 (rs := [.tmp 2]) rfl rfl rfl ?_
  refine sr ?_; refine o1 (asg ?_); refine nx ?_; refine sr ?_; refine o1 (mv ?_); refine oc (cv ca113 rfl rfl (itoaIn_spec hg n hn) (fir .nil) ?_); refine o1 (asg ?_); refine nx ?_; refine runs_ret ?_; refine fin_ret ?_
  refine fin_d1 rfl rfl ?_
  rfl
theorem wordT_drop {k : Int} (h0 : 0 ≤ k) (h6 : k ≤ 6) : ∃ r, dropO (k.toNat * 1) (glT g 1) = some (.v (.string (wordT k)) :: r) := by
  have : k = 0 ∨ k = 1 ∨ k = 2 ∨ k = 3 ∨ k = 4 ∨ k = 5 ∨ k = 6 := by omega
  rcases this with rfl | rfl | rfl | rfl | rfl | rfl | rfl <;> exact ⟨_, rfl⟩
theorem hdT_2 {s : ByteArray} : hdT 2 s = ⟨#[40]⟩ ++ wordT 2 ++ (⟨#[32]⟩ ++ s) := by unfold hdT; rw [if_pos rfl]; simp only [ByteArray.append_assoc]
theorem hdT_no {k : Int} {s : ByteArray} (h : ¬ k = 2) : hdT k s = ⟨#[40]⟩ ++ wordT k := by unfold hdT; rw [if_neg h]
theorem ne_of_size {s : ByteArray} (h : 0 < s.size) : s ≠ .empty := by rintro rfl; exact absurd h (by decide)
theorem twrite_spec (h3 : g 3 = wordsD) (h7 : g (laysM246_ren.g 17) = p10D) : ∀ (n : Nat) (k m : Int) (s : ByteArray) (ls : List Lvl) (args : List Trm) (used : Bool) (b : ByteArray), wtT (.mk k m s ls args) ≤ n → wtT (.mk k m s ls args) ≤ 1099511627776 → okT (.mk k m s ls args) → b.size + (wrT (.mk k m s ls args)).size ≤ 35184372088832 →
    Tri Tryz.prog (glT g) 66 (bldO used b) [.blk 0 0, .d (Trm.mk k m s ls args).d] fun out ob' => out = .ret (.d (.tup [])) ∧ ob' = bldO true (b ++ wrT (.mk k m s ls args)) := by
  intro n
  induction n with
  | zero => intro k m s ls args used b h; simp [wtT] at h
  | succ n ih =>
    intro k m s ls args used b hn hb ho hsize
    have hwt := wrT_size _ ho
    obtain ⟨h0, h6, hm0, hm, hl, ha⟩ := ho
    have hll := wtLs_len ls
    have hlt := wtTs_len args
    simp only [wtT] at hn hb hwt
    have hle1 := lvls_len ls
    have hle2 := trms_len args
    by_cases hk : k = 0
    · subst hk
      obtain ⟨m, rfl⟩ := Int.eq_ofNat_of_zero_le hm0
      have hd5 := digR_size5 (n := m) (by omega)
      rw [wrT_var] at hsize ⊢
      simp only [Int.toNat_natCast] at hsize ⊢
      have hck := ws_spec (gl := glT g) used b (⟨#[35]⟩ ++ digR m) (ne_of_size (by simp only [ByteArray.size_append, size_mk, List.size_toArray, List.length_cons, List.length_nil]; omega)) (by omega)
      cases used
      all_goals (
        unfold bldO bldA
        dsimp only [cond_true, cond_false]
        refine triS_of_runs Tryz.func66 rfl Tryz.ntmps66 (rs := []) rfl rfl rfl 2 rfl ?_
        refine sr ?_; refine oc (T := fun _ => False) (bx ti31 ?_ (hl := by simp only [List.length_cons, List.length_nil, Nat.reduceAdd]; rfl)); refine nx ?_; refine runs_seq ?_; refine sr ?_; refine o1 (fdb ti31 ?_); refine o1 (ldb ti3 ?_)
        refine o1 (ieq ?_); refine nx ?_; refine cdf (fun h1 => ?_) (fun h1 => ?_)
        · simp only [nrm, Int.reduceEq, Int.reduceNe, Int.reduceLT, Int.reduceLE] at h1
        (try simp only [nrm, Int.reduceEq, Int.reduceNe, Int.reduceLT, Int.reduceLE] at h1); refine kp [3, 0] ?_; refine sr ?_; refine o1 (mv ?_); refine o1 (fdb ti31 ?_); refine o1 (ldb ti3 ?_)
        refine oc (cv ca81 rfl rfl (itoa_spec (gl := glT g) h7 m (by omega)) (fir .nil) ?_); refine o1 (f_sadd ?_ (hb := by (try simp only [ByteArray.size_append, size_mk, List.size_toArray, List.length_cons, List.length_nil]); omega))
        refine oc (ck ca79 rfl rfl (hck) [0, 1] rfl (boc (bor .nil)) (fir (fir .nil)) ?_); refine nx ?_; refine runs_ret ?_; refine seq_ret ?_; refine fin_ret ?_
        refine fin_od (l := []) rfl rfl ([0, 1]) (bldO true (b ++ (⟨#[35]⟩ ++ digR m))) rfl rfl rfl ?_ ?_
        · repeat (first | exact boz | refine boc ?_ | refine bor ?_)
        · exact ⟨rfl, rfl⟩
      )
    · rw [wrT_hd hk] at hwt hsize ⊢
      simp only [ByteArray.size_append, size_mk, List.size_toArray, List.length_cons, List.length_nil] at hwt hsize
      have hw5 := wordT_size k
      have hh1 : (⟨#[40]⟩ ++ wordT k : ByteArray).size = 1 + (wordT k).size := by simp only [ByteArray.size_append, size_mk, List.size_toArray, List.length_cons, List.length_nil]
      have hh2 : (⟨#[32]⟩ ++ s : ByteArray).size = 1 + s.size := by simp only [ByteArray.size_append, size_mk, List.size_toArray, List.length_cons, List.length_nil]
      obtain ⟨rr, hat⟩ := wordT_drop (g := g) h0 h6
      have hck := ws_spec (gl := glT g) used b (⟨#[40]⟩ ++ wordT k) (ne_of_size (by omega)) (by omega)
      cases used
      all_goals (
        unfold bldO bldA
        dsimp only [cond_true, cond_false]
        refine triS_of_runs Tryz.func66 rfl Tryz.ntmps66 (rs := []) rfl rfl rfl 2 rfl ?_
        refine sr ?_; refine oc (T := fun _ => False) (bx ti31 ?_ (hl := by simp only [List.length_cons, List.length_nil, Nat.reduceAdd]; rfl)); refine nx ?_; refine runs_seq ?_; refine sr ?_; refine o1 (fdb ti31 ?_); refine o1 (ldb ti3 ?_)
        refine o1 (ieq ?_); refine nx ?_; refine cd (fun h1 => ?_) (fun h1 => ?_)
        · (try simp only [nrm, Int.reduceEq, Int.reduceNe, Int.reduceLT, Int.reduceLE] at h1); contradiction
        (try simp only [nrm, Int.reduceEq, Int.reduceNe, Int.reduceLT, Int.reduceLE] at h1); refine runs_skip ?_; refine seq_normal ?_; refine kp [3, 0] ?_; refine sr ?_; refine o1 (mv ?_); refine o1 (fdb ti31 ?_); refine o1 (ldb ti3 ?_)
        refine o1 (f_index_arr ua121 ti9 ?_ (hl := by exact (hat))); refine o1 (ldc ti9 ?_); refine o1 (f_sadd ?_ (hb := by (try simp only [ByteArray.size_append, size_mk, List.size_toArray, List.length_cons, List.length_nil]); omega))
        refine oc (ck ca79 rfl rfl (hck) [0, 1] rfl (boc (bor .nil)) (fir (fir .nil)) ?_); refine nx ?_; refine runs_seq ?_; refine kp [3, 0] ?_; refine sr ?_; refine o1 (fdb ti31 ?_); refine o1 (ldb ti3 ?_); refine o1 (ieq ?_); refine nx ?_
        refine kp [26, 3, 0] ?_
        apply runs_cut_o (ι := ByteArray) (fun hd => []) (fun hd => [.cells [.blk 0 0, .own 1 1 (bytesD hd)] 91, .row 5 1, .cells [.d (.v (.int .i64 k)), .d (.v (.int .i64 m)), .d (.v (.string s)), .d (.sl 3 (lvls ls)), .d (.sl 5 (trms args))] 31]) [3, 0] (fun hd => hd = b ++ hdT k s)
        case hk => exact rfl
        case h1 =>
          refine cdf (fun h4 => ?_) (fun h4 => ?_)
          · (try simp only [nrm, Int.reduceEq, Int.reduceNe, Int.reduceLT, Int.reduceLE] at h4)
            refine runs_skip ?_; refine seq_back ?_; refine back_c (b ++ (⟨#[40]⟩ ++ wordT k)) rfl ?_ ([0, 1, 2]) ?_
            · rw [hdT_no h4]
            · refine mo ?_ (sly (sly slz))
              repeat (first | exact boz | refine boc ?_ | refine bor ?_)
          (try simp only [nrm, Int.reduceEq, Int.reduceNe, Int.reduceLT, Int.reduceLE] at h4); refine runs_region ?_; refine o1 (mv ?_); refine o1 (fdb ti31 ?_); refine o1 (ldb ti9 ?_)
          refine o1 (f_sadd ?_ (hb := by (try simp only [ByteArray.size_append, size_mk, List.size_toArray, List.length_cons, List.length_nil]); omega))
          refine oc (ck ca79 rfl rfl (ws_spec true (b ++ (⟨#[40]⟩ ++ wordT k)) (⟨#[32]⟩ ++ s) (ne_of_size (by omega)) (by rw [ByteArray.size_append]; omega)) [0, 1] rfl (boc (bor .nil)) (fir (fir .nil)) ?_); refine ops_nil ?_; refine seq_back ?_
          refine back_c (b ++ (⟨#[40]⟩ ++ wordT k) ++ (⟨#[32]⟩ ++ s)) rfl ?_ ([0, 1, 2]) ?_
          · rw [h4, hdT_2]; simp only [ByteArray.append_assoc]
          · refine mo ?_ (sly (sly slz))
            repeat (first | exact boz | refine boc ?_ | refine bor ?_)
        case h2 =>
          rintro hd hcut
          try dsimp only at hcut
          refine kp [3, 0] ?_; refine runs_seq ?_; refine runs_seq ?_
          subst hcut
          refine runs_region ?_; refine o1 (fdb ti31 ?_); refine o1 (ldb ti28 ?_); refine o1 (le1 us28 ?_); refine o1 (mv ?_); refine nx ?_; refine runs_block ?_; refine kp [35, 34, 33, 3, 0] ?_
          rw [show b ++ hdT k s = b ++ hdT k s ++ wrL (ls.take 0) by simp [wrL]]
          apply runs_loop_o (ι := Nat) (fun i => [(35, int i)]) (fun i => [.cells [.blk 0 0, .own 1 1 (bytesD (b ++ hdT k s ++ wrL (ls.take i)))] 91, .row 5 1, .cells [.d (.v (.int .i64 k)), .d (.v (.int .i64 m)), .d (.v (.string s)), .d (.sl 3 (lvls ls)), .d (.sl 5 (trms args))] 31]) [34, 33, 3, 0] (fun i => i ≤ ls.length) (fun i => ls.length - i) (0) ([0, 1, 2])
          case hk => exact rfl
          case hI =>
            exact Nat.zero_le _
          case hm =>
            refine mo ?_ (sly (sly (sly (sly (sly slz)))))
            repeat (first | exact boz | refine boc ?_ | refine bor ?_)
          case h =>
            rintro i hinv
            try dsimp only at hinv
            refine kp [35, 34, 33, 3, 0] ?_; refine sr ?_; refine o1 (ilt ?_); refine nx ?_; refine runs_seq ?_; refine cd (fun h7 => ?_) (fun h7 => ?_)
            · (try simp only [nrm, Int.reduceEq, Int.reduceNe, Int.reduceLT, Int.reduceLE] at h7)
              refine runs_skip ?_; refine seq_normal ?_; refine runs_seq ?_; refine runs_block ?_; refine runs_seq ?_
              have hget : ls[i]? = some ls[i] := by simp
              obtain ⟨x, hx, hfx⟩ := okLs_get hl hget
              rw [hx] at hget
              have hwx := wtL_get hget
              rw [wtL_lev] at hwx
              have hpx := x.print_size
              have hsx := x.size_le_weight
              rw [← x.size_toLvl] at hsx
              have hwl := wr_lev x
              obtain ⟨k1, s1, a1, hX⟩ := Lvl.case x.toLvl
              rw [hX] at hget hfx hwl hsx
              have hst := wrL_take_le ls (i + 1)
              have hnext : b ++ hdT k s ++ wrL (ls.take i) ++ (⟨#[32]⟩ ++ wr (.mk k1 s1 a1)) = b ++ hdT k s ++ wrL (ls.take (i + 1)) := (by rw [wrL_take hget]; simp only [ByteArray.append_assoc])
              rw [wrL_take hget, hwl] at hst
              simp only [ByteArray.size_append, size_mk, List.size_toArray, List.length_cons, List.length_nil] at hst
              have hh3 : (⟨#[32]⟩ ++ wr (.mk k1 s1 a1) : ByteArray).size = 1 + x.print.size := (by rw [hwl]; simp only [ByteArray.size_append, size_mk, List.size_toArray, List.length_cons, List.length_nil])
              have hh4 : (wr (.mk k1 s1 a1)).size = x.print.size := (by rw [hwl])
              refine runs_region ?_; refine o1 (ixs us28 te28 ?_ (he := by exact (lvl_at hget))); refine o1 (ldc ti45 ?_); refine oc (T := fun _ => False) (alc ti45 ?_ (hl := by simp only [List.length_cons, List.length_nil, Nat.reduceAdd]; rfl))
              refine oc (sto ti45 ?_); refine nx ?_; refine runs_region ?_; refine o1 (mv ?_); refine o1 (ldb ti45 ?_); refine oc (cv ca99 rfl rfl (pprint_spec (gl := glT g) h3 k1 s1 a1 (by omega) hfx (by omega)) (fid .nil) ?_)
              refine o1 (f_sadd ?_ (hb := by (try simp only [ByteArray.size_append, size_mk, List.size_toArray, List.length_cons, List.length_nil]); omega))
              refine oc (ck ca79 rfl rfl (ws_spec true (b ++ hdT k s ++ wrL (ls.take i)) (⟨#[32]⟩ ++ wr (.mk k1 s1 a1)) (ne_of_size (by omega)) (by simp only [ByteArray.size_append] at hh3 hsize ⊢; omega)) [0, 1] rfl (boc (bor .nil)) (fir (fir .nil)) ?_)
              refine ops_nil ?_; refine inb_normal ?_; refine seq_normal ?_; refine kp [35, 34, 33, 3, 0] ?_; refine runs_region ?_; refine o1 (iad ?_); refine o1 (mv ?_); refine ops_nil ?_; refine seq_back ?_
              rw [hnext]
              refine back_c (i + 1) rfl ?_ ([0, 1, 2]) ?_
              · exact ⟨by omega, by omega⟩
              · refine mo ?_ (sly (sly (sly (sly (sly slz)))))
                repeat (first | exact boz | refine boc ?_ | refine bor ?_)
            (try simp only [nrm, Int.reduceEq, Int.reduceNe, Int.reduceLT, Int.reduceLE] at h7); refine runs_exit ?_; refine seq_exit ?_; refine seq_exit ?_; refine inb_exit ?_; refine seq_normal ?_; refine runs_seq ?_; refine runs_seq ?_
            refine kp [3, 0] ?_; obtain rfl : i = ls.length := (by omega)
            rw [List.take_length]
            refine runs_region ?_; refine o1 (fdb ti31 ?_); refine o1 (ldb ti29 ?_); refine o1 (le1 us29 ?_); refine o1 (mv ?_); refine nx ?_; refine runs_block ?_; refine kp [48, 47, 46, 0] ?_
            rw [show b ++ hdT k s ++ wrL ls = b ++ hdT k s ++ wrL ls ++ wrTs (args.take 0) by simp [wrTs]]
            apply runs_loop_o (ι := Nat) (fun j => [(48, int j)]) (fun j => [.cells [.blk 0 0, .own 1 1 (bytesD (b ++ hdT k s ++ wrL ls ++ wrTs (args.take j)))] 91, .row 5 1, .cells [.d (.v (.int .i64 k)), .d (.v (.int .i64 m)), .d (.v (.string s)), .d (.sl 3 (lvls ls)), .d (.sl 5 (trms args))] 31]) [47, 46, 0] (fun j => j ≤ args.length) (fun j => args.length - j) (0) ([0, 1, 2])
            case hk => exact rfl
            case hI =>
              exact Nat.zero_le _
            case hm =>
              refine mo ?_ (sly (sly (sly (sly slz))))
              repeat (first | exact boz | refine boc ?_ | refine bor ?_)
            case h =>
              rintro j hinv
              try dsimp only at hinv
              refine kp [48, 47, 46, 0] ?_; refine sr ?_; refine o1 (ilt ?_); refine nx ?_; refine runs_seq ?_; refine cdf (fun h12 => ?_) (fun h12 => ?_)
              · (try simp only [nrm, Int.reduceEq, Int.reduceNe, Int.reduceLT, Int.reduceLE] at h12)
                refine runs_exit ?_; refine seq_exit ?_; refine seq_exit ?_; refine inb_exit ?_; refine seq_normal ?_; refine kp [0] ?_; obtain rfl : j = args.length := (by omega)
                rw [List.take_length]
                refine runs_region ?_; refine o1 (mv ?_); refine oc (ck ca100 rfl rfl (wb_spec true (b ++ hdT k s ++ wrL ls ++ wrTs args) 41 (by simp only [ByteArray.size_append]; omega)) [0, 1] rfl (boc (bor .nil)) (fir (fir .nil)) ?_); refine ops_nil ?_
                refine fin_normal ?_; refine fin_od (l := []) rfl rfl ([0, 1]) (bldO true (b ++ hdT k s ++ wrL ls ++ wrTs args ++ ⟨#[41]⟩)) rfl rfl rfl ?_ ?_
                · repeat (first | exact boz | refine boc ?_ | refine bor ?_)
                · refine ⟨rfl, ?_⟩; simp only [ByteArray.append_assoc]; rfl
              (try simp only [nrm, Int.reduceEq, Int.reduceNe, Int.reduceLT, Int.reduceLE] at h12); refine runs_skip ?_; refine seq_normal ?_; refine runs_seq ?_; refine runs_block ?_; refine runs_seq ?_
              obtain ⟨k2, n2, s2, l2, a2, hget⟩ := trm_get (show j < args.length by omega)
              have hwx := wtT_get hget
              have hox := okT_get ha hget
              have hst := wrTs_take_le args (j + 1)
              have hnext : b ++ hdT k s ++ wrL ls ++ wrTs (args.take j) ++ ⟨#[32]⟩ ++ wrT (.mk k2 n2 s2 l2 a2) = b ++ hdT k s ++ wrL ls ++ wrTs (args.take (j + 1)) := (by rw [wrTs_take hget]; simp only [ByteArray.append_assoc])
              rw [wrTs_take hget] at hst
              simp only [ByteArray.size_append, size_mk, List.size_toArray, List.length_cons, List.length_nil] at hst
              refine runs_region ?_; refine o1 (ixs us29 te29 ?_ (he := by exact (trm_at hget))); refine o1 (ldc ti31 ?_); refine oc (T := fun _ => False) (alc ti31 ?_ (hl := by simp only [List.length_cons, List.length_nil, Nat.reduceAdd]; rfl))
              refine oc (sto ti31 ?_); refine nx ?_; refine sr ?_; refine o1 (mv ?_)
              refine oc (ck ca100 rfl rfl (wb_spec true (b ++ hdT k s ++ wrL ls ++ wrTs (args.take j)) 32 (by simp only [ByteArray.size_append]; omega)) [0, 1] rfl (boc (bor .nil)) (fir (fir .nil)) ?_); refine nx ?_; refine kp [7, 48, 47, 46, 0] ?_
              refine runs_region ?_; refine o1 (mv ?_); refine o1 (ldb ti31 ?_)
              refine oc (ck ca66 rfl rfl (ih k2 n2 s2 l2 a2 true (b ++ hdT k s ++ wrL ls ++ wrTs (args.take j) ++ ⟨#[32]⟩) (by omega) (by omega) hox (by simp only [ByteArray.size_append, size_mk, List.size_toArray, List.length_cons, List.length_nil]; omega)) [0, 1] rfl (boc (bor .nil)) (fir (fid .nil)) ?_)
              refine ops_nil ?_; refine inb_normal ?_; refine seq_normal ?_; refine kp [48, 47, 46, 0] ?_; refine runs_region ?_; refine o1 (iad ?_); refine o1 (mv ?_); refine ops_nil ?_; refine seq_back ?_
              rw [hnext]
              refine back_c (j + 1) rfl ?_ ([0, 1, 2]) ?_
              · exact ⟨by omega, by omega⟩
              · refine mo ?_ (sly (sly (sly (sly slz))))
                repeat (first | exact boz | refine boc ?_ | refine bor ?_)
      )

theorem tprint_spec (h3 : g 3 = wordsD) (h7 : g (laysM246_ren.g 17) = p10D) (k m : Int) (s : ByteArray) (ls : List Lvl) (args : List Trm) (hb : wtT (.mk k m s ls args) ≤ 1099511627776) (ho : okT (.mk k m s ls args)) :
    TriD Tryz.prog (glT g) 31 [(Trm.mk k m s ls args).d] (· = .v (.string (wrT (.mk k m s ls args)))) := by
  have hsz := wrT_size _ ho
  have hwe := twrite_spec h3 h7 _ k m s ls args false .empty (Nat.le_refl _) hb ho (by have : ByteArray.empty.size = 0 := rfl; omega)
  rw [ByteArray.empty_append] at hwe
  refine triD_of_runs Tryz.func31 rfl Tryz.ntmps31 (rs := [.tmp 2]) rfl rfl rfl ?_
  refine sr ?_; refine oc (T := fun _ => False) (bx ti31 ?_ (hl := by simp only [List.length_cons, List.length_nil, Nat.reduceAdd]; rfl)); refine o1 (asg ?_); refine nx ?_; refine sr ?_
  refine oc (T := fun _ => False) (alc ti91 ?_ (hl := by simp only [List.length_cons, List.length_nil, Nat.reduceAdd]; rfl)); refine nx ?_; refine runs_seq ?_; refine runs_nilrow 5 1 rfl ?_; refine runs_region ?_; refine o1 (ldb ti31 ?_)
  refine oc (ck ca66 rfl rfl (hwe) [1, 2] rfl (.cons rfl (.cells rfl (by repeat (first | exact fiz | refine fir ?_ | refine .cons (.nil rfl) ?_))) (bon .nil)) (fir (fid .nil)) ?_); refine nx ?_; refine kp [3] ?_; refine sr ?_
  refine oc (ck ca67 rfl rfl (bstr_spec (wrT (.mk k m s ls args)) (wrT_ne _)) [1, 2] rfl (boc (bor .nil)) (fir .nil) ?_); refine o1 (asg ?_); refine nx ?_; refine runs_ret ?_; refine fin_ret ?_; refine fin_d1 rfl rfl ?_
  rfl
end Go.Proofs.YtneaancanfpdhaaGreatDoor
namespace Go.Vd
open Go Go.RowKit

inductive Dec where
  | mk (kind : Int) (name : ByteArray) (params : List ByteArray) (ty val : Trm) (arity : Int) (ctors : List (ByteArray × Trm))
def ctrs (l : List (ByteArray × Trm)) : List (List D) := l.map fun c => .v (.string c.1) :: c.2.cells
def Dec.cells : Dec → List D
  | .mk k s ps t v a cs => .v (.int .i64 k) :: .v (.string s) :: .sl 1 (strs ps) :: (t.cells ++ (v.cells ++ [.v (.int .i64 a), .sl 6 (ctrs cs)]))
def Dec.d (x : Dec) : D := .agg x.cells
def decs (l : List Dec) : List (List D) := l.map Dec.cells
theorem Dec.case (x : Dec) : ∃ k s ps k1 n1 s1 l1 a1 k2 n2 s2 l2 a2 a cs, x = .mk k s ps (.mk k1 n1 s1 l1 a1) (.mk k2 n2 s2 l2 a2) a cs := by
  obtain ⟨k, s, ps, ⟨k1, n1, s1, l1, a1⟩, ⟨k2, n2, s2, l2, a2⟩, a, cs⟩ := x
  exact ⟨_, _, _, _, _, _, _, _, _, _, _, _, _, _, _, rfl⟩
theorem Dec.cells_eq (k : Int) (s : ByteArray) (ps : List ByteArray) (k1 n1 : Int) (s1 : ByteArray) (l1 : List Lvl) (a1 : List Trm) (k2 n2 : Int) (s2 : ByteArray) (l2 : List Lvl) (a2 : List Trm) (a : Int) (cs : List (ByteArray × Trm)) :
    (Dec.mk k s ps (.mk k1 n1 s1 l1 a1) (.mk k2 n2 s2 l2 a2) a cs).cells = [.v (.int .i64 k), .v (.string s), .sl 1 (strs ps), .v (.int .i64 k1), .v (.int .i64 n1), .v (.string s1), .sl 3 (lvls l1), .sl 5 (trms a1), .v (.int .i64 k2), .v (.int .i64 n2), .v (.string s2), .sl 3 (lvls l2), .sl 5 (trms a2), .v (.int .i64 a), .sl 6 (ctrs cs)] := rfl
theorem ctrs_len (l : List (ByteArray × Trm)) : (ctrs l).length = l.length := by simp [ctrs]
theorem decs_len (l : List Dec) : (decs l).length = l.length := by simp [decs]
theorem ctrs_app (l m : List (ByteArray × Trm)) : ctrs (l ++ m) = ctrs l ++ ctrs m := by simp [ctrs]
theorem decs_app (l m : List Dec) : decs (l ++ m) = decs l ++ decs m := by simp [decs]
theorem ctr_at {l : List (ByteArray × Trm)} {i : Nat} {nm : ByteArray} {k n : Int} {s : ByteArray} {ls : List Lvl} {args : List Trm} (h : l[i]? = some (nm, .mk k n s ls args)) : (ctrs l)[((i : Nat) : Int).toNat]? = some [.v (.string nm), .v (.int .i64 k), .v (.int .i64 n), .v (.string s), .sl 3 (lvls ls), .sl 5 (trms args)] := by
  simp [ctrs, h, Trm.cells]
theorem dec_at {l : List Dec} {i : Nat} {k : Int} {s : ByteArray} {ps : List ByteArray} {k1 n1 : Int} {s1 : ByteArray} {l1 : List Lvl} {a1 : List Trm} {k2 n2 : Int} {s2 : ByteArray} {l2 : List Lvl} {a2 : List Trm} {a : Int} {cs : List (ByteArray × Trm)}
    (h : l[i]? = some (.mk k s ps (.mk k1 n1 s1 l1 a1) (.mk k2 n2 s2 l2 a2) a cs)) : (decs l)[((i : Nat) : Int).toNat]? = some [.v (.int .i64 k), .v (.string s), .sl 1 (strs ps), .v (.int .i64 k1), .v (.int .i64 n1), .v (.string s1), .sl 3 (lvls l1), .sl 5 (trms a1), .v (.int .i64 k2), .v (.int .i64 n2), .v (.string s2), .sl 3 (lvls l2), .sl 5 (trms a2), .v (.int .i64 a), .sl 6 (ctrs cs)] := by
  simp [decs, h, Dec.cells_eq]
theorem ctr_get {l : List (ByteArray × Trm)} {i : Nat} (h : i < l.length) : ∃ nm k n s ls args, l[i]? = some (nm, .mk k n s ls args) := by
  have : l[i]? = some l[i] := by simp [h]
  rw [this]
  obtain ⟨nm, ⟨k, n, s, ls, args⟩⟩ := l[i]
  exact ⟨_, _, _, _, _, _, rfl⟩
theorem dec_get {l : List Dec} {i : Nat} (h : i < l.length) : ∃ k s ps k1 n1 s1 l1 a1 k2 n2 s2 l2 a2 a cs, l[i]? = some (.mk k s ps (.mk k1 n1 s1 l1 a1) (.mk k2 n2 s2 l2 a2) a cs) := by
  have : l[i]? = some l[i] := by simp [h]
  rw [this]
  obtain ⟨k, s, ps, k1, n1, s1, l1, a1, k2, n2, s2, l2, a2, a, cs, e⟩ := Dec.case l[i]
  rw [e]
  exact ⟨_, _, _, _, _, _, _, _, _, _, _, _, _, _, _, rfl⟩

/-! the reader -/
def namesR : Nat → ByteArray → RS → List ByteArray × RS
  | 0, _, r => ([], r)
  | n + 1, s, r =>
    if r.f = none ∧ peekR s r ≠ ⟨#[41]⟩ then
      let a := nameR s r
      let b := namesR n s a.2
      (a.1 :: b.1, b.2)
    else ([], r)
def ctorW : ByteArray := ⟨#[99, 116, 111, 114]⟩
def ctorR (s : ByteArray) (r : RS) : (ByteArray × Trm) × RS :=
  let c := nameR s (takeR s ctorW (takeR s ⟨#[40]⟩ r))
  let t := termR (s.size + 1) s c.2
  ((c.1, t.1), takeR s ⟨#[41]⟩ t.2)
def ctorsR : Nat → ByteArray → RS → List (ByteArray × Trm) × RS
  | 0, _, r => ([], r)
  | n + 1, s, r =>
    if r.f = none ∧ peekR s r = ⟨#[40]⟩ then
      let a := ctorR s r
      let b := ctorsR n s a.2
      (a.1 :: b.1, b.2)
    else ([], r)
def kindF (w : ByteArray) : Nat :=
  if w = ⟨#[97, 120, 105, 111, 109]⟩ then 1 else if w = ⟨#[100, 101, 102]⟩ then 2 else if w = ⟨#[105, 110, 100, 117, 99, 116, 105, 118, 101]⟩ then 3 else 0
theorem kindF_le (w : ByteArray) : kindF w ≤ 3 := by unfold kindF; repeat' split
                                                     all_goals omega
/-- a number of at most two digits -/
def arityB (t : ByteArray × Nat × Bool) : Prop := t.1 ≠ .empty ∧ 48 ≤ byteAt t.1 0 ∧ byteAt t.1 0 ≤ 57 ∧ t.1.size ≤ 2
instance (t : ByteArray × Nat × Bool) : Decidable (arityB t) := inferInstanceAs (Decidable (_ ∧ _))
/-- what stands ahead of a declaration's type: its kind (0: none), name, parameters -/
def declHead (s : ByteArray) (r : RS) : Nat × ByteArray × List ByteArray × RS :=
  let r1 := takeR s ⟨#[40]⟩ r
  let k := kindF (tokR s r1.p).1
  if k = 0 then (0, .empty, [], r1.fail (tokR s r1.p).2.1)
  else
    let nm := nameR s (nextR s r1).2
    let ps := namesR (s.size + 2) s (takeR s ⟨#[40]⟩ nm.2)
    (k, nm.1, ps.1, takeR s ⟨#[41]⟩ ps.2)
def arityR (s : ByteArray) (k : Nat) (r : RS) : Int × RS := if k = 3 then (numR (tokR s r.p).1 (tokR s r.p).1.size, (nextR s r).2) else (0, r)
/-- what stands behind: type, value, constructors -/
def valR (s : ByteArray) (k : Nat) (r : RS) : Trm × RS := if k = 2 then termR (s.size + 1) s r else (zeroT, r)
def consR (s : ByteArray) (k : Nat) (r : RS) : List (ByteArray × Trm) × RS := if k = 3 then ctorsR (s.size + 2) s r else ([], r)
def declTail (s : ByteArray) (k : Nat) (nm : ByteArray) (ps : List ByteArray) (a : Int) (r : RS) : Dec × RS :=
  let t := termR (s.size + 1) s r
  let v := valR s k t.2
  let c := consR s k v.2
  (.mk k nm ps t.1 v.1 a c.1, takeR s ⟨#[41]⟩ c.2)
def declR (s : ByteArray) (r : RS) : Dec × RS :=
  let h := declHead s r
  if h.1 = 0 then (.mk 0 .empty [] zeroT zeroT 0 [], h.2.2.2)
  else if h.1 = 3 ∧ ¬ arityB (tokR s h.2.2.2.p) then (.mk 3 h.2.1 h.2.2.1 zeroT zeroT 0 [], h.2.2.2.fail (tokR s h.2.2.2.p).2.1)
  else declTail s h.1 h.2.1 h.2.2.1 (arityR s h.1 h.2.2.2).1 (arityR s h.1 h.2.2.2).2
def atEnd (s : ByteArray) (r : RS) : Prop := (tokR s r.p).2.2 = true ∧ (tokR s r.p).1 = .empty
instance (s : ByteArray) (r : RS) : Decidable (atEnd s r) := inferInstanceAs (Decidable (_ ∧ _))
def fileR : Nat → ByteArray → RS → List Dec × RS
  | 0, _, r => ([], r)
  | n + 1, s, r =>
    if r.f = none ∧ ¬ atEnd s r then
      let a := declR s r
      let b := fileR n s a.2
      (a.1 :: b.1, b.2)
    else ([], r)
/-- the reference's 'ParseAny', 'ParseFile' -/
def parseAny (s : ByteArray) : List Dec × Int × Int :=
  match (fileR (s.size + 2) s ⟨0, none⟩).2.f with
  | none => ((fileR (s.size + 2) s ⟨0, none⟩).1, 0, 0)
  | some a => ([], 1, a)
def parseF (s : ByteArray) : List Dec × Int × Int := if s.size > 200000 then ([], 2, 0) else parseAny s

theorem namesR_le {s : ByteArray} : ∀ (n : Nat) {r : RS}, r.p ≤ s.size → r.p ≤ (namesR n s r).2.p ∧ (namesR n s r).2.p ≤ s.size := by
  intro n
  induction n with
  | zero => intro r hp; exact ⟨Nat.le_refl _, hp⟩
  | succ n ih =>
    intro r hp
    simp only [namesR]
    split
    · have h1 := nameR_le (s := s) hp
      have h2 := ih h1.2
      exact ⟨Nat.le_trans h1.1 h2.1, h2.2⟩
    · exact ⟨Nat.le_refl _, hp⟩
theorem ctorR_le {s : ByteArray} {r : RS} (hp : r.p ≤ s.size) : r.p ≤ (ctorR s r).2.p ∧ (ctorR s r).2.p ≤ s.size := by
  have h1 := takeR_le (s := s) (w := ⟨#[40]⟩) hp
  have h2 := takeR_le (s := s) (w := ctorW) h1.2
  have h3 := nameR_le (s := s) h2.2
  have h4 := termR_le (s := s) (s.size + 1) _ h3.2
  have h5 := takeR_le (s := s) (w := ⟨#[41]⟩) h4.2
  unfold ctorR
  exact ⟨Nat.le_trans h1.1 (Nat.le_trans h2.1 (Nat.le_trans h3.1 (Nat.le_trans h4.1 h5.1))), h5.2⟩
theorem ctorsR_le {s : ByteArray} : ∀ (n : Nat) {r : RS}, r.p ≤ s.size → r.p ≤ (ctorsR n s r).2.p ∧ (ctorsR n s r).2.p ≤ s.size := by
  intro n
  induction n with
  | zero => intro r hp; exact ⟨Nat.le_refl _, hp⟩
  | succ n ih =>
    intro r hp
    simp only [ctorsR]
    split
    · have h1 := ctorR_le (s := s) hp
      have h2 := ih h1.2
      exact ⟨Nat.le_trans h1.1 h2.1, h2.2⟩
    · exact ⟨Nat.le_refl _, hp⟩
theorem declHead_le {s : ByteArray} {r : RS} (hp : r.p ≤ s.size) : r.p ≤ (declHead s r).2.2.2.p ∧ (declHead s r).2.2.2.p ≤ s.size := by
  have h1 := takeR_le (s := s) (w := ⟨#[40]⟩) hp
  have h2 := nextR_le (s := s) h1.2
  have h3 := nameR_le (s := s) h2.2
  have h4 := takeR_le (s := s) (w := ⟨#[40]⟩) h3.2
  have h5 := namesR_le (s := s) (s.size + 2) h4.2
  have h6 := takeR_le (s := s) (w := ⟨#[41]⟩) h5.2
  unfold declHead
  dsimp only
  split
  · rw [RS.fail_p]; exact h1
  · exact ⟨Nat.le_trans h1.1 (Nat.le_trans h2.1 (Nat.le_trans h3.1 (Nat.le_trans h4.1 (Nat.le_trans h5.1 h6.1)))), h6.2⟩
theorem arityR_le {s : ByteArray} {k : Nat} {r : RS} (hp : r.p ≤ s.size) : r.p ≤ (arityR s k r).2.p ∧ (arityR s k r).2.p ≤ s.size := by
  have h2 := nextR_le (s := s) hp
  unfold arityR
  split
  · exact h2
  · exact ⟨Nat.le_refl _, hp⟩
theorem valR_le {s : ByteArray} {k : Nat} {r : RS} (hp : r.p ≤ s.size) : r.p ≤ (valR s k r).2.p ∧ (valR s k r).2.p ≤ s.size := by
  have h2 := termR_le (s := s) (s.size + 1) r hp
  unfold valR
  split
  · exact h2
  · exact ⟨Nat.le_refl _, hp⟩
theorem consR_le {s : ByteArray} {k : Nat} {r : RS} (hp : r.p ≤ s.size) : r.p ≤ (consR s k r).2.p ∧ (consR s k r).2.p ≤ s.size := by
  have h2 := ctorsR_le (s := s) (s.size + 2) hp
  unfold consR
  split
  · exact h2
  · exact ⟨Nat.le_refl _, hp⟩
theorem declTail_le {s : ByteArray} {k : Nat} {nm : ByteArray} {ps : List ByteArray} {a : Int} {r : RS} (hp : r.p ≤ s.size) : r.p ≤ (declTail s k nm ps a r).2.p ∧ (declTail s k nm ps a r).2.p ≤ s.size := by
  have h1 := termR_le (s := s) (s.size + 1) r hp
  have h2 := valR_le (s := s) (k := k) h1.2
  have h3 := consR_le (s := s) (k := k) h2.2
  have h4 := takeR_le (s := s) (w := ⟨#[41]⟩) h3.2
  unfold declTail
  exact ⟨Nat.le_trans h1.1 (Nat.le_trans h2.1 (Nat.le_trans h3.1 h4.1)), h4.2⟩
theorem declR_le {s : ByteArray} {r : RS} (hp : r.p ≤ s.size) : r.p ≤ (declR s r).2.p ∧ (declR s r).2.p ≤ s.size := by
  have h1 := declHead_le (s := s) hp
  unfold declR
  dsimp only
  split
  · exact h1
  · split
    · rw [RS.fail_p]; exact h1
    · have h2 := arityR_le (s := s) (k := (declHead s r).1) h1.2
      have h3 := declTail_le (s := s) (k := (declHead s r).1) (nm := (declHead s r).2.1) (ps := (declHead s r).2.2.1) (a := (arityR s (declHead s r).1 (declHead s r).2.2.2).1) h2.2
      exact ⟨Nat.le_trans h1.1 (Nat.le_trans h2.1 h3.1), h3.2⟩

/-! faults stay -/
theorem fail_f (r : RS) (x : Nat) : (r.fail x).f ≠ none := by obtain ⟨a, f⟩ := r; cases f <;> simp [RS.fail]
theorem take_f {s w : ByteArray} {r : RS} (h : (takeR s w r).f = none) : r.f = none := by
  obtain ⟨p, f⟩ := r
  unfold takeR at h
  dsimp only at h
  split at h
  · exact absurd h (fail_f _ _)
  · cases f with
    | none => rfl
    | some a => cases h
theorem next_f {s : ByteArray} {r : RS} (h : (nextR s r).2.f = none) : r.f = none := by
  obtain ⟨p, f⟩ := r
  unfold nextR at h
  dsimp only at h
  split at h
  · exact absurd h (fail_f _ _)
  · cases f with
    | none => rfl
    | some a => cases h
theorem name_f {s : ByteArray} {r : RS} (h : (nameR s r).2.f = none) : r.f = none := by
  obtain ⟨p, f⟩ := r
  unfold nameR at h
  dsimp only at h
  split at h
  · exact absurd h (fail_f _ _)
  · cases f with
    | none => rfl
    | some a => cases h
theorem term_f {s : ByteArray} {n : Nat} {r : RS} (h : (termR n s r).2.f = none) : r.f = none := by
  obtain ⟨p, f⟩ := r
  cases f with
  | none => rfl
  | some a => cases n <;> cases h
theorem names_f {s : ByteArray} : ∀ {n : Nat} {r : RS}, (namesR n s r).2.f = none → r.f = none
  | 0, r, h => h
  | n + 1, r, h => by
    simp only [namesR] at h
    split at h
    · exact name_f (names_f h)
    · exact h
theorem ctor_f {s : ByteArray} {r : RS} (h : (ctorR s r).2.f = none) : r.f = none := take_f (take_f (name_f (term_f (take_f h))))
theorem ctors_f {s : ByteArray} : ∀ {n : Nat} {r : RS}, (ctorsR n s r).2.f = none → r.f = none
  | 0, r, h => h
  | n + 1, r, h => by
    simp only [ctorsR] at h
    split at h
    · exact ctor_f (ctors_f h)
    · exact h
theorem head_f {s : ByteArray} {r : RS} (h : (declHead s r).2.2.2.f = none) : (takeR s ⟨#[40]⟩ r).f = none := by
  unfold declHead at h
  dsimp only at h
  split at h
  · exact absurd h (fail_f _ _)
  · exact next_f (name_f (take_f (names_f (take_f h))))
theorem arity_f {s : ByteArray} {k : Nat} {r : RS} (h : (arityR s k r).2.f = none) : r.f = none := by
  unfold arityR at h
  split at h
  · exact next_f h
  · exact h
theorem val_f {s : ByteArray} {k : Nat} {r : RS} (h : (valR s k r).2.f = none) : r.f = none := by
  unfold valR at h
  split at h
  · exact term_f h
  · exact h
theorem cons_f {s : ByteArray} {k : Nat} {r : RS} (h : (consR s k r).2.f = none) : r.f = none := by
  unfold consR at h
  split at h
  · exact ctors_f h
  · exact h
theorem tail_f {s : ByteArray} {k : Nat} {nm : ByteArray} {ps : List ByteArray} {a : Int} {r : RS} (h : (declTail s k nm ps a r).2.f = none) : r.f = none :=
  term_f (val_f (cons_f (take_f h)))
theorem decl_f {s : ByteArray} {r : RS} (h : (declR s r).2.f = none) : (takeR s ⟨#[40]⟩ r).f = none := by
  unfold declR at h
  dsimp only at h
  split at h
  · exact head_f h
  · split at h
    · exact absurd h (fail_f _ _)
    · exact head_f (arity_f (tail_f h))
/-- what is taken is behind -/
theorem take_prog {s w : ByteArray} {r : RS} (hw : w ≠ .empty) (hp : r.p ≤ s.size) (h : (takeR s w r).f = none) : r.p < (takeR s w r).p := by
  have hat := tokR_at (s := s) hp
  obtain ⟨p, f⟩ := r
  unfold takeR at h ⊢
  dsimp only at h ⊢
  split at h
  · exact absurd h (fail_f _ _)
  · rename_i hn
    rw [if_neg hn]
    cases f with
    | none =>
      have : (tokR s p).1 = w := Classical.byContradiction fun e => hn (.inr e)
      have h2 : 0 < (tokR s p).1.size := by
        rcases Nat.eq_zero_or_pos (tokR s p).1.size with h3 | h3
        · exact absurd (this ▸ ByteArray.size_eq_zero_iff.1 h3) hw
        · exact h3
      simp only at hat ⊢; omega
    | some a => cases h
theorem name_prog {s : ByteArray} {r : RS} (hp : r.p ≤ s.size) (h : (nameR s r).2.f = none) : r.p < (nameR s r).2.p := by
  have hat := tokR_at (s := s) hp
  obtain ⟨p, f⟩ := r
  unfold nameR at h ⊢
  dsimp only at h ⊢
  split at h
  · exact absurd h (fail_f _ _)
  · rename_i hn
    rw [if_neg hn]
    cases f with
    | none =>
      have h2 : 0 < (tokR s p).1.size := by
        rcases Nat.eq_zero_or_pos (tokR s p).1.size with h3 | h3
        · exfalso; apply hn; right; rw [ByteArray.size_eq_zero_iff.1 h3]; rfl
        · exact h3
      simp only at hat ⊢; omega
    | some a => cases h
theorem ctor_prog {s : ByteArray} {r : RS} (hp : r.p ≤ s.size) (h : (ctorR s r).2.f = none) : r.p < (ctorR s r).2.p := by
  have h1 := take_prog (w := ⟨#[40]⟩) (by decide) hp (take_f (name_f (term_f (take_f h))))
  have h0 := takeR_le (s := s) (w := ⟨#[40]⟩) hp
  have h2 := takeR_le (s := s) (w := ctorW) h0.2
  have h3 := nameR_le (s := s) h2.2
  have h4 := termR_le (s := s) (s.size + 1) _ h3.2
  have h5 := takeR_le (s := s) (w := ⟨#[41]⟩) h4.2
  have : (ctorR s r).2 = takeR s ⟨#[41]⟩ (termR (s.size + 1) s (nameR s (takeR s ctorW (takeR s ⟨#[40]⟩ r))).2).2 := rfl
  rw [this]; omega
theorem decl_prog {s : ByteArray} {r : RS} (hp : r.p ≤ s.size) (h : (declR s r).2.f = none) : r.p < (declR s r).2.p := by
  have h1 := take_prog (w := ⟨#[40]⟩) (by decide) hp (decl_f h)
  have h2 := takeR_le (s := s) (w := ⟨#[40]⟩) hp
  have key : (takeR s ⟨#[40]⟩ r).p ≤ (declHead s r).2.2.2.p := by
    have h3 := nextR_le (s := s) h2.2
    have h4 := nameR_le (s := s) h3.2
    have h5 := takeR_le (s := s) (w := ⟨#[40]⟩) h4.2
    have h6 := namesR_le (s := s) (s.size + 2) h5.2
    have h7 := takeR_le (s := s) (w := ⟨#[41]⟩) h6.2
    unfold declHead
    dsimp only
    split
    · rw [RS.fail_p]; exact Nat.le_refl _
    · exact Nat.le_trans h3.1 (Nat.le_trans h4.1 (Nat.le_trans h5.1 (Nat.le_trans h6.1 h7.1)))
  have h8 := declHead_le (s := s) hp
  have h9 : (declHead s r).2.2.2.p ≤ (declR s r).2.p := by
    unfold declR
    dsimp only
    split
    · exact Nat.le_refl _
    · split
      · rw [RS.fail_p]; exact Nat.le_refl _
      · have h2 := arityR_le (s := s) (k := (declHead s r).1) h8.2
        have h3 := declTail_le (s := s) (k := (declHead s r).1) (nm := (declHead s r).2.1) (ps := (declHead s r).2.2.1) (a := (arityR s (declHead s r).1 (declHead s r).2.2.2).1) h2.2
        exact Nat.le_trans h2.1 h3.1
  omega
/-! the loops' steps -/
theorem names_stop {s : ByteArray} {r : RS} {m : Nat} (h : ¬ (r.f = none ∧ ¬ peekR s r = ⟨#[41]⟩)) : namesR m s r = ([], r) := by
  cases m with
  | zero => rfl
  | succ m => simp only [namesR]; rw [if_neg h]
theorem names_step {s : ByteArray} {r0 r' : RS} {m : Nat} {acc : List ByteArray} {x : ByteArray} (hinv : r'.p ≤ s.size ∧ acc.length + m = s.size + 2 ∧ (r'.f = none → s.size - r'.p < m) ∧ namesR (s.size + 2) s r0 = (acc ++ (namesR m s r').1, (namesR m s r').2))
    (h : r'.f = none ∧ ¬ peekR s r' = ⟨#[41]⟩) (hX : (nameR s r').1 = x) :
    (nameR s r').2.p ≤ s.size ∧ (acc ++ [x]).length + (m - 1) = s.size + 2 ∧ ((nameR s r').2.f = none → s.size - (nameR s r').2.p < m - 1) ∧
      namesR (s.size + 2) s r0 = (acc ++ [x] ++ (namesR (m - 1) s (nameR s r').2).1, (namesR (m - 1) s (nameR s r').2).2) := by
  obtain ⟨h1, h2, h3, h4⟩ := hinv
  have hm := h3 h.1
  obtain ⟨m, rfl⟩ : ∃ k, m = k + 1 := ⟨m - 1, by omega⟩
  have hle := nameR_le (s := s) h1
  refine ⟨hle.2, by simp; omega, fun hf => by have := name_prog h1 hf; omega, ?_⟩
  rw [h4]
  simp only [namesR]
  rw [if_pos h, ← hX]
  simp
theorem ctors_stop {s : ByteArray} {r : RS} {m : Nat} (h : ¬ (r.f = none ∧ peekR s r = ⟨#[40]⟩)) : ctorsR m s r = ([], r) := by
  cases m with
  | zero => rfl
  | succ m => simp only [ctorsR]; rw [if_neg h]
theorem ctors_step {s : ByteArray} {r0 r' : RS} {m : Nat} {acc : List (ByteArray × Trm)} {x : ByteArray × Trm} (hinv : r'.p ≤ s.size ∧ acc.length + m = s.size + 2 ∧ (r'.f = none → s.size - r'.p < m) ∧ ctorsR (s.size + 2) s r0 = (acc ++ (ctorsR m s r').1, (ctorsR m s r').2))
    (h : r'.f = none ∧ peekR s r' = ⟨#[40]⟩) (hX : (ctorR s r').1 = x) :
    (ctorR s r').2.p ≤ s.size ∧ (acc ++ [x]).length + (m - 1) = s.size + 2 ∧ ((ctorR s r').2.f = none → s.size - (ctorR s r').2.p < m - 1) ∧
      ctorsR (s.size + 2) s r0 = (acc ++ [x] ++ (ctorsR (m - 1) s (ctorR s r').2).1, (ctorsR (m - 1) s (ctorR s r').2).2) := by
  obtain ⟨h1, h2, h3, h4⟩ := hinv
  have hm := h3 h.1
  obtain ⟨m, rfl⟩ : ∃ k, m = k + 1 := ⟨m - 1, by omega⟩
  have hle := ctorR_le (s := s) h1
  refine ⟨hle.2, by simp; omega, fun hf => by have := ctor_prog h1 hf; omega, ?_⟩
  rw [h4]
  simp only [ctorsR]
  rw [if_pos h, ← hX]
  simp
theorem file_stop {s : ByteArray} {r : RS} {m : Nat} (h : ¬ (r.f = none ∧ ¬ atEnd s r)) : fileR m s r = ([], r) := by
  cases m with
  | zero => rfl
  | succ m => simp only [fileR]; rw [if_neg h]
theorem file_step {s : ByteArray} {r0 r' : RS} {m : Nat} {acc : List Dec} {x : Dec} (hinv : r'.p ≤ s.size ∧ acc.length + m = s.size + 2 ∧ (r'.f = none → s.size - r'.p < m) ∧ fileR (s.size + 2) s r0 = (acc ++ (fileR m s r').1, (fileR m s r').2))
    (h : r'.f = none ∧ ¬ atEnd s r') (hX : (declR s r').1 = x) :
    (declR s r').2.p ≤ s.size ∧ (acc ++ [x]).length + (m - 1) = s.size + 2 ∧ ((declR s r').2.f = none → s.size - (declR s r').2.p < m - 1) ∧
      fileR (s.size + 2) s r0 = (acc ++ [x] ++ (fileR (m - 1) s (declR s r').2).1, (fileR (m - 1) s (declR s r').2).2) := by
  obtain ⟨h1, h2, h3, h4⟩ := hinv
  have hm := h3 h.1
  obtain ⟨m, rfl⟩ : ∃ k, m = k + 1 := ⟨m - 1, by omega⟩
  have hle := declR_le (s := s) h1
  refine ⟨hle.2, by simp; omega, fun hf => by have := decl_prog h1 hf; omega, ?_⟩
  rw [h4]
  simp only [fileR]
  rw [if_pos h, ← hX]
  simp
end Go.Vd
namespace Go.Proofs.YtneaancanfpdhaaGreatDoor
open Go Go.Vd Go.RowKit

def sp : ByteArray := ⟨#[32]⟩
def kwF (k : Int) : ByteArray := if k = 1 then ⟨#[97, 120, 105, 111, 109]⟩ else if k = 2 then ⟨#[100, 101, 102]⟩ else ⟨#[105, 110, 100, 117, 99, 116, 105, 118, 101]⟩
theorem kwF_size (k : Int) : (kwF k).size ≤ 9 := by unfold kwF; split; decide; split <;> decide
def ctorT (c : ByteArray × Trm) : ByteArray := ⟨#[40, 99, 116, 111, 114, 32]⟩ ++ c.1 ++ ⟨#[32]⟩ ++ wrT c.2 ++ ⟨#[41]⟩
def paramT (ps : List ByteArray) : ByteArray := ⟨#[40]⟩ ++ joinB ps sp ++ ⟨#[41]⟩
def headF (k : Int) (nm : ByteArray) (ps : List ByteArray) : List ByteArray := [kwF k, nm, paramT ps]
def arF (k a : Int) : List ByteArray := if k = 3 then [digR a.toNat] else []
def valF (k : Int) (v : Trm) : List ByteArray := if k = 2 then [wrT v] else []
def partsF : Dec → List ByteArray
  | .mk k nm ps t v a cs => headF k nm ps ++ arF k a ++ [wrT t] ++ valF k v ++ cs.map ctorT
/-- the text of a declaration -/
def wrD (d : Dec) : ByteArray := ⟨#[40]⟩ ++ joinB (partsF d) sp ++ ⟨#[41]⟩
/-- declarations that can be printed -/
def okD : Dec → Prop
  | .mk k _ _ t v a cs => (k = 1 ∨ k = 2 ∨ k = 3) ∧ 0 ≤ a ∧ a ≤ 99 ∧ okT t ∧ okT v ∧ ∀ c ∈ cs, okT c.2
def wtS : List ByteArray → Nat
  | [] => 0
  | s :: r => 1 + s.size + wtS r
def wtC : List (ByteArray × Trm) → Nat
  | [] => 0
  | c :: r => 10 + c.1.size + wtT c.2 + wtC r
def wtD : Dec → Nat
  | .mk _ nm ps t v _ cs => 40 + nm.size + wtS ps + wtT t + wtT v + wtC cs
theorem wtS_app (l m : List ByteArray) : wtS (l ++ m) = wtS l + wtS m := by
  induction l with
  | nil => simp [wtS]
  | cons a r ih => simp [wtS, ih]; omega
theorem wtC_app (l m : List (ByteArray × Trm)) : wtC (l ++ m) = wtC l + wtC m := by
  induction l with
  | nil => simp [wtC]
  | cons a r ih => simp [wtC, ih]; omega
theorem wtS_len (l : List ByteArray) : l.length ≤ wtS l := by
  induction l with
  | nil => simp
  | cons a r ih => simp [wtS]; omega
theorem wtC_len (l : List (ByteArray × Trm)) : l.length ≤ wtC l := by
  induction l with
  | nil => simp
  | cons a r ih => simp [wtC]; omega
theorem tailB_size (l : List ByteArray) : (tailB sp l).size = wtS l := by
  have h1 : sp.size = 1 := rfl
  induction l with
  | nil => rfl
  | cons a r ih => simp only [tailB, wtS, ByteArray.size_append, ih, h1]
theorem joinB_size (l : List ByteArray) : (joinB l sp).size ≤ wtS l := by
  cases l with
  | nil => rw [joinB_nil]; simp [wtS]
  | cons a r => rw [joinB_cons, ByteArray.size_append, tailB_size]; simp only [wtS]; omega
theorem ctorT_size {c : ByteArray × Trm} (h : okT c.2) : (ctorT c).size + 1 ≤ 10 + c.1.size + wtT c.2 := by
  have := wrT_size _ h
  simp only [ctorT, ByteArray.size_append, size_mk, List.size_toArray, List.length_cons, List.length_nil]; omega
theorem ctors_size {cs : List (ByteArray × Trm)} (h : ∀ c ∈ cs, okT c.2) : wtS (cs.map ctorT) ≤ wtC cs := by
  induction cs with
  | nil => simp [wtS]
  | cons c r ih =>
    have h1 := ctorT_size (h c (by simp))
    have h2 := ih fun x hx => h x (by simp [hx])
    simp only [List.map_cons, wtS, wtC]; omega
theorem arF_size {k a : Int} (h0 : 0 ≤ a) (h1 : a ≤ 99) : wtS (arF k a) ≤ 6 ∧ (arF k a).length ≤ 1 := by
  have h5 := digR_size5 (n := a.toNat) (by omega)
  unfold arF; split
  · simp only [wtS, List.length_cons, List.length_nil]; omega
  · simp [wtS]
theorem valF_size {k : Int} {v : Trm} (h : okT v) : wtS (valF k v) ≤ 1 + wtT v ∧ (valF k v).length ≤ 1 := by
  have := wrT_size _ h
  unfold valF; split
  · simp only [wtS, List.length_cons, List.length_nil]; omega
  · simp [wtS]
theorem headF_size (k : Int) (nm : ByteArray) (ps : List ByteArray) : wtS (headF k nm ps) ≤ 14 + nm.size + wtS ps := by
  have h1 := kwF_size k
  have h2 := joinB_size ps
  simp only [headF, wtS, paramT, ByteArray.size_append, size_mk, List.size_toArray, List.length_cons, List.length_nil]; omega
theorem parts_size {d : Dec} (h : okD d) : wtS (partsF d) + 2 ≤ wtD d := by
  obtain ⟨k, nm, ps, t, v, a, cs⟩ := d
  obtain ⟨_, h0, h1, h2, h3, h4⟩ := h
  have e1 := headF_size k nm ps
  have e2 := (arF_size (k := k) h0 h1).1
  have e3 := wrT_size _ h2
  have e4 := (valF_size (k := k) h3).1
  have e5 := ctors_size h4
  simp only [partsF, wtS_app, wtS, wtD]; omega
theorem wrD_size {d : Dec} (h : okD d) : (wrD d).size ≤ wtD d := by
  have h1 := parts_size h
  have h2 := joinB_size (partsF d)
  simp only [wrD, ByteArray.size_append, size_mk, List.size_toArray, List.length_cons, List.length_nil]; omega

/-! the reference's way -/
theorem joinB_take_succ {ps : List ByteArray} {i : Nat} (h : i < ps.length) : joinB (ps.take (i + 1)) sp = if 0 < i then joinB (ps.take i) sp ++ sp ++ ps[i] else ps[i] := by
  cases ps with
  | nil => simp at h
  | cons x r =>
    cases i with
    | zero => rw [if_neg (by omega), List.take_succ_cons, List.take_zero, joinB_one]; rfl
    | succ i =>
      rw [if_pos (by omega), List.take_succ_cons, List.take_succ_cons, joinB_cons, joinB_cons, List.take_add_one]
      have hr : i < r.length := by simpa using h
      have h2 : r[i]? = some r[i] := List.getElem?_eq_getElem hr
      rw [h2, tailB_app]
      simp only [Option.toList, tailB, ByteArray.append_assoc, ByteArray.append_empty, List.getElem_cons_succ]
theorem joinB_take_le (ps : List ByteArray) (i : Nat) : (joinB (ps.take i) sp).size ≤ wtS ps := by
  have h1 := joinB_size (ps.take i)
  have h2 : wtS ps = wtS (ps.take i) + wtS (ps.drop i) := by rw [← wtS_app, List.take_append_drop]
  omega
/-- what PrintDecl has behind the parameters, the type, the value -/
def r0 (k : Int) (nm : ByteArray) : ByteArray := ⟨#[40]⟩ ++ kwF k ++ ⟨#[32]⟩ ++ nm ++ ⟨#[32, 40]⟩
def r1 (k : Int) (nm : ByteArray) (ps : List ByteArray) : ByteArray := r0 k nm ++ joinB ps sp ++ ⟨#[41, 32]⟩
def r2 (k : Int) (nm : ByteArray) (ps : List ByteArray) (a : Int) : ByteArray := if k = 3 then r1 k nm ps ++ digR a.toNat ++ ⟨#[32]⟩ else r1 k nm ps
def r3 (k : Int) (nm : ByteArray) (ps : List ByteArray) (a : Int) (t v : Trm) : ByteArray := if k = 2 then r2 k nm ps a ++ wrT t ++ ⟨#[32]⟩ ++ wrT v else r2 k nm ps a ++ wrT t
theorem r2_eq (k : Int) (nm : ByteArray) (ps : List ByteArray) (a : Int) : r2 k nm ps a = ⟨#[40]⟩ ++ joinB (headF k nm ps ++ arF k a) sp ++ sp := by
  have h1 : (⟨#[32, 40]⟩ : ByteArray) = sp ++ ⟨#[40]⟩ := rfl
  have h2 : (⟨#[41, 32]⟩ : ByteArray) = ⟨#[41]⟩ ++ sp := rfl
  have h3 : (⟨#[32]⟩ : ByteArray) = sp := rfl
  unfold r2 arF r1 r0 headF paramT
  split
  · simp only [List.cons_append, List.nil_append, joinB_cons, tailB, ByteArray.append_empty, h1, h2, h3, ByteArray.append_assoc]
  · simp only [List.append_nil, joinB_cons, tailB, ByteArray.append_empty, h1, h2, h3, ByteArray.append_assoc]
theorem joinB_app {l : List ByteArray} (h : l ≠ []) (m : List ByteArray) : joinB (l ++ m) sp = joinB l sp ++ tailB sp m := by
  cases l with
  | nil => exact absurd rfl h
  | cons x r => rw [List.cons_append, joinB_cons, joinB_cons, tailB_app, ByteArray.append_assoc]
theorem r3_eq (k : Int) (nm : ByteArray) (ps : List ByteArray) (a : Int) (t v : Trm) : r3 k nm ps a t v = ⟨#[40]⟩ ++ joinB (headF k nm ps ++ arF k a ++ [wrT t] ++ valF k v) sp := by
  have h3 : (⟨#[32]⟩ : ByteArray) = sp := rfl
  have hne : headF k nm ps ++ arF k a ≠ [] := by simp [headF]
  have hne2 : headF k nm ps ++ arF k a ++ [wrT t] ≠ [] := by simp [headF]
  unfold r3 valF
  split
  · rw [r2_eq, joinB_app hne2, joinB_app hne]
    simp only [tailB, ByteArray.append_empty, h3, ByteArray.append_assoc]
  · rw [r2_eq, List.append_nil, joinB_app hne]
    simp only [tailB, ByteArray.append_empty, h3, ByteArray.append_assoc]
theorem wrD_eq (k : Int) (nm : ByteArray) (ps : List ByteArray) (a : Int) (t v : Trm) (cs : List (ByteArray × Trm)) : wrD (.mk k nm ps t v a cs) = r3 k nm ps a t v ++ tailB sp (cs.map ctorT) ++ ⟨#[41]⟩ := by
  have hne : headF k nm ps ++ arF k a ++ [wrT t] ++ valF k v ≠ [] := by simp [headF]
  rw [r3_eq]
  unfold wrD partsF
  rw [joinB_app hne]
  simp only [ByteArray.append_assoc]
theorem ctorTail_take {cs : List (ByteArray × Trm)} {i : Nat} {nm : ByteArray} {t : Trm} (h : cs[i]? = some (nm, t)) : tailB sp ((cs.take (i + 1)).map ctorT) = tailB sp ((cs.take i).map ctorT) ++ ⟨#[32, 40, 99, 116, 111, 114, 32]⟩ ++ nm ++ ⟨#[32]⟩ ++ wrT t ++ ⟨#[41]⟩ := by
  have h1 : (⟨#[32, 40, 99, 116, 111, 114, 32]⟩ : ByteArray) = sp ++ ⟨#[40, 99, 116, 111, 114, 32]⟩ := rfl
  rw [List.take_add_one, h, List.map_append, tailB_app]
  simp only [Option.toList, List.map_cons, List.map_nil, tailB, ctorT, ByteArray.append_empty, h1, ByteArray.append_assoc]
theorem ctorTail_le {cs : List (ByteArray × Trm)} (h : ∀ c ∈ cs, okT c.2) (i : Nat) : (tailB sp ((cs.take i).map ctorT)).size ≤ wtC cs := by
  rw [tailB_size]
  have h1 := ctors_size h
  have h2 : wtS (cs.map ctorT) = wtS ((cs.take i).map ctorT) + wtS ((cs.drop i).map ctorT) := by rw [← wtS_app, ← List.map_append, List.take_append_drop]
  omega
theorem wtC_get : ∀ {cs : List (ByteArray × Trm)} {i : Nat} {c : ByteArray × Trm}, cs[i]? = some c → c.1.size + wtT c.2 ≤ wtC cs
  | [], i, c, h => by simp at h
  | a :: r, 0, c, h => by simp at h; subst h; simp [wtC]; omega
  | a :: r, i + 1, c, h => by simp at h; have := wtC_get h; simp [wtC]; omega
end Go.Proofs.YtneaancanfpdhaaGreatDoor
namespace Go.Vd
open Go Go.RowKit

theorem fl_slice3 {P : Program} {GL : Nat → List D} {o : Oper} {σ : St} {K : SV → List Nat → Prop} {T : TypeId} {x lo hi mx : Operand} {k : Nat} {ls ls' : List (List D)} {l h : Int} {k1 k2 k3 : IntKind} {s : SV} {ti : TI} (hu : P.underlying T = some (.slice (tiOf P T).elem)) (hT : tiOf P (tiOf P T).elem = ti) (hok : ti.ok = true) (hs : ti.size = k)
    (ho : o.op = .slice T x (some lo) (some hi) (some mx)) (hx : evO GL σ.sl x = some s) (hxD : s.toD = some (.sl k ls)) (hl : evO GL σ.sl lo = some (.d (.v (.int k1 l)))) (hh : evO GL σ.sl hi = some (.d (.v (.int k2 h)))) (hm : evO GL σ.sl mx = some (.d (.v (.int k3 h)))) (hb : 0 ≤ l ∧ l < h ∧ h ≤ ls.length)
    (hls : (ls.drop l.toNat).take (h.toNat - l.toNat) = ls') (hK : K (.ful k ls') []) : FloatR P GL o σ K := fl_of fun B g a w hr => by
  obtain ⟨ad, cap, e1, hcap, hden⟩ := SV.Den.toD _ (hr.evo hx) hxD
  have e2 : a.eval lo = .int k1 l := hr.evo hl
  have e3 : a.eval hi = .int k2 h := hr.evo hh
  have e4 : a.eval mx = .int k3 h := hr.evo hm
  obtain ⟨b, off, rfl, hdr⟩ := hden (by intro e; rw [e] at hb; simp at hb; omega)
  rw [← hT] at hok hs
  obtain ⟨inf, d, hi', hd', hs', _⟩ := ti_ok hok
  rw [hs] at hs'
  have hlen : ls'.length = h.toNat - l.toNat := by rw [← hls, List.length_take, List.length_drop]; omega
  have hne : ¬ h.toNat = l.toNat := by omega
  have hadd : (⟨b, off, none⟩ : Addr).add (l.toNat * k) = ⟨b, off + l.toNat * k, none⟩ := by rw [addr_add]
  refine ⟨.ful k ls', .slice (some ⟨b, off + l.toNat * k, none⟩) (h.toNat - l.toNat) (h.toNat - l.toNat), fun w' => ?_, ⟨some ⟨b, off + l.toNat * k, none⟩, by rw [hlen], fun _ => ⟨b, _, rfl, ?_⟩⟩, hK⟩
  · simp only [execOp, ho, e1, e2, e3, e4, Option.map_some, Option.map_none, Sem.run_bind]
    have h1 := run_bound (P := P) (kd := k3) (i := h) (y := cap) (c := .slice3Acap) (by omega) (by omega) w'
    have h2 := run_bound (P := P) (kd := k2) (i := h) (y := h.toNat) (c := .slice3B) (by omega) (by omega) w'
    have h3 := run_bound (P := P) (kd := k1) (i := l) (y := h.toNat) (c := .slice3C) (by omega) (by omega) w'
    simp [Instr.sliceAt, Instr.slice, run_underlying hu, Instr.sliceBounds, h1, h2, h3, sizeOf, typeInfo, hi', ← hs', hne]
    simpa using hadd
  · rw [← hls]; exact (hdr.drop _).take _

theorem op_insert {P : Program} {GL : Nat → List D} {n0 : Nat} {Pn : PnS} {o : Oper} {n : Nat} {sl : List (Nat × SV)} {ob ob' : List Ob} {K : St → Prop} {ty k e : TypeId} {x y z : Operand} {i : Nat} {f : ByteArray → Option Int} {s : ByteArray} {v : Int} (hm : MapTy P ty k e) (ho : o.op = .insert ty x y z) (hd : o.dst = none)
    (hx : evO GL sl x = some (.map i)) (hy : evO GL sl y = some (.d (.v (.string s)))) (hz : evO GL sl z = some (.d (.v (.int .i64 v)))) (hi : nthO i ob = some (.mapI f)) (hno : noItOn i ob = true) (hob : set1 i (.mapI (updM f s v)) ob = some ob') (h : K ⟨n, sl, ob'⟩) : OpR P GL n0 Pn (fun j => j = i) o ⟨n, sl, ob⟩ K := fun B hB g a w hr next Q hK hP => by
  obtain ⟨b, hb, hbe⟩ := hr.evo hx
  have hye : a.eval y = .string s := hr.evo hy
  have hze : a.eval z = .int .i64 v := hr.evo hz
  obtain ⟨hmap, hmn⟩ := hr.store.obs _ _ _ (nthO_eq hi) hb
  obtain ⟨w', hrun, hm', hfr⟩ := hmap.update hm.under hm.key s v
  have hrun2 : (execOp a.eval o).run P w = .ok .skip w' := by simp only [execOp, ho, hbe, hye, hze, Sem.run_bind, hrun, Result.andThen_ok, Sem.run_pure]
  unfold Oper.wp
  rw [hrun2]
  show next (a.put o.dst _) _
  rw [hd]
  obtain ⟨h1, h2⟩ := hr.upd1 (o' := .mapI (updM f s v)) (nthO_eq hi) hb rfl hfr ⟨hm', hmn⟩ (.inl rfl) (noItOn_get hno) (fun k f dn cur h => by cases h) hmn
  rw [← (set1_eq hob).1] at h1
  exact hK _ _ _ _ h1 h2 h
theorem fl_usd_nil {P : Program} {GL : Nat → List D} {o : Oper} {σ : St} {K : SV → List Nat → Prop} {x : Operand} {ts : Array TypeId} (ho : o.op = .call { callee := .builtin .unsafeSliceData, args := #[x], argTypes := ts }) (hx : evO GL σ.sl x = some (.d (.v (.slice none 0 0)))) (hK : K (.d (.v (.pointer none))) []) : FloatR P GL o σ K := fl_of fun B g a w hr => by
  have h2 : a.eval x = .slice none 0 0 := hr.evo hx
  refine ⟨.d (.v (.pointer none)), .pointer none, fun w' => ?_, rfl, hK⟩
  have hrun := Lib.run_unsafeSliceData_nil (P := P) w' ts o.type 0 0
  unfold execOp
  simp only [ho, resolve, invoke, builtin, Sem.run_bind, Sem.run_pure, Result.andThen_ok, List.map_toArray, List.map_cons, List.map_nil, h2, hrun]
theorem fl_ustr_nil {P : Program} {GL : Nat → List D} {o : Oper} {σ : St} {K : SV → List Nat → Prop} {x y : Operand} {t u : TypeId} (ho : o.op = .call { callee := .builtin .unsafeString, args := #[x, y], argTypes := #[t, u] }) (hx : evO GL σ.sl x = some (.d (.v (.pointer none)))) (hy : evO GL σ.sl y = some (.d (.v (.int .i64 0)))) (hK : K (.d (.v (.string .empty))) []) : FloatR P GL o σ K := fl_of fun B g a w hr => by
  have h2 : a.eval x = .pointer none := hr.evo hx
  have h3 : a.eval y = .int .i64 0 := hr.evo hy
  refine ⟨.d (.v (.string .empty)), .string .empty, fun w' => ?_, rfl, hK⟩
  have hrun := Lib.run_unsafeString_none (P := P) (w := w') t u o.type none
  unfold execOp
  simp only [ho, resolve, invoke, builtin, Sem.run_bind, Sem.run_pure, Result.andThen_ok, List.map_toArray, List.map_cons, List.map_nil, h2, h3, hrun]
/-- append to a slice with no room: a new row -/
theorem op_append_ful {P : Program} {GL : Nat → List D} {n0 : Nat} {Pn : PnS} {o : Oper} {n t k : Nat} {sl : List (Nat × SV)} {ob ob' : List Ob} {K : St → Prop} {T : Nat → Prop} {ty e : TypeId} {size bytes : Nat} {s x : Operand} {ls news : List (List D)} {sx : SV} (TS : SlTy P ty e size bytes) (ho : o.op = .call { callee := .builtin .append, args := #[s, x], argTypes := #[ty, ty] })
    (hd : o.dst = some t) (ht : Nat.blt t n = true) (hs : evO GL sl s = some (.ful size ls)) (hl0 : ls ≠ []) (hx : evO GL sl x = some sx) (hxD : sx.toD = some (.sl size news)) (hl : ob.length = k) (hob : appO ob [.row e size] = some ob')
    (hsz : 0 < size) (hne : news ≠ []) (h63 : ls.length + news.length ≤ maxLen ∧ (ls.length + news.length) * bytes ≤ 140737488355328) (h : K ⟨n, (t, .own k size (ls ++ news)) :: sl, ob'⟩) : OpR P GL n0 Pn T o ⟨n, sl, ob⟩ K := fun B hB g a w hr next Q hK hP => by
  subst hl
  rw [appO_eq hob] at h
  obtain ⟨as1, hvs, hds⟩ := hr.evo hs
  obtain ⟨bs, offs, rfl, hdr⟩ := hds hl0
  obtain ⟨ax, capx, hvx, hlx, hdx⟩ := SV.Den.toD _ (hr.evo hx) hxD
  obtain ⟨bx, offx, rfl, hdx2⟩ := hdx hne
  obtain ⟨olds, hol, hov⟩ := denR_len hdr
  obtain ⟨nv, hnl, hnv⟩ := denR_len hdx2
  have hl1 : 0 < ls.length := List.length_pos_iff.2 hl0
  have hl2 : 0 < news.length := List.length_pos_iff.2 hne
  have hocell : ∀ j u, olds[j]? = some u → w.cell? ((⟨bs, offs, none⟩ : Addr).add j) = some u := fun j u hu => by
    rw [addr_add]; exact (hr.store.sat _ _ _ (hov j u hu)).1
  have hncell : ∀ j u, nv[j]? = some u → w.cell? ((⟨bx, offx, none⟩ : Addr).add j) = some u := fun j u hu => by
    rw [addr_add]; exact (hr.store.sat _ _ _ (hnv j u hu)).1
  have hone : ∀ u ∈ olds ++ nv, u.oneCell' = true := fun u hu => by
    rcases List.mem_append.1 hu with hu | hu
    · obtain ⟨j, hj⟩ := List.getElem?_of_mem hu
      exact (hr.store.sat _ _ _ (hov j u hj)).2
    · obtain ⟨j, hj⟩ := List.getElem?_of_mem hu
      exact (hr.store.sat _ _ _ (hnv j u hj)).2
  obtain ⟨h63, hbytes⟩ := h63
  have hinfo := TS.info
  have hzero := TS.zero
  cases hi : P.info? e with
  | none => simp [hi] at hinfo
  | some i =>
    rw [hi] at hinfo hzero
    simp only [Option.map_some, Option.some.injEq, Prod.mk.injEq, Option.bind_some] at hinfo hzero
    cases hz : i.zero with
    | none => simp [hz] at hzero
    | some z =>
      rw [hz] at hzero
      simp only [Option.map_some, Option.some.injEq] at hzero
      obtain ⟨q1, q2⟩ := hinfo
      subst q1
      subst q2
      have hsmall : ls.length + news.length ≤ 9223372036854775807 := by simp only [maxLen] at h63; omega
      have hr0 := run_append_grow (P := P) w ty o.type e i z TS.under hi hz ⟨bs, offs, none⟩ ls.length ls.length olds hol hocell ⟨bx, offx, none⟩ news.length capx nv hnl hncell (by omega) (by omega) (growslice_fits (by omega) hbytes)
      have hge := grownCap_ge w (ls.length + news.length) ls.length e
      have hcm : grownCap w (ls.length + news.length) ls.length e ≤ maxLen := grownCap_le_maxLen w (ls.length + news.length) ls.length e h63
      generalize hcap : grownCap w (ls.length + news.length) ls.length e = cap at hr0 hge hcm
      have hlen : (olds ++ nv).length = (ls.length + news.length) * i.size := by rw [List.length_append, hol, hnl, Nat.add_mul]
      have hcs : (olds.toArray ++ nv.toArray ++ Builtin.zeroCells z.cells (cap - (ls.length + news.length))).size = cap * i.size := by
        simp only [Array.size_append, List.size_toArray, size_zeroCells, hzero, hol, hnl, ← Nat.add_mul]
        congr 1
        omega
      have htk : (olds.toArray ++ nv.toArray ++ Builtin.zeroCells z.cells (cap - (ls.length + news.length))).toList.take ((ls.length + news.length) * i.size) = olds ++ nv := by
        simp only [Array.toList_append, List.append_assoc]
        rw [← List.append_assoc, ← hlen]
        exact List.take_left
      generalize hcells : olds.toArray ++ nv.toArray ++ Builtin.zeroCells z.cells (cap - (ls.length + news.length)) = cs at hr0 hcs htk
      have hrun : (execOp a.eval o).run P w = .ok (.value (.slice (some ⟨w.heap.size, 0, none⟩) (ls.length + news.length) cap)) (w.drew.alloc (.cells cs e)) := by
        unfold execOp
        simp only [ho, resolve, invoke, builtin, Sem.run_bind, Sem.run_pure, Result.andThen_ok, List.map_toArray, List.map_cons, List.map_nil, hvs, hvx, hr0]
      unfold Oper.wp
      rw [hrun]
      show next (a.put o.dst _) _
      rw [hd]
      have hm0 : ∀ o, g.m w.heap.size o = none := fun o => by
        cases hx : g.m w.heap.size o with
        | none => rfl
        | some x => have := hr.store.sat_lt hx; omega
      have hm : Mle g.m (mset g.m w.heap.size (olds ++ nv)) := Mle.set fun o x hx => by rw [hm0] at hx; cases hx
      have hcell : ∀ o x, (olds ++ nv)[o]? = some x → (w.drew.alloc (.cells cs e)).cell? ⟨w.heap.size, o, none⟩ = some x := fun o x hx => by
        have h0 : (w.drew.alloc (.cells cs e)).heap[w.heap.size]? = some (.cells cs e (0, 0)) := heap_alloc_new w.drew _
        unfold World.cell?
        rw [h0]
        have h1 : (cs.toList.take ((ls.length + news.length) * i.size))[o]? = some x := by rw [htk]; exact hx
        have h2 : o < (ls.length + news.length) * i.size := by rw [← hlen]; exact (List.getElem?_eq_some_iff.1 hx).1
        rw [List.getElem?_take, if_pos h2] at h1
        simpa using h1
      have hrow : (w.drew.alloc (.cells cs e)).ownsRow 0 e i.size (.slice (some ⟨w.heap.size, 0, none⟩) (ls.length + news.length) cap) (ls.length + news.length) (olds ++ nv) :=
        ⟨hlen, .inr ⟨w.heap.size, cap, cs, rfl, Nat.zero_le _, heap_alloc_new w.drew _, hge, hcm, hcs, htk⟩⟩
      have hA : ∀ b o x, mset g.m w.heap.size (olds ++ nv) b o = some x → g.m b o = none → w.heap.size ≤ b ∧ (w.drew.alloc (.cells cs e)).cell? ⟨b, o, none⟩ = some x ∧ x.oneCell' = true := fun b o x hx hn => by
        unfold mset at hx
        by_cases e5 : b = w.heap.size
        · subst e5
          rw [if_pos rfl] at hx
          exact ⟨Nat.le_refl _, hcell o x hx, hone x (List.mem_of_getElem? hx)⟩
        · rw [if_neg e5, hn] at hx; cases hx
      have hB' : ∀ c, some w.heap.size = some c → ∀ o, (ls.length + news.length) * i.size ≤ o → mset g.m w.heap.size (olds ++ nv) c o = none := fun c hc o ho => by
        simp only [Option.some.injEq] at hc; subst hc
        unfold mset; rw [if_pos rfl, List.getElem?_eq_none (by omega)]
      obtain ⟨h1, h2⟩ := hr.new1 (w' := w.drew.alloc (.cells cs e)) (((Fr.refl _ w).drew).alloc _) hm hA (o' := .row e i.size) (pl := .row (some w.heap.size) cap (ls.length + news.length)) ⟨⟨olds ++ nv, hrow⟩, hB'⟩ (fun b hb => by simp only [blkOf, Option.some.injEq] at hb; omega) (fun i f dn cur e => by cases e)
      refine hK _ _ _ _ (h1.put' (s := .own ob.length i.size (ls ++ news)) ht ⟨some w.heap.size, cap, ?_, ?_, ?_, fun _ => ⟨w.heap.size, rfl, ?_⟩⟩) ⟨h2.1, fun i b o _ => h2.2 i b o (fun x => x)⟩ h
      · show (g.gs ++ [_])[ob.length]? = _
        have hl2 : ob.length = g.gs.length := hr.store.len
        rw [hl2]; simp
      · simp
      · simpa using hge
      · have hms : ∀ j u, (olds ++ nv)[j]? = some u → mset g.m w.heap.size (olds ++ nv) w.heap.size (0 + j) = some u := fun j u hu => by
          unfold mset; rw [if_pos rfl, Nat.zero_add]; exact hu
        refine DenR.append ?_ ?_
        · refine denR_of_row hm hdr fun j y hj hy => ?_
          have h6 : olds[j]? = some olds[j] := List.getElem?_eq_getElem (by omega)
          have h7 := hov j _ h6
          rw [h7] at hy
          cases hy
          exact hms j _ (by rw [List.getElem?_append_left (by omega)]; exact h6)
        · refine denR_of_row hm hdx2 fun j y hj hy => ?_
          have h6 : nv[j]? = some nv[j] := List.getElem?_eq_getElem (by omega)
          have h7 := hnv j _ h6
          rw [h7] at hy
          cases hy
          have := hms (ls.length * i.size + j) nv[j] (by rw [List.getElem?_append_right (by omega), show ls.length * i.size + j - olds.length = j by omega]; exact h6)
          rwa [show 0 + ls.length * i.size + j = 0 + (ls.length * i.size + j) by omega]
end Go.Vd
namespace Go.Proofs.YtneaancanfpdhaaGreatDoor
open Go Go.Vd Go.RowKit
attribute [local irreducible] Runs OpsR OpR FloatR AnyR AnyO
variable {g gl : Nat → List D}

def kwRow : List (List D) := [[.v (.string .empty)], [.v (.string ⟨#[97, 120, 105, 111, 109]⟩)], [.v (.string ⟨#[100, 101, 102]⟩)], [.v (.string ⟨#[105, 110, 100, 117, 99, 116, 105, 118, 101]⟩)]]
theorem kw_piece {k : Int} (h : k = 1 ∨ k = 2 ∨ k = 3) : (kwRow.drop k.toNat).take ((k + 1).toNat - k.toNat) = [[.v (.string (kwF k))]] := by
  rcases h with rfl | rfl | rfl <;> rfl
theorem kwF_ne (k : Int) : kwF k ≠ .empty := by unfold kwF; split; decide; split <;> decide
theorem strs_cons (s : ByteArray) (l : List ByteArray) : strs (s :: l) = [.v (.string s)] :: strs l := rfl
theorem fprint_spec (hg3 : g 3 = wordsD) (hg7 : g (laysM246_ren.g 17) = p10D) (k : Int) (nm : ByteArray) (ps : List ByteArray) (k1 n1 : Int) (s1 : ByteArray) (l1 : List Lvl) (a1 : List Trm) (k2 n2 : Int) (s2 : ByteArray) (l2 : List Lvl) (a2 : List Trm) (a : Int) (cs : List (ByteArray × Trm))
    (ho : okD (.mk k nm ps (.mk k1 n1 s1 l1 a1) (.mk k2 n2 s2 l2 a2) a cs)) (hb : wtD (.mk k nm ps (.mk k1 n1 s1 l1 a1) (.mk k2 n2 s2 l2 a2) a cs) ≤ 1099511627776) :
    TriD Tryz.prog (glT g) 39 [(Dec.mk k nm ps (.mk k1 n1 s1 l1 a1) (.mk k2 n2 s2 l2 a2) a cs).d] (· = .v (.string (wrD (.mk k nm ps (.mk k1 n1 s1 l1 a1) (.mk k2 n2 s2 l2 a2) a cs)))) := by
  have hps := parts_size ho
  have hws := wrD_size ho
  have hjs := joinB_size (partsF (.mk k nm ps (.mk k1 n1 s1 l1 a1) (.mk k2 n2 s2 l2 a2) a cs))
  have hpl := wtS_len (partsF (.mk k nm ps (.mk k1 n1 s1 l1 a1) (.mk k2 n2 s2 l2 a2) a cs))
  obtain ⟨hk, ha0, ha1, ht, hv, hc⟩ := ho
  have hkp := kw_piece hk
  simp only [wtD] at hb hps hws
  have hp1 := wtS_len ps
  have hj1 := joinB_size ps
  have hlc := ctrs_len cs
  have hcl := wtC_len cs
  obtain ⟨a, rfl⟩ := Int.eq_ofNat_of_zero_le ha0
  rcases hk with rfl | rfl | rfl
  · refine triD_of_runs Tryz.func39 rfl Tryz.ntmps39 (rs := [.tmp 2]) rfl rfl rfl ?_
    refine sr ?_; refine oc (T := fun _ => False) (bx ti67 ?_ (hl := by simp only [List.length_cons, List.length_nil, Nat.reduceAdd]; rfl)); refine o1 (asg ?_); refine nx ?_; refine sr ?_
    refine oc (T := fun _ => False) (op_lit sl42 [.const _, .const _, .const _, .const _] ti9 rfl rfl rfl rfl rfl rfl rfl (by decide) (by decide) (by decide) (by simp only [List.length_cons, List.length_nil, Nat.reduceAdd]; rfl) rfl ?_)
    refine o1 (fdb ti67 ?_); refine o1 (ldb ti3 ?_); refine o1 (fdb ti67 ?_); refine o1 (ldb ti3 ?_); refine o1 (iad ?_); refine o1 (fdb ti67 ?_); refine o1 (ldb ti3 ?_); refine o1 (iad ?_)
    refine o1 (fl_slice3 us42 te42 rfl rfl rfl rfl rfl rfl rfl rfl (by (refine ⟨by omega, by omega, ?_⟩; decide)) (hkp) ?_); refine o1 (asg ?_); refine nx ?_; refine runs_seq ?_; refine kp [3, 1] ?_; refine a_start ?_ (hm := by exact mixed)
    refine A1 0 rfl (mv ⟨_, rfl, ?_⟩); refine A1 1 rfl (fdb ti67 ⟨_, rfl, ?_⟩); refine A1 2 rfl (ldb ti9 ⟨_, rfl, ?_⟩); refine A1 3 rfl (fdb ti67 ⟨_, rfl, ?_⟩); refine A1 4 rfl (ldb ti42 ⟨_, rfl, ?_⟩)
    refine A2 5 rfl (cv ca80 rfl rfl (joinLib_spec ps sp (by omega) (by omega)) (fir (fir .nil)) ?_)
    refine A1 6 rfl (f_sadd ⟨_, rfl, ?_⟩ (hb := by (try simp only [ByteArray.size_append, size_mk, List.size_toArray, List.length_cons, List.length_nil]); omega))
    refine A1 7 rfl (f_sadd ⟨_, rfl, ?_⟩ (hb := by (try simp only [ByteArray.size_append, size_mk, List.size_toArray, List.length_cons, List.length_nil]); omega))
    refine A2 (T := fun _ => False) 8 rfl (op_lit sl42 [.tmp 18, .tmp 23] ti9 rfl rfl rfl rfl rfl rfl rfl (by decide) (by decide) (by decide) (by simp only [List.length_cons, List.length_nil, Nat.reduceAdd]; rfl) rfl ?_)
    refine A2 (T := fun _ => False) 9 rfl (op_append_ful sl42 rfl rfl rfl rfl (by simp) rfl rfl (by simp only [List.length_cons, List.length_nil, Nat.reduceAdd]; rfl) rfl (by decide) (by simp) (by first | decide | (simp only [maxLen, List.length_cons, List.length_nil, List.length_append, List.length_map]; omega) | omega) ?_)
    refine A1 10 rfl (asg ⟨_, rfl, ?_⟩); refine a_end ?_; refine seq_normal ?_; refine runs_seq ?_; refine kp [3, 1] ?_; refine sr ?_; refine o1 (fdb ti67 ?_); refine o1 (ldb ti3 ?_); refine o1 (ieq ?_); refine nx ?_
    refine cd (fun h3 => ?_) (fun h3 => ?_)
    · simp only [nrm, Int.reduceEq, Int.reduceNe, Int.reduceLT, Int.reduceLE] at h3
    (try simp only [nrm, Int.reduceEq, Int.reduceNe, Int.reduceLT, Int.reduceLE] at h3); refine runs_skip ?_; refine seq_normal ?_; refine sr ?_; refine o1 (mv ?_); refine o1 (fdb ti67 ?_); refine o1 (ldb ti31 ?_)
    refine oc (cv ca31 rfl rfl (tprint_spec hg3 hg7 k1 n1 s1 l1 a1 (by omega) ht) (fid .nil) ?_)
    refine oc (T := fun _ => False) (op_lit sl42 [.tmp 38] ti9 rfl rfl rfl rfl rfl rfl rfl (by decide) (by decide) (by decide) (by simp only [List.length_cons, List.length_nil, Nat.reduceAdd]; rfl) rfl ?_)
    refine oc (op_append sl42 rfl rfl rfl rfl rfl rfl rfl (.inl rfl) (by decide) (by simp) (by first | decide | (simp only [maxLen, List.length_cons, List.length_nil, List.length_append, List.length_map]; omega) | omega) rfl rfl rfl ?_)
    refine o1 (asg ?_); refine nx ?_; refine runs_seq ?_; refine kp [3, 1] ?_; refine sr ?_; refine o1 (fdb ti67 ?_); refine o1 (ldb ti3 ?_); refine o1 (ieq ?_); refine nx ?_; refine cd (fun h6 => ?_) (fun h6 => ?_)
    · simp only [nrm, Int.reduceEq, Int.reduceNe, Int.reduceLT, Int.reduceLE] at h6
    (try simp only [nrm, Int.reduceEq, Int.reduceNe, Int.reduceLT, Int.reduceLE] at h6); refine runs_skip ?_; refine seq_normal ?_; refine runs_seq ?_; refine sr ?_; refine o1 (fdb ti67 ?_); refine o1 (ldb ti65 ?_); refine o1 (le1 us65 ?_)
    refine o1 (mv ?_); refine nx ?_; refine runs_block ?_; refine kp [53, 52, 51, 3] ?_
    apply runs_loop_o (ι := Nat) (fun i => [(53, int i), (3, .own 1 1 (strs ((headF 1 nm ps ++ arF 1 a ++ [wrT (.mk k1 n1 s1 l1 a1)] ++ valF 1 (.mk k2 n2 s2 l2 a2)) ++ (cs.take i).map ctorT)))]) (fun i => [.cells [.d (.v (.int .i64 1)), .d (.v (.string nm)), .d (.sl 1 (strs ps)), .d (.v (.int .i64 k1)), .d (.v (.int .i64 n1)), .d (.v (.string s1)), .d (.sl 3 (lvls l1)), .d (.sl 5 (trms a1)), .d (.v (.int .i64 k2)), .d (.v (.int .i64 n2)), .d (.v (.string s2)), .d (.sl 3 (lvls l2)), .d (.sl 5 (trms a2)), .d (.v (.int .i64 a)), .d (.sl 6 (ctrs cs))] 67, .row 9 1]) [52, 51] (fun i => i ≤ cs.length) (fun i => cs.length - i) (0) ([0, 3])
    case hk => exact rfl
    case hI =>
      exact Nat.zero_le _
    case hm =>
      refine mo ?_ (sly (slx rfl (by exact Fit.of_eq (by rfl)) (sly (sly slz))))
      repeat (first | exact boz | refine boc ?_ | refine bor ?_)
    case h =>
      rintro i hinv
      try dsimp only at hinv
      refine kp [53, 3, 52, 51] ?_; refine sr ?_; refine o1 (ilt ?_); refine nx ?_; refine runs_seq ?_; refine cdf (fun h9 => ?_) (fun h9 => ?_)
      · (try simp only [nrm, Int.reduceEq, Int.reduceNe, Int.reduceLT, Int.reduceLE] at h9)
        refine runs_exit ?_; refine seq_exit ?_; refine seq_exit ?_; refine inb_exit ?_; refine seq_normal ?_; refine runs_seq ?_; refine kp [3] ?_; obtain rfl : i = cs.length := (by omega)
        rw [List.take_length]
        refine runs_region ?_; refine o1 (mv ?_); refine oc (cv ca80 rfl rfl (joinLib_spec (partsF (.mk 1 nm ps (.mk k1 n1 s1 l1 a1) (.mk k2 n2 s2 l2 a2) a cs)) sp (by omega) (by omega)) (fid (fir .nil)) ?_)
        refine o1 (f_sadd ?_ (hb := by (try simp only [ByteArray.size_append, size_mk, List.size_toArray, List.length_cons, List.length_nil]); omega))
        refine o1 (f_sadd ?_ (hb := by (try simp only [ByteArray.size_append, size_mk, List.size_toArray, List.length_cons, List.length_nil]); omega)); refine o1 (asg ?_); refine nx ?_; refine runs_ret ?_; refine fin_ret ?_; refine fin_d1 rfl rfl ?_
        rfl
      (try simp only [nrm, Int.reduceEq, Int.reduceNe, Int.reduceLT, Int.reduceLE] at h9); refine runs_skip ?_; refine seq_normal ?_; refine runs_seq ?_; refine runs_block ?_; refine runs_seq ?_
      obtain ⟨cn, k3, n3, s3, l3, a3, hget⟩ := ctr_get (show i < cs.length by omega)
      have hoc := hc _ (List.mem_of_getElem? hget)
      have hwc := wtC_get hget
      have hw3 := wrT_size _ hoc
      simp only at hwc hw3
      have hln : (strs ((headF 1 nm ps ++ arF 1 a ++ [wrT (.mk k1 n1 s1 l1 a1)] ++ valF 1 (.mk k2 n2 s2 l2 a2)) ++ (cs.take i).map ctorT)).length ≤ 6 + i := (by rw [strs_len, List.length_append, List.length_map, List.length_take]; have : ((headF 1 nm ps ++ arF 1 a ++ [wrT (.mk k1 n1 s1 l1 a1)] ++ valF 1 (.mk k2 n2 s2 l2 a2))).length ≤ 6 := (by simp [headF, arF, valF]); omega)
      refine runs_region ?_; refine o1 (ixs us65 te65 ?_ (he := by exact (ctr_at hget))); refine o1 (ldc ti111 ?_); refine oc (T := fun _ => False) (alc ti111 ?_ (hl := by simp only [List.length_cons, List.length_nil, Nat.reduceAdd]; rfl))
      refine oc (sto ti111 ?_); refine nx ?_; refine a_start ?_ (hm := by exact mixed); refine A1 0 rfl (mv ⟨_, rfl, ?_⟩); refine A1 1 rfl (fdb ti111 ⟨_, rfl, ?_⟩); refine A1 2 rfl (ldb ti9 ⟨_, rfl, ?_⟩)
      refine A1 3 rfl (f_sadd ⟨_, rfl, ?_⟩ (hb := by (try simp only [ByteArray.size_append, size_mk, List.size_toArray, List.length_cons, List.length_nil]); omega))
      refine A1 4 rfl (f_sadd ⟨_, rfl, ?_⟩ (hb := by (try simp only [ByteArray.size_append, size_mk, List.size_toArray, List.length_cons, List.length_nil]); omega)); refine A1 5 rfl (fdb ti111 ⟨_, rfl, ?_⟩); refine A1 6 rfl (ldb ti31 ⟨_, rfl, ?_⟩)
      refine A2 7 rfl (cv ca31 rfl rfl (tprint_spec hg3 hg7 k3 n3 s3 l3 a3 (by omega) hoc) (fid .nil) ?_)
      refine A1 8 rfl (f_sadd ⟨_, rfl, ?_⟩ (hb := by (try simp only [ByteArray.size_append, size_mk, List.size_toArray, List.length_cons, List.length_nil]); omega))
      refine A1 9 rfl (f_sadd ⟨_, rfl, ?_⟩ (hb := by (try simp only [ByteArray.size_append, size_mk, List.size_toArray, List.length_cons, List.length_nil]); omega))
      refine A2 (T := fun _ => False) 10 rfl (op_lit sl42 [.tmp 66] ti9 rfl rfl rfl rfl rfl rfl rfl (by decide) (by decide) (by decide) (by simp only [List.length_cons, List.length_nil, Nat.reduceAdd]; rfl) rfl ?_)
      refine A2 11 rfl (op_append sl42 rfl rfl rfl rfl rfl rfl rfl (.inl rfl) (by decide) (by simp) (by first | decide | (simp only [maxLen, List.length_cons, List.length_nil, List.length_append, List.length_map]; omega) | omega) rfl rfl rfl ?_)
      refine A1 12 rfl (asg ⟨_, rfl, ?_⟩); refine a_end ?_; refine inb_normal ?_; refine seq_normal ?_; refine kp [3, 53, 52, 51] ?_; refine runs_region ?_; refine o1 (iad ?_); refine o1 (mv ?_); refine ops_nil ?_; refine seq_back ?_
      refine back_c (i + 1) rfl ?_ ([0, 1]) ?_
      · exact ⟨by omega, by omega⟩
      · refine mo ?_ (sly (slx rfl (by exact Fit.of_eq (by rw [List.take_add_one, hget, List.map_append, ← List.append_assoc, strs_app]; rfl)) (sly (sly slz))))
        repeat (first | exact boz | refine boc ?_ | refine bor ?_)
  · refine triD_of_runs Tryz.func39 rfl Tryz.ntmps39 (rs := [.tmp 2]) rfl rfl rfl ?_
    refine sr ?_; refine oc (T := fun _ => False) (bx ti67 ?_ (hl := by simp only [List.length_cons, List.length_nil, Nat.reduceAdd]; rfl)); refine o1 (asg ?_); refine nx ?_; refine sr ?_
    refine oc (T := fun _ => False) (op_lit sl42 [.const _, .const _, .const _, .const _] ti9 rfl rfl rfl rfl rfl rfl rfl (by decide) (by decide) (by decide) (by simp only [List.length_cons, List.length_nil, Nat.reduceAdd]; rfl) rfl ?_)
    refine o1 (fdb ti67 ?_); refine o1 (ldb ti3 ?_); refine o1 (fdb ti67 ?_); refine o1 (ldb ti3 ?_); refine o1 (iad ?_); refine o1 (fdb ti67 ?_); refine o1 (ldb ti3 ?_); refine o1 (iad ?_)
    refine o1 (fl_slice3 us42 te42 rfl rfl rfl rfl rfl rfl rfl rfl (by (refine ⟨by omega, by omega, ?_⟩; decide)) (hkp) ?_); refine o1 (asg ?_); refine nx ?_; refine runs_seq ?_; refine kp [3, 1] ?_; refine a_start ?_ (hm := by exact mixed)
    refine A1 0 rfl (mv ⟨_, rfl, ?_⟩); refine A1 1 rfl (fdb ti67 ⟨_, rfl, ?_⟩); refine A1 2 rfl (ldb ti9 ⟨_, rfl, ?_⟩); refine A1 3 rfl (fdb ti67 ⟨_, rfl, ?_⟩); refine A1 4 rfl (ldb ti42 ⟨_, rfl, ?_⟩)
    refine A2 5 rfl (cv ca80 rfl rfl (joinLib_spec ps sp (by omega) (by omega)) (fir (fir .nil)) ?_)
    refine A1 6 rfl (f_sadd ⟨_, rfl, ?_⟩ (hb := by (try simp only [ByteArray.size_append, size_mk, List.size_toArray, List.length_cons, List.length_nil]); omega))
    refine A1 7 rfl (f_sadd ⟨_, rfl, ?_⟩ (hb := by (try simp only [ByteArray.size_append, size_mk, List.size_toArray, List.length_cons, List.length_nil]); omega))
    refine A2 (T := fun _ => False) 8 rfl (op_lit sl42 [.tmp 18, .tmp 23] ti9 rfl rfl rfl rfl rfl rfl rfl (by decide) (by decide) (by decide) (by simp only [List.length_cons, List.length_nil, Nat.reduceAdd]; rfl) rfl ?_)
    refine A2 (T := fun _ => False) 9 rfl (op_append_ful sl42 rfl rfl rfl rfl (by simp) rfl rfl (by simp only [List.length_cons, List.length_nil, Nat.reduceAdd]; rfl) rfl (by decide) (by simp) (by first | decide | (simp only [maxLen, List.length_cons, List.length_nil, List.length_append, List.length_map]; omega) | omega) ?_)
    refine A1 10 rfl (asg ⟨_, rfl, ?_⟩); refine a_end ?_; refine seq_normal ?_; refine runs_seq ?_; refine kp [3, 1] ?_; refine sr ?_; refine o1 (fdb ti67 ?_); refine o1 (ldb ti3 ?_); refine o1 (ieq ?_); refine nx ?_
    refine cd (fun h3 => ?_) (fun h3 => ?_)
    · simp only [nrm, Int.reduceEq, Int.reduceNe, Int.reduceLT, Int.reduceLE] at h3
    (try simp only [nrm, Int.reduceEq, Int.reduceNe, Int.reduceLT, Int.reduceLE] at h3); refine runs_skip ?_; refine seq_normal ?_; refine sr ?_; refine o1 (mv ?_); refine o1 (fdb ti67 ?_); refine o1 (ldb ti31 ?_)
    refine oc (cv ca31 rfl rfl (tprint_spec hg3 hg7 k1 n1 s1 l1 a1 (by omega) ht) (fid .nil) ?_)
    refine oc (T := fun _ => False) (op_lit sl42 [.tmp 38] ti9 rfl rfl rfl rfl rfl rfl rfl (by decide) (by decide) (by decide) (by simp only [List.length_cons, List.length_nil, Nat.reduceAdd]; rfl) rfl ?_)
    refine oc (op_append sl42 rfl rfl rfl rfl rfl rfl rfl (.inl rfl) (by decide) (by simp) (by first | decide | (simp only [maxLen, List.length_cons, List.length_nil, List.length_append, List.length_map]; omega) | omega) rfl rfl rfl ?_)
    refine o1 (asg ?_); refine nx ?_; refine runs_seq ?_; refine kp [3, 1] ?_; refine sr ?_; refine o1 (fdb ti67 ?_); refine o1 (ldb ti3 ?_); refine o1 (ieq ?_); refine nx ?_; refine cdf (fun h6 => ?_) (fun h6 => ?_)
    · simp only [nrm, Int.reduceEq, Int.reduceNe, Int.reduceLT, Int.reduceLE] at h6
    (try simp only [nrm, Int.reduceEq, Int.reduceNe, Int.reduceLT, Int.reduceLE] at h6); refine runs_region ?_; refine o1 (mv ?_); refine o1 (fdb ti67 ?_); refine o1 (ldb ti31 ?_)
    refine oc (cv ca31 rfl rfl (tprint_spec hg3 hg7 k2 n2 s2 l2 a2 (by omega) hv) (fid .nil) ?_)
    refine oc (T := fun _ => False) (op_lit sl42 [.tmp 47] ti9 rfl rfl rfl rfl rfl rfl rfl (by decide) (by decide) (by decide) (by simp only [List.length_cons, List.length_nil, Nat.reduceAdd]; rfl) rfl ?_)
    refine oc (op_append sl42 rfl rfl rfl rfl rfl rfl rfl (.inl rfl) (by decide) (by simp) (by first | decide | (simp only [maxLen, List.length_cons, List.length_nil, List.length_append, List.length_map]; omega) | omega) rfl rfl rfl ?_)
    refine o1 (asg ?_); refine nx ?_; refine runs_seq ?_; refine kp [3, 1] ?_; refine sr ?_; refine o1 (fdb ti67 ?_); refine o1 (ldb ti65 ?_); refine o1 (le1 us65 ?_); refine o1 (mv ?_); refine nx ?_; refine runs_block ?_
    refine kp [53, 52, 51, 3] ?_
    apply runs_loop_o (ι := Nat) (fun i => [(53, int i), (3, .own 1 1 (strs ((headF 2 nm ps ++ arF 2 a ++ [wrT (.mk k1 n1 s1 l1 a1)] ++ valF 2 (.mk k2 n2 s2 l2 a2)) ++ (cs.take i).map ctorT)))]) (fun i => [.cells [.d (.v (.int .i64 2)), .d (.v (.string nm)), .d (.sl 1 (strs ps)), .d (.v (.int .i64 k1)), .d (.v (.int .i64 n1)), .d (.v (.string s1)), .d (.sl 3 (lvls l1)), .d (.sl 5 (trms a1)), .d (.v (.int .i64 k2)), .d (.v (.int .i64 n2)), .d (.v (.string s2)), .d (.sl 3 (lvls l2)), .d (.sl 5 (trms a2)), .d (.v (.int .i64 a)), .d (.sl 6 (ctrs cs))] 67, .row 9 1]) [52, 51] (fun i => i ≤ cs.length) (fun i => cs.length - i) (0) ([0, 3])
    case hk => exact rfl
    case hI =>
      exact Nat.zero_le _
    case hm =>
      refine mo ?_ (sly (slx rfl (by exact Fit.of_eq (by rfl)) (sly (sly slz))))
      repeat (first | exact boz | refine boc ?_ | refine bor ?_)
    case h =>
      rintro i hinv
      try dsimp only at hinv
      refine kp [53, 3, 52, 51] ?_; refine sr ?_; refine o1 (ilt ?_); refine nx ?_; refine runs_seq ?_; refine cdf (fun h9 => ?_) (fun h9 => ?_)
      · (try simp only [nrm, Int.reduceEq, Int.reduceNe, Int.reduceLT, Int.reduceLE] at h9)
        refine runs_exit ?_; refine seq_exit ?_; refine seq_exit ?_; refine inb_exit ?_; refine seq_normal ?_; refine runs_seq ?_; refine kp [3] ?_; obtain rfl : i = cs.length := (by omega)
        rw [List.take_length]
        refine runs_region ?_; refine o1 (mv ?_); refine oc (cv ca80 rfl rfl (joinLib_spec (partsF (.mk 2 nm ps (.mk k1 n1 s1 l1 a1) (.mk k2 n2 s2 l2 a2) a cs)) sp (by omega) (by omega)) (fid (fir .nil)) ?_)
        refine o1 (f_sadd ?_ (hb := by (try simp only [ByteArray.size_append, size_mk, List.size_toArray, List.length_cons, List.length_nil]); omega))
        refine o1 (f_sadd ?_ (hb := by (try simp only [ByteArray.size_append, size_mk, List.size_toArray, List.length_cons, List.length_nil]); omega)); refine o1 (asg ?_); refine nx ?_; refine runs_ret ?_; refine fin_ret ?_; refine fin_d1 rfl rfl ?_
        rfl
      (try simp only [nrm, Int.reduceEq, Int.reduceNe, Int.reduceLT, Int.reduceLE] at h9); refine runs_skip ?_; refine seq_normal ?_; refine runs_seq ?_; refine runs_block ?_; refine runs_seq ?_
      obtain ⟨cn, k3, n3, s3, l3, a3, hget⟩ := ctr_get (show i < cs.length by omega)
      have hoc := hc _ (List.mem_of_getElem? hget)
      have hwc := wtC_get hget
      have hw3 := wrT_size _ hoc
      simp only at hwc hw3
      have hln : (strs ((headF 2 nm ps ++ arF 2 a ++ [wrT (.mk k1 n1 s1 l1 a1)] ++ valF 2 (.mk k2 n2 s2 l2 a2)) ++ (cs.take i).map ctorT)).length ≤ 6 + i := (by rw [strs_len, List.length_append, List.length_map, List.length_take]; have : ((headF 2 nm ps ++ arF 2 a ++ [wrT (.mk k1 n1 s1 l1 a1)] ++ valF 2 (.mk k2 n2 s2 l2 a2))).length ≤ 6 := (by simp [headF, arF, valF]); omega)
      refine runs_region ?_; refine o1 (ixs us65 te65 ?_ (he := by exact (ctr_at hget))); refine o1 (ldc ti111 ?_); refine oc (T := fun _ => False) (alc ti111 ?_ (hl := by simp only [List.length_cons, List.length_nil, Nat.reduceAdd]; rfl))
      refine oc (sto ti111 ?_); refine nx ?_; refine a_start ?_ (hm := by exact mixed); refine A1 0 rfl (mv ⟨_, rfl, ?_⟩); refine A1 1 rfl (fdb ti111 ⟨_, rfl, ?_⟩); refine A1 2 rfl (ldb ti9 ⟨_, rfl, ?_⟩)
      refine A1 3 rfl (f_sadd ⟨_, rfl, ?_⟩ (hb := by (try simp only [ByteArray.size_append, size_mk, List.size_toArray, List.length_cons, List.length_nil]); omega))
      refine A1 4 rfl (f_sadd ⟨_, rfl, ?_⟩ (hb := by (try simp only [ByteArray.size_append, size_mk, List.size_toArray, List.length_cons, List.length_nil]); omega)); refine A1 5 rfl (fdb ti111 ⟨_, rfl, ?_⟩); refine A1 6 rfl (ldb ti31 ⟨_, rfl, ?_⟩)
      refine A2 7 rfl (cv ca31 rfl rfl (tprint_spec hg3 hg7 k3 n3 s3 l3 a3 (by omega) hoc) (fid .nil) ?_)
      refine A1 8 rfl (f_sadd ⟨_, rfl, ?_⟩ (hb := by (try simp only [ByteArray.size_append, size_mk, List.size_toArray, List.length_cons, List.length_nil]); omega))
      refine A1 9 rfl (f_sadd ⟨_, rfl, ?_⟩ (hb := by (try simp only [ByteArray.size_append, size_mk, List.size_toArray, List.length_cons, List.length_nil]); omega))
      refine A2 (T := fun _ => False) 10 rfl (op_lit sl42 [.tmp 66] ti9 rfl rfl rfl rfl rfl rfl rfl (by decide) (by decide) (by decide) (by simp only [List.length_cons, List.length_nil, Nat.reduceAdd]; rfl) rfl ?_)
      refine A2 11 rfl (op_append sl42 rfl rfl rfl rfl rfl rfl rfl (.inl rfl) (by decide) (by simp) (by first | decide | (simp only [maxLen, List.length_cons, List.length_nil, List.length_append, List.length_map]; omega) | omega) rfl rfl rfl ?_)
      refine A1 12 rfl (asg ⟨_, rfl, ?_⟩); refine a_end ?_; refine inb_normal ?_; refine seq_normal ?_; refine kp [3, 53, 52, 51] ?_; refine runs_region ?_; refine o1 (iad ?_); refine o1 (mv ?_); refine ops_nil ?_; refine seq_back ?_
      refine back_c (i + 1) rfl ?_ ([0, 1]) ?_
      · exact ⟨by omega, by omega⟩
      · refine mo ?_ (sly (slx rfl (by exact Fit.of_eq (by rw [List.take_add_one, hget, List.map_append, ← List.append_assoc, strs_app]; rfl)) (sly (sly slz))))
        repeat (first | exact boz | refine boc ?_ | refine bor ?_)
  · refine triD_of_runs Tryz.func39 rfl Tryz.ntmps39 (rs := [.tmp 2]) rfl rfl rfl ?_
    refine sr ?_; refine oc (T := fun _ => False) (bx ti67 ?_ (hl := by simp only [List.length_cons, List.length_nil, Nat.reduceAdd]; rfl)); refine o1 (asg ?_); refine nx ?_; refine sr ?_
    refine oc (T := fun _ => False) (op_lit sl42 [.const _, .const _, .const _, .const _] ti9 rfl rfl rfl rfl rfl rfl rfl (by decide) (by decide) (by decide) (by simp only [List.length_cons, List.length_nil, Nat.reduceAdd]; rfl) rfl ?_)
    refine o1 (fdb ti67 ?_); refine o1 (ldb ti3 ?_); refine o1 (fdb ti67 ?_); refine o1 (ldb ti3 ?_); refine o1 (iad ?_); refine o1 (fdb ti67 ?_); refine o1 (ldb ti3 ?_); refine o1 (iad ?_)
    refine o1 (fl_slice3 us42 te42 rfl rfl rfl rfl rfl rfl rfl rfl (by (refine ⟨by omega, by omega, ?_⟩; decide)) (hkp) ?_); refine o1 (asg ?_); refine nx ?_; refine runs_seq ?_; refine kp [3, 1] ?_; refine a_start ?_ (hm := by exact mixed)
    refine A1 0 rfl (mv ⟨_, rfl, ?_⟩); refine A1 1 rfl (fdb ti67 ⟨_, rfl, ?_⟩); refine A1 2 rfl (ldb ti9 ⟨_, rfl, ?_⟩); refine A1 3 rfl (fdb ti67 ⟨_, rfl, ?_⟩); refine A1 4 rfl (ldb ti42 ⟨_, rfl, ?_⟩)
    refine A2 5 rfl (cv ca80 rfl rfl (joinLib_spec ps sp (by omega) (by omega)) (fir (fir .nil)) ?_)
    refine A1 6 rfl (f_sadd ⟨_, rfl, ?_⟩ (hb := by (try simp only [ByteArray.size_append, size_mk, List.size_toArray, List.length_cons, List.length_nil]); omega))
    refine A1 7 rfl (f_sadd ⟨_, rfl, ?_⟩ (hb := by (try simp only [ByteArray.size_append, size_mk, List.size_toArray, List.length_cons, List.length_nil]); omega))
    refine A2 (T := fun _ => False) 8 rfl (op_lit sl42 [.tmp 18, .tmp 23] ti9 rfl rfl rfl rfl rfl rfl rfl (by decide) (by decide) (by decide) (by simp only [List.length_cons, List.length_nil, Nat.reduceAdd]; rfl) rfl ?_)
    refine A2 (T := fun _ => False) 9 rfl (op_append_ful sl42 rfl rfl rfl rfl (by simp) rfl rfl (by simp only [List.length_cons, List.length_nil, Nat.reduceAdd]; rfl) rfl (by decide) (by simp) (by first | decide | (simp only [maxLen, List.length_cons, List.length_nil, List.length_append, List.length_map]; omega) | omega) ?_)
    refine A1 10 rfl (asg ⟨_, rfl, ?_⟩); refine a_end ?_; refine seq_normal ?_; refine runs_seq ?_; refine kp [3, 1] ?_; refine sr ?_; refine o1 (fdb ti67 ?_); refine o1 (ldb ti3 ?_); refine o1 (ieq ?_); refine nx ?_
    refine cdf (fun h3 => ?_) (fun h3 => ?_)
    · simp only [nrm, Int.reduceEq, Int.reduceNe, Int.reduceLT, Int.reduceLE] at h3
    (try simp only [nrm, Int.reduceEq, Int.reduceNe, Int.reduceLT, Int.reduceLE] at h3); refine runs_region ?_; refine o1 (mv ?_); refine o1 (fdb ti67 ?_); refine o1 (ldb ti3 ?_)
    refine oc (cv ca81 rfl rfl (itoa_spec (gl := glT g) hg7 a (by omega)) (fir .nil) ?_)
    refine oc (T := fun _ => False) (op_lit sl42 [.tmp 32] ti9 rfl rfl rfl rfl rfl rfl rfl (by decide) (by decide) (by decide) (by simp only [List.length_cons, List.length_nil, Nat.reduceAdd]; rfl) rfl ?_)
    refine oc (op_append sl42 rfl rfl rfl rfl rfl rfl rfl (.inl rfl) (by decide) (by simp) (by first | decide | (simp only [maxLen, List.length_cons, List.length_nil, List.length_append, List.length_map]; omega) | omega) rfl rfl rfl ?_)
    refine o1 (asg ?_); refine nx ?_; refine kp [3, 1] ?_; refine sr ?_; refine o1 (mv ?_); refine o1 (fdb ti67 ?_); refine o1 (ldb ti31 ?_); refine oc (cv ca31 rfl rfl (tprint_spec hg3 hg7 k1 n1 s1 l1 a1 (by omega) ht) (fid .nil) ?_)
    refine oc (T := fun _ => False) (op_lit sl42 [.tmp 38] ti9 rfl rfl rfl rfl rfl rfl rfl (by decide) (by decide) (by decide) (by simp only [List.length_cons, List.length_nil, Nat.reduceAdd]; rfl) rfl ?_)
    refine oc (op_append sl42 rfl rfl rfl rfl rfl rfl rfl (.inl rfl) (by decide) (by simp) (by first | decide | (simp only [maxLen, List.length_cons, List.length_nil, List.length_append, List.length_map]; omega) | omega) rfl rfl rfl ?_)
    refine o1 (asg ?_); refine nx ?_; refine runs_seq ?_; refine kp [3, 1] ?_; refine sr ?_; refine o1 (fdb ti67 ?_); refine o1 (ldb ti3 ?_); refine o1 (ieq ?_); refine nx ?_; refine cd (fun h6 => ?_) (fun h6 => ?_)
    · simp only [nrm, Int.reduceEq, Int.reduceNe, Int.reduceLT, Int.reduceLE] at h6
    (try simp only [nrm, Int.reduceEq, Int.reduceNe, Int.reduceLT, Int.reduceLE] at h6); refine runs_skip ?_; refine seq_normal ?_; refine runs_seq ?_; refine sr ?_; refine o1 (fdb ti67 ?_); refine o1 (ldb ti65 ?_); refine o1 (le1 us65 ?_)
    refine o1 (mv ?_); refine nx ?_; refine runs_block ?_; refine kp [53, 52, 51, 3] ?_
    apply runs_loop_o (ι := Nat) (fun i => [(53, int i), (3, .own 1 1 (strs ((headF 3 nm ps ++ arF 3 a ++ [wrT (.mk k1 n1 s1 l1 a1)] ++ valF 3 (.mk k2 n2 s2 l2 a2)) ++ (cs.take i).map ctorT)))]) (fun i => [.cells [.d (.v (.int .i64 3)), .d (.v (.string nm)), .d (.sl 1 (strs ps)), .d (.v (.int .i64 k1)), .d (.v (.int .i64 n1)), .d (.v (.string s1)), .d (.sl 3 (lvls l1)), .d (.sl 5 (trms a1)), .d (.v (.int .i64 k2)), .d (.v (.int .i64 n2)), .d (.v (.string s2)), .d (.sl 3 (lvls l2)), .d (.sl 5 (trms a2)), .d (.v (.int .i64 a)), .d (.sl 6 (ctrs cs))] 67, .row 9 1]) [52, 51] (fun i => i ≤ cs.length) (fun i => cs.length - i) (0) ([0, 3])
    case hk => exact rfl
    case hI =>
      exact Nat.zero_le _
    case hm =>
      refine mo ?_ (sly (slx rfl (by exact Fit.of_eq (by rfl)) (sly (sly slz))))
      repeat (first | exact boz | refine boc ?_ | refine bor ?_)
    case h =>
      rintro i hinv
      try dsimp only at hinv
      refine kp [53, 3, 52, 51] ?_; refine sr ?_; refine o1 (ilt ?_); refine nx ?_; refine runs_seq ?_; refine cdf (fun h9 => ?_) (fun h9 => ?_)
      · (try simp only [nrm, Int.reduceEq, Int.reduceNe, Int.reduceLT, Int.reduceLE] at h9)
        refine runs_exit ?_; refine seq_exit ?_; refine seq_exit ?_; refine inb_exit ?_; refine seq_normal ?_; refine runs_seq ?_; refine kp [3] ?_; obtain rfl : i = cs.length := (by omega)
        rw [List.take_length]
        refine runs_region ?_; refine o1 (mv ?_); refine oc (cv ca80 rfl rfl (joinLib_spec (partsF (.mk 3 nm ps (.mk k1 n1 s1 l1 a1) (.mk k2 n2 s2 l2 a2) a cs)) sp (by omega) (by omega)) (fid (fir .nil)) ?_)
        refine o1 (f_sadd ?_ (hb := by (try simp only [ByteArray.size_append, size_mk, List.size_toArray, List.length_cons, List.length_nil]); omega))
        refine o1 (f_sadd ?_ (hb := by (try simp only [ByteArray.size_append, size_mk, List.size_toArray, List.length_cons, List.length_nil]); omega)); refine o1 (asg ?_); refine nx ?_; refine runs_ret ?_; refine fin_ret ?_; refine fin_d1 rfl rfl ?_
        rfl
      (try simp only [nrm, Int.reduceEq, Int.reduceNe, Int.reduceLT, Int.reduceLE] at h9); refine runs_skip ?_; refine seq_normal ?_; refine runs_seq ?_; refine runs_block ?_; refine runs_seq ?_
      obtain ⟨cn, k3, n3, s3, l3, a3, hget⟩ := ctr_get (show i < cs.length by omega)
      have hoc := hc _ (List.mem_of_getElem? hget)
      have hwc := wtC_get hget
      have hw3 := wrT_size _ hoc
      simp only at hwc hw3
      have hln : (strs ((headF 3 nm ps ++ arF 3 a ++ [wrT (.mk k1 n1 s1 l1 a1)] ++ valF 3 (.mk k2 n2 s2 l2 a2)) ++ (cs.take i).map ctorT)).length ≤ 6 + i := (by rw [strs_len, List.length_append, List.length_map, List.length_take]; have : ((headF 3 nm ps ++ arF 3 a ++ [wrT (.mk k1 n1 s1 l1 a1)] ++ valF 3 (.mk k2 n2 s2 l2 a2))).length ≤ 6 := (by simp [headF, arF, valF]); omega)
      refine runs_region ?_; refine o1 (ixs us65 te65 ?_ (he := by exact (ctr_at hget))); refine o1 (ldc ti111 ?_); refine oc (T := fun _ => False) (alc ti111 ?_ (hl := by simp only [List.length_cons, List.length_nil, Nat.reduceAdd]; rfl))
      refine oc (sto ti111 ?_); refine nx ?_; refine a_start ?_ (hm := by exact mixed); refine A1 0 rfl (mv ⟨_, rfl, ?_⟩); refine A1 1 rfl (fdb ti111 ⟨_, rfl, ?_⟩); refine A1 2 rfl (ldb ti9 ⟨_, rfl, ?_⟩)
      refine A1 3 rfl (f_sadd ⟨_, rfl, ?_⟩ (hb := by (try simp only [ByteArray.size_append, size_mk, List.size_toArray, List.length_cons, List.length_nil]); omega))
      refine A1 4 rfl (f_sadd ⟨_, rfl, ?_⟩ (hb := by (try simp only [ByteArray.size_append, size_mk, List.size_toArray, List.length_cons, List.length_nil]); omega)); refine A1 5 rfl (fdb ti111 ⟨_, rfl, ?_⟩); refine A1 6 rfl (ldb ti31 ⟨_, rfl, ?_⟩)
      refine A2 7 rfl (cv ca31 rfl rfl (tprint_spec hg3 hg7 k3 n3 s3 l3 a3 (by omega) hoc) (fid .nil) ?_)
      refine A1 8 rfl (f_sadd ⟨_, rfl, ?_⟩ (hb := by (try simp only [ByteArray.size_append, size_mk, List.size_toArray, List.length_cons, List.length_nil]); omega))
      refine A1 9 rfl (f_sadd ⟨_, rfl, ?_⟩ (hb := by (try simp only [ByteArray.size_append, size_mk, List.size_toArray, List.length_cons, List.length_nil]); omega))
      refine A2 (T := fun _ => False) 10 rfl (op_lit sl42 [.tmp 66] ti9 rfl rfl rfl rfl rfl rfl rfl (by decide) (by decide) (by decide) (by simp only [List.length_cons, List.length_nil, Nat.reduceAdd]; rfl) rfl ?_)
      refine A2 11 rfl (op_append sl42 rfl rfl rfl rfl rfl rfl rfl (.inl rfl) (by decide) (by simp) (by first | decide | (simp only [maxLen, List.length_cons, List.length_nil, List.length_append, List.length_map]; omega) | omega) rfl rfl rfl ?_)
      refine A1 12 rfl (asg ⟨_, rfl, ?_⟩); refine a_end ?_; refine inb_normal ?_; refine seq_normal ?_; refine kp [3, 53, 52, 51] ?_; refine runs_region ?_; refine o1 (iad ?_); refine o1 (mv ?_); refine ops_nil ?_; refine seq_back ?_
      refine back_c (i + 1) rfl ?_ ([0, 1]) ?_
      · exact ⟨by omega, by omega⟩
      · refine mo ?_ (sly (slx rfl (by exact Fit.of_eq (by rw [List.take_add_one, hget, List.map_append, ← List.append_assoc, strs_app]; rfl)) (sly (sly slz))))
        repeat (first | exact boz | refine boc ?_ | refine bor ?_)
end Go.Proofs.YtneaancanfpdhaaGreatDoor
namespace Go.Proofs.YtneaancanfpdhaaGreatDoor
open Go Go.Vd Go.RowKit
attribute [local irreducible] Runs OpsR OpR FloatR AnyR AnyO
variable {g gl : Nat → List D}

def kwO (k : Int) : ByteArray := ⟨#[40]⟩ ++ kwF k ++ ⟨#[32]⟩
theorem kwO_size (k : Int) : (kwO k).size ≤ 11 := by
  have := kwF_size k
  simp only [kwO, ByteArray.size_append, size_mk, List.size_toArray, List.length_cons, List.length_nil]; omega
theorem r0_eq (k : Int) (nm : ByteArray) : r0 k nm = kwO k ++ nm ++ ⟨#[32, 40]⟩ := rfl
theorem joinStep {ps : List ByteArray} {i : Nat} (h : i < ps.length) {q b : ByteArray} (hq : q = if 0 < i then b ++ joinB (ps.take i) sp ++ ⟨#[32]⟩ else b ++ joinB (ps.take i) sp) : q ++ ps[i] = b ++ joinB (ps.take (i + 1)) sp := by
  rw [joinB_take_succ h, hq]
  split
  · simp only [ByteArray.append_assoc]; rfl
  · obtain rfl : i = 0 := by omega
    rw [List.take_zero, joinB_nil, ByteArray.append_empty]
theorem printDecl_spec (k : Int) (nm : ByteArray) (ps : List ByteArray) (k1 n1 : Int) (s1 : ByteArray) (l1 : List Lvl) (a1 : List Trm) (k2 n2 : Int) (s2 : ByteArray) (l2 : List Lvl) (a2 : List Trm) (a : Int) (cs : List (ByteArray × Trm))
    (ho : okD (.mk k nm ps (.mk k1 n1 s1 l1 a1) (.mk k2 n2 s2 l2 a2) a cs)) (hb : wtD (.mk k nm ps (.mk k1 n1 s1 l1 a1) (.mk k2 n2 s2 l2 a2) a cs) ≤ 1099511627776) :
    TriD Tryz.prog (glT g) 41 [(Dec.mk k nm ps (.mk k1 n1 s1 l1 a1) (.mk k2 n2 s2 l2 a2) a cs).d] (· = .v (.string (wrD (.mk k nm ps (.mk k1 n1 s1 l1 a1) (.mk k2 n2 s2 l2 a2) a cs)))) := by
  have hps := parts_size ho
  have hws := wrD_size ho
  obtain ⟨hk, ha0, ha1, ht, hv, hc⟩ := ho
  simp only [wtD] at hb hps hws
  have hp1 := wtS_len ps
  have hp2 := strs_len ps
  have hj1 := joinB_size ps
  have hlc := ctrs_len cs
  have hcl := wtC_len cs
  have hk0 := kwO_size k
  have ht1 := wrT_size _ ht
  have hv1 := wrT_size _ hv
  obtain ⟨a, rfl⟩ := Int.eq_ofNat_of_zero_le ha0
  have hd5 := digR_size5 (n := a) (by omega)
  have hr0 : (r0 k nm).size ≤ 13 + nm.size := by rw [r0_eq]; simp only [ByteArray.size_append, size_mk, List.size_toArray, List.length_cons, List.length_nil]; omega
  have hr1 : (r1 k nm ps).size ≤ 15 + nm.size + wtS ps := by unfold r1; simp only [ByteArray.size_append, size_mk, List.size_toArray, List.length_cons, List.length_nil]; omega
  have hr2 : (r2 k nm ps a).size ≤ 21 + nm.size + wtS ps := by unfold r2; split <;> (try simp only [ByteArray.size_append, size_mk, List.size_toArray, List.length_cons, List.length_nil, Int.toNat_natCast]) <;> omega
  have hr3 : (r3 k nm ps a (.mk k1 n1 s1 l1 a1) (.mk k2 n2 s2 l2 a2)).size ≤ 22 + nm.size + wtS ps + wtT (.mk k1 n1 s1 l1 a1) + wtT (.mk k2 n2 s2 l2 a2) := by unfold r3; split <;> simp only [ByteArray.size_append, size_mk, List.size_toArray, List.length_cons, List.length_nil] <;> omega
  rw [wrD_eq]
  refine triD_of_runs Tryz.func41 rfl Tryz.ntmps41 (rs := [.tmp 2]) rfl rfl rfl ?_
  refine sr ?_; refine oc (T := fun _ => False) (bx ti67 ?_ (hl := by simp only [List.length_cons, List.length_nil, Nat.reduceAdd]; rfl)); refine o1 (asg ?_); refine nx ?_; refine sr ?_; refine o1 (asg ?_); refine nx ?_; refine runs_seq ?_
  refine sr ?_; refine o1 (fdb ti67 ?_); refine o1 (ldb ti3 ?_); refine o1 (ieq ?_); refine nx ?_; refine kp [8, 3, 1] ?_
  apply runs_cut_c (ι := ByteArray) (fun q => [(3, .d (.v (.string q)))]) [1] (fun q => ¬ k = 3 → q = kwO k)
  case hk => exact rfl
  case h1 =>
    refine cdf (fun h2 => ?_) (fun h2 => ?_)
    · (try simp only [nrm, Int.reduceEq, Int.reduceNe, Int.reduceLT, Int.reduceLE] at h2)
      refine runs_skip ?_; refine seq_back ?_; refine back_i (⟨#[40, 97, 120, 105, 111, 109, 32]⟩) rfl ?_ ?_
      · (intro h; rcases hk with h' | h' | h'; rw [h']; rfl; exact absurd h' h2; exact absurd h' h)
      · refine mo ?_ (sly (sly slz))
        repeat (first | exact boz | refine boc ?_)
    (try simp only [nrm, Int.reduceEq, Int.reduceNe, Int.reduceLT, Int.reduceLE] at h2); refine runs_region ?_; refine o1 (asg ?_); refine ops_nil ?_; refine seq_back ?_; refine back_i (⟨#[40, 100, 101, 102, 32]⟩) rfl ?_ ?_
    · (intro _; rw [h2]; rfl)
    · refine mo ?_ (sly (sly slz))
      repeat (first | exact boz | refine boc ?_)
  case h2 =>
    rintro q hcut
    try dsimp only at hcut
    refine kp [3, 1] ?_; refine runs_seq ?_; refine sr ?_; refine o1 (fdb ti67 ?_); refine o1 (ldb ti3 ?_); refine o1 (ieq ?_); refine nx ?_; refine kp [11, 3, 1] ?_
    apply runs_cut_c (ι := Unit) (fun _ => [(3, .d (.v (.string (kwO k))))]) [1] (fun _ => True)
    case hk => exact rfl
    case h1 =>
      refine cdf (fun h4 => ?_) (fun h4 => ?_)
      · (try simp only [nrm, Int.reduceEq, Int.reduceNe, Int.reduceLT, Int.reduceLE] at h4)
        refine runs_skip ?_; refine seq_back ?_; refine back_i (()) rfl ?_ ?_
        · trivial
        · refine mo ?_ (slx rfl (by exact Fit.of_eq (by first | (rw [h4]; rfl) | (rw [← hcut h4]; rfl))) (sly slz))
          repeat (first | exact boz | refine boc ?_)
      (try simp only [nrm, Int.reduceEq, Int.reduceNe, Int.reduceLT, Int.reduceLE] at h4); refine runs_region ?_; refine o1 (asg ?_); refine ops_nil ?_; refine seq_back ?_; refine back_i (()) rfl ?_ ?_
      · trivial
      · refine mo ?_ (slx rfl (by exact Fit.of_eq (by first | (rw [h4]; rfl) | (rw [← hcut h4]; rfl))) (sly slz))
        repeat (first | exact boz | refine boc ?_)
    case h2 =>
      rintro _ hcut
      try dsimp only at hcut
      refine kp [3, 1] ?_; refine sr ?_; refine o1 (mv ?_); refine o1 (fdb ti67 ?_); refine o1 (ldb ti9 ?_)
      refine o1 (f_sadd ?_ (hb := by (try simp only [ByteArray.size_append, size_mk, List.size_toArray, List.length_cons, List.length_nil]); omega))
      refine o1 (f_sadd ?_ (hb := by (try simp only [ByteArray.size_append, size_mk, List.size_toArray, List.length_cons, List.length_nil]); omega)); refine o1 (asg ?_); refine nx ?_; refine runs_seq ?_; refine kp [3, 1] ?_; refine sr ?_
      refine o1 (asg ?_); refine nx ?_; refine runs_block ?_
      apply runs_loop_c (ι := Nat) (fun i => [(4, int i), (3, .d (.v (.string (r0 k nm ++ joinB (ps.take i) sp))))]) [1] (fun i => i ≤ ps.length) (fun i => ps.length - i) (0)
      case hk => exact rfl
      case hI =>
        exact Nat.zero_le _
      case hm =>
        refine mo ?_ (sly (slx rfl (by exact Fit.of_eq (by rw [List.take_zero, joinB_nil, ByteArray.append_empty]; rfl)) (sly slz)))
        repeat (first | exact boz | refine boc ?_)
      case h =>
        rintro i hinv
        try dsimp only at hinv
        refine kp [4, 3, 1] ?_; refine runs_seq ?_; refine sr ?_; refine o1 (mv ?_); refine o1 (fdb ti67 ?_); refine o1 (ldb ti42 ?_); refine o1 (le1 us42 ?_); refine o1 (ilt ?_); refine nx ?_; refine cd (fun h8 => ?_) (fun h8 => ?_)
        · (try simp only [nrm, Int.reduceEq, Int.reduceNe, Int.reduceLT, Int.reduceLE] at h8)
          refine runs_skip ?_; refine seq_normal ?_; refine runs_seq ?_; refine runs_block ?_; refine runs_seq ?_; refine runs_seq ?_; refine kp [4, 3, 1] ?_
          have hjt := joinB_take_le ps i
          have hget := List.getElem?_eq_getElem (show i < ps.length by omega)
          have hsz : ps[i].size ≤ wtS ps := (by have h1 : wtS ps = wtS (ps.take i) + wtS (ps.drop i) := (by rw [← wtS_app, List.take_append_drop]); rw [List.drop_eq_getElem_cons (by omega)] at h1; simp only [wtS] at h1; omega)
          refine runs_region ?_; refine o1 (mv ?_); refine o1 (igt ?_); refine nx ?_; refine kp [25, 4, 3, 1] ?_
          apply runs_cut_c (ι := ByteArray) (fun q => [(3, .d (.v (.string q)))]) [4, 1] (fun q => q = if 0 < i then r0 k nm ++ joinB (ps.take i) sp ++ ⟨#[32]⟩ else r0 k nm ++ joinB (ps.take i) sp)
          case hk => exact rfl
          case h1 =>
            refine cdf (fun h10 => ?_) (fun h10 => ?_)
            · (try simp only [nrm, Int.reduceEq, Int.reduceNe, Int.reduceLT, Int.reduceLE] at h10)
              refine runs_skip ?_; refine seq_back ?_; refine back_i (r0 k nm ++ joinB (ps.take i) sp) rfl ?_ ?_
              · rw [if_neg (by omega)]
              · refine mo ?_ (sly (sly (sly slz)))
                repeat (first | exact boz | refine boc ?_)
            (try simp only [nrm, Int.reduceEq, Int.reduceNe, Int.reduceLT, Int.reduceLE] at h10); refine runs_region ?_; refine o1 (mv ?_)
            refine o1 (f_sadd ?_ (hb := by (try simp only [ByteArray.size_append, size_mk, List.size_toArray, List.length_cons, List.length_nil]); omega)); refine o1 (asg ?_); refine ops_nil ?_; refine seq_back ?_
            refine back_i (r0 k nm ++ joinB (ps.take i) sp ++ ⟨#[32]⟩) rfl ?_ ?_
            · rw [if_pos (by omega)]
            · refine mo ?_ (sly (sly (sly slz)))
              repeat (first | exact boz | refine boc ?_)
          case h2 =>
            rintro q hcut
            try dsimp only at hcut
            refine kp [3, 4, 1] ?_
            have hcut2 := hcut
            have hqs : q.size ≤ 14 + nm.size + wtS ps := (by rw [hcut]; split <;> simp only [ByteArray.size_append, size_mk, List.size_toArray, List.length_cons, List.length_nil] <;> omega)
            refine runs_region ?_; refine o1 (mv ?_); refine o1 (fdb ti67 ?_); refine o1 (ldb ti42 ?_); refine o1 (mv ?_); refine o1 (ixs us42 te42 ?_ (he := by exact (str_at (show i < ps.length by omega)))); refine o1 (ldc ti9 ?_)
            refine o1 (f_sadd ?_ (hb := by (try simp only [ByteArray.size_append, size_mk, List.size_toArray, List.length_cons, List.length_nil]); omega)); refine o1 (asg ?_); refine ops_nil ?_; refine inb_normal ?_; refine seq_normal ?_
            refine kp [3, 4, 1] ?_; refine runs_region ?_; refine o1 (mv ?_); refine o1 (iad ?_); refine o1 (asg ?_); refine ops_nil ?_; refine seq_back ?_; refine back_i (i + 1) rfl ?_ ?_
            · exact ⟨by omega, by omega⟩
            · refine mo ?_ (sly (slx rfl (by exact Fit.of_eq (by rw [← joinStep (by omega) hcut2]; rfl)) (sly slz)))
              repeat (first | exact boz | refine boc ?_)
        (try simp only [nrm, Int.reduceEq, Int.reduceNe, Int.reduceLT, Int.reduceLE] at h8); refine runs_exit ?_; refine seq_exit ?_; refine seq_exit ?_; refine inb_exit ?_; refine seq_normal ?_; refine runs_seq ?_; refine kp [3, 1] ?_
        obtain rfl : i = ps.length := (by omega)
        rw [List.take_length]
        refine runs_region ?_; refine o1 (mv ?_); refine o1 (f_sadd ?_ (hb := by (try simp only [ByteArray.size_append, size_mk, List.size_toArray, List.length_cons, List.length_nil]); omega)); refine o1 (asg ?_); refine nx ?_; refine runs_seq ?_
        refine sr ?_; refine o1 (fdb ti67 ?_); refine o1 (ldb ti3 ?_); refine o1 (ieq ?_); refine nx ?_; refine kp [39, 3, 1] ?_
        apply runs_cut_c (ι := Unit) (fun _ => [(3, .d (.v (.string (r2 k nm ps a))))]) [1] (fun _ => True)
        case hk => exact rfl
        case h1 =>
          refine cdf (fun h14 => ?_) (fun h14 => ?_)
          · (try simp only [nrm, Int.reduceEq, Int.reduceNe, Int.reduceLT, Int.reduceLE] at h14)
            refine runs_skip ?_; refine seq_back ?_; refine back_i (()) rfl ?_ ?_
            · trivial
            · refine mo ?_ (slx rfl (by exact Fit.of_eq (by unfold r2; simp only [h14, if_true, if_false, Int.toNat_natCast]; rfl)) (sly slz))
              repeat (first | exact boz | refine boc ?_)
          (try simp only [nrm, Int.reduceEq, Int.reduceNe, Int.reduceLT, Int.reduceLE] at h14); refine runs_region ?_; refine o1 (mv ?_); refine o1 (fdb ti67 ?_); refine o1 (ldb ti3 ?_)
          refine oc (cv ca68 rfl rfl (digits_spec a (by omega)) (fir .nil) ?_); refine o1 (f_sadd ?_ (hb := by (try simp only [ByteArray.size_append, size_mk, List.size_toArray, List.length_cons, List.length_nil]); omega))
          refine o1 (f_sadd ?_ (hb := by (try simp only [ByteArray.size_append, size_mk, List.size_toArray, List.length_cons, List.length_nil]); omega)); refine o1 (asg ?_); refine ops_nil ?_; refine seq_back ?_; refine back_i (()) rfl ?_ ?_
          · trivial
          · refine mo ?_ (slx rfl (by exact Fit.of_eq (by unfold r2; simp only [h14, if_true, if_false, Int.toNat_natCast]; rfl)) (sly slz))
            repeat (first | exact boz | refine boc ?_)
        case h2 =>
          rintro _ hcut
          try dsimp only at hcut
          refine kp [3, 1] ?_; refine sr ?_; refine o1 (mv ?_); refine o1 (fdb ti67 ?_); refine o1 (ldb ti31 ?_); refine oc (cv ca32 rfl rfl (printTerm_spec _ k1 n1 s1 l1 a1 (Nat.le_refl _) (by omega) ht) (fid .nil) ?_)
          refine o1 (f_sadd ?_ (hb := by (try simp only [ByteArray.size_append, size_mk, List.size_toArray, List.length_cons, List.length_nil]); omega)); refine o1 (asg ?_); refine nx ?_; refine runs_seq ?_; refine kp [3, 1] ?_; refine sr ?_
          refine o1 (fdb ti67 ?_); refine o1 (ldb ti3 ?_); refine o1 (ieq ?_); refine nx ?_; refine kp [53, 3, 1] ?_
          apply runs_cut_c (ι := Unit) (fun _ => [(3, .d (.v (.string (r3 k nm ps a (.mk k1 n1 s1 l1 a1) (.mk k2 n2 s2 l2 a2)))))]) [1] (fun _ => True)
          case hk => exact rfl
          case h1 =>
            refine cdf (fun h17 => ?_) (fun h17 => ?_)
            · (try simp only [nrm, Int.reduceEq, Int.reduceNe, Int.reduceLT, Int.reduceLE] at h17)
              refine runs_skip ?_; refine seq_back ?_; refine back_i (()) rfl ?_ ?_
              · trivial
              · refine mo ?_ (slx rfl (by exact Fit.of_eq (by unfold r3; simp only [h17, if_true, if_false]; rfl)) (sly slz))
                repeat (first | exact boz | refine boc ?_)
            (try simp only [nrm, Int.reduceEq, Int.reduceNe, Int.reduceLT, Int.reduceLE] at h17); refine runs_region ?_; refine o1 (mv ?_)
            refine o1 (f_sadd ?_ (hb := by (try simp only [ByteArray.size_append, size_mk, List.size_toArray, List.length_cons, List.length_nil]); omega)); refine o1 (fdb ti67 ?_); refine o1 (ldb ti31 ?_)
            refine oc (cv ca32 rfl rfl (printTerm_spec _ k2 n2 s2 l2 a2 (Nat.le_refl _) (by omega) hv) (fid .nil) ?_)
            refine o1 (f_sadd ?_ (hb := by (try simp only [ByteArray.size_append, size_mk, List.size_toArray, List.length_cons, List.length_nil]); omega)); refine o1 (asg ?_); refine ops_nil ?_; refine seq_back ?_; refine back_i (()) rfl ?_ ?_
            · trivial
            · refine mo ?_ (slx rfl (by exact Fit.of_eq (by unfold r3; simp only [h17, if_true, if_false]; rfl)) (sly slz))
              repeat (first | exact boz | refine boc ?_)
          case h2 =>
            rintro _ hcut
            try dsimp only at hcut
            refine kp [3, 1] ?_; refine runs_seq ?_; refine sr ?_; refine o1 (asg ?_); refine nx ?_; refine runs_block ?_
            apply runs_loop_c (ι := Nat) (fun i => [(5, int i), (3, .d (.v (.string (r3 k nm ps a (.mk k1 n1 s1 l1 a1) (.mk k2 n2 s2 l2 a2) ++ tailB sp ((cs.take i).map ctorT)))))]) [1] (fun i => i ≤ cs.length) (fun i => cs.length - i) (0)
            case hk => exact rfl
            case hI =>
              exact Nat.zero_le _
            case hm =>
              refine mo ?_ (sly (slx rfl (by exact Fit.of_eq (by rw [List.take_zero, List.map_nil]; simp only [tailB, ByteArray.append_empty]; rfl)) (sly slz)))
              repeat (first | exact boz | refine boc ?_)
            case h =>
              rintro i hinv
              try dsimp only at hinv
              refine kp [5, 3, 1] ?_; refine runs_seq ?_; refine sr ?_; refine o1 (mv ?_); refine o1 (fdb ti67 ?_); refine o1 (ldb ti65 ?_); refine o1 (le1 us65 ?_); refine o1 (ilt ?_); refine nx ?_; refine cdf (fun h20 => ?_) (fun h20 => ?_)
              · (try simp only [nrm, Int.reduceEq, Int.reduceNe, Int.reduceLT, Int.reduceLE] at h20)
                refine runs_exit ?_; refine seq_exit ?_; refine seq_exit ?_; refine inb_exit ?_; refine seq_normal ?_; refine runs_seq ?_; refine kp [3] ?_; obtain rfl : i = cs.length := (by omega)
                rw [List.take_length]
                have htl := ctorTail_le hc cs.length
                rw [List.take_length] at htl
                refine runs_region ?_; refine o1 (mv ?_); refine o1 (f_sadd ?_ (hb := by (try simp only [ByteArray.size_append, size_mk, List.size_toArray, List.length_cons, List.length_nil]); omega)); refine o1 (asg ?_); refine nx ?_; refine runs_ret ?_
                refine fin_ret ?_; refine fin_d1 rfl rfl ?_
                rfl
              (try simp only [nrm, Int.reduceEq, Int.reduceNe, Int.reduceLT, Int.reduceLE] at h20); refine runs_skip ?_; refine seq_normal ?_; refine runs_seq ?_; refine runs_block ?_; refine kp [5, 3, 1] ?_
              obtain ⟨cn, k3, n3, s3, l3, a3, hget⟩ := ctr_get (show i < cs.length by omega)
              have hoc := hc _ (List.mem_of_getElem? hget)
              have hwc := wtC_get hget
              have hw3 := wrT_size _ hoc
              have htl := ctorTail_le hc i
              simp only at hwc hw3
              refine a_start ?_ (hm := by exact mixed); refine A1 0 rfl (mv ⟨_, rfl, ?_⟩); refine A1 1 rfl (f_sadd ⟨_, rfl, ?_⟩ (hb := by (try simp only [ByteArray.size_append, size_mk, List.size_toArray, List.length_cons, List.length_nil]); omega))
              refine A1 2 rfl (fdb ti67 ⟨_, rfl, ?_⟩); refine A1 3 rfl (ldb ti65 ⟨_, rfl, ?_⟩); refine A1 4 rfl (mv ⟨_, rfl, ?_⟩); refine A1 5 rfl (ixs us65 te65 ⟨_, rfl, ?_⟩ (he := by exact (ctr_at hget))); refine A1 6 rfl (fdc ti111 ⟨_, rfl, ?_⟩)
              refine A1 7 rfl (ldc ti9 ⟨_, rfl, ?_⟩); refine A1 8 rfl (f_sadd ⟨_, rfl, ?_⟩ (hb := by (try simp only [ByteArray.size_append, size_mk, List.size_toArray, List.length_cons, List.length_nil]); omega))
              refine A1 9 rfl (f_sadd ⟨_, rfl, ?_⟩ (hb := by (try simp only [ByteArray.size_append, size_mk, List.size_toArray, List.length_cons, List.length_nil]); omega)); refine A1 10 rfl (fdb ti67 ⟨_, rfl, ?_⟩)
              refine A1 11 rfl (ldb ti65 ⟨_, rfl, ?_⟩); refine A1 12 rfl (mv ⟨_, rfl, ?_⟩); refine A1 13 rfl (ixs us65 te65 ⟨_, rfl, ?_⟩ (he := by exact (ctr_at hget))); refine A1 14 rfl (fdc ti111 ⟨_, rfl, ?_⟩); refine A1 15 rfl (ldc ti31 ⟨_, rfl, ?_⟩)
              refine A2 16 rfl (cv ca32 rfl rfl (printTerm_spec _ k3 n3 s3 l3 a3 (Nat.le_refl _) (by omega) hoc) (fid .nil) ?_)
              refine A1 17 rfl (f_sadd ⟨_, rfl, ?_⟩ (hb := by (try simp only [ByteArray.size_append, size_mk, List.size_toArray, List.length_cons, List.length_nil]); omega))
              refine A1 18 rfl (f_sadd ⟨_, rfl, ?_⟩ (hb := by (try simp only [ByteArray.size_append, size_mk, List.size_toArray, List.length_cons, List.length_nil]); omega)); refine A1 19 rfl (asg ⟨_, rfl, ?_⟩); refine a_end ?_; refine inb_normal ?_
              refine seq_normal ?_; refine kp [3, 5, 1] ?_; refine runs_region ?_; refine o1 (mv ?_); refine o1 (iad ?_); refine o1 (asg ?_); refine ops_nil ?_; refine seq_back ?_; refine back_i (i + 1) rfl ?_ ?_
              · exact ⟨by omega, by omega⟩
              · refine mo ?_ (sly (slx rfl (by exact Fit.of_eq (by rw [ctorTail_take hget]; simp only [ByteArray.append_assoc]; rfl)) (sly slz)))
                repeat (first | exact boz | refine boc ?_)
end Go.Proofs.YtneaancanfpdhaaGreatDoor
namespace Go.Proofs.YtneaancanfpdhaaGreatDoor
open Go Go.Vd Go.RowKit
attribute [local irreducible] Runs OpsR OpR FloatR AnyR AnyO
variable {gl : Nat → List D}

theorem sameLvl_spec : ∀ (n : Nat) (k : Int) (s : ByteArray) (args : List Lvl) (k2 : Int) (s2 : ByteArray) (args2 : List Lvl), (Lvl.mk k s args).size ≤ n → (Lvl.mk k s args).size ≤ 1099511627776 →
    TriD Tryz.prog gl 94 [(Lvl.mk k s args).d, (Lvl.mk k2 s2 args2).d] (· = .v (.bool (Lvl.same (.mk k s args) (.mk k2 s2 args2)))) := by
  intro n
  induction n with
  | zero => intro k s args k2 s2 args2 h; simp [Lvl.size] at h
  | succ n ih =>
    intro k s args k2 s2 args2 hn hb
    have hsz : sizes args ≤ n := by simp [Lvl.size] at hn; omega
    have hlen := lvls_len args
    have hlen2 := lvls_len args2
    have hlb := lvls_size args
    simp only [Lvl.size] at hb
    refine triD_of_runs Tryz.func94 rfl Tryz.ntmps94 (rs := [.tmp 4]) rfl rfl rfl ?_
    refine sr ?_; refine oc (T := fun _ => False) (bx ti45 ?_ (hl := by simp only [List.length_cons, List.length_nil, Nat.reduceAdd]; rfl))
    refine oc (T := fun _ => False) (bx ti45 ?_ (hl := by simp only [List.length_cons, List.length_nil, Nat.reduceAdd]; rfl)); refine o1 (asg ?_); refine nx ?_; refine runs_seq ?_; refine sr ?_; refine o1 (fdb ti45 ?_); refine o1 (ldb ti3 ?_)
    refine o1 (fdb ti45 ?_); refine o1 (ldb ti3 ?_); refine o1 (ine ?_); refine o1 (mv ?_)
    apply ops_or (yt := 17) (d := 12) 5 rfl rfl rfl (.none rfl) rfl rfl
    case h1 =>
      intro hb10 hK
      have hc := hb10; (try simp only [nrm, Int.reduceEq, Int.reduceNe, Int.reduceLT, Int.reduceLE] at hc)
      refine gye ?_ (hbw := by exact hb10); refine o1 (fdb ti45 ?_); refine gye ?_ (hbw := by exact hb10); refine o1 (ldb ti9 ?_); refine gye ?_ (hbw := by exact hb10); refine o1 (fdb ti45 ?_); refine gye ?_ (hbw := by exact hb10)
      refine o1 (ldb ti9 ?_); refine gye ?_ (hbw := by exact hb10); refine o1 (sne ?_); exact hK [_, _, _, _, _] rfl rfl
    case h2 =>
      intro hb10 hK; refine gno ?_ (hbw := by exact hb10); refine gno ?_ (hbw := by exact hb10); refine gno ?_ (hbw := by exact hb10); refine gno ?_ (hbw := by exact hb10); refine gno ?_ (hbw := by exact hb10); exact hK [_, _, _, _, _] rfl
    refine o1 (mv ?_)
    apply ops_or (yt := 26) (d := 19) 7 rfl rfl rfl (.none rfl) rfl rfl
    case h1 =>
      intro hb24 hK
      have hc := hb24; (try simp only [nrm, Int.reduceEq, Int.reduceNe, Int.reduceLT, Int.reduceLE] at hc)
      refine gye ?_ (hbw := by exact hb24); refine o1 (fdb ti45 ?_); refine gye ?_ (hbw := by exact hb24); refine o1 (ldb ti28 ?_); refine gye ?_ (hbw := by exact hb24); refine o1 (le1 us28 ?_); refine gye ?_ (hbw := by exact hb24)
      refine o1 (fdb ti45 ?_); refine gye ?_ (hbw := by exact hb24); refine o1 (ldb ti28 ?_); refine gye ?_ (hbw := by exact hb24); refine o1 (le1 us28 ?_); refine gye ?_ (hbw := by exact hb24); refine o1 (ine ?_)
      exact hK [_, _, _, _, _, _, _] rfl rfl
    case h2 =>
      intro hb24 hK; refine gno ?_ (hbw := by exact hb24); refine gno ?_ (hbw := by exact hb24); refine gno ?_ (hbw := by exact hb24); refine gno ?_ (hbw := by exact hb24); refine gno ?_ (hbw := by exact hb24); refine gno ?_ (hbw := by exact hb24)
      refine gno ?_ (hbw := by exact hb24); exact hK [_, _, _, _, _, _, _] rfl
    refine nx ?_; refine cd (fun h1 => ?_) (fun h1 => ?_)
    · (try simp only [nrm, Int.reduceEq, Int.reduceNe, Int.reduceLT, Int.reduceLE] at h1)
      refine kp [] ?_; refine sr ?_; refine o1 (asg ?_); refine nx ?_; refine runs_ret ?_; refine seq_ret ?_; refine fin_ret ?_; refine fin_d1 rfl rfl ?_
      rw [Lvl.same_eq]
      rcases h1 with (h | h) | h
      · simp [h]
      · simp [h]
      · have : sameL args args2 = false := by
          cases hs : sameL args args2 with
          | false => rfl
          | true => exact absurd (by have := sameL_len hs; omega) h
        simp [this]
    (try simp only [nrm, Int.reduceEq, Int.reduceNe, Int.reduceLT, Int.reduceLE] at h1); refine runs_skip ?_; refine seq_normal ?_; refine runs_seq ?_; refine kp [3, 2] ?_; refine sr ?_; refine o1 (asg ?_); refine nx ?_; refine runs_block ?_
    apply runs_loop_c (ι := Nat) (fun i => [(5, int i)]) [3, 2] (fun i => i ≤ args.length ∧ sameL (args.take i) (args2.take i) = true) (fun i => args.length - i) (0)
    case hk => exact rfl
    case hI =>
      exact ⟨Nat.zero_le _, by simp [sameL]⟩
    case hm =>
      refine mo ?_ (sly (sly (sly slz)))
      repeat (first | exact boz | refine boc ?_)
    case h =>
      rintro i hinv
      try dsimp only at hinv
      refine kp [5, 3, 2] ?_; refine runs_seq ?_; refine sr ?_; refine o1 (mv ?_); refine o1 (fdb ti45 ?_); refine o1 (ldb ti28 ?_); refine o1 (le1 us28 ?_); refine o1 (ilt ?_); refine nx ?_; refine cdf (fun h4 => ?_) (fun h4 => ?_)
      · (try simp only [nrm, Int.reduceEq, Int.reduceNe, Int.reduceLT, Int.reduceLE] at h4)
        refine runs_exit ?_; refine seq_exit ?_; refine seq_exit ?_; refine inb_exit ?_; refine seq_normal ?_; refine kp [] ?_; refine sr ?_; refine o1 (asg ?_); refine nx ?_; refine runs_ret ?_; refine fin_ret ?_; refine fin_d1 rfl rfl ?_
        rw [Lvl.same_eq]; have h9 := hinv.2; rw [List.take_of_length_le (by omega), List.take_of_length_le (by omega)] at h9; simp [h9, h1]
      (try simp only [nrm, Int.reduceEq, Int.reduceNe, Int.reduceLT, Int.reduceLE] at h4); refine runs_skip ?_; refine seq_normal ?_; refine runs_seq ?_; refine runs_block ?_; refine runs_seq ?_; refine kp [5, 3, 2] ?_
      obtain ⟨k', s', a', hget⟩ := lvl_get (show i < args.length by omega); obtain ⟨k2', s2', a2', hget2⟩ := lvl_get (show i < args2.length by omega)
      have hsz' := size_get hget
      refine a_start ?_ (hm := by exact mixed); refine A1 0 rfl (fdb ti45 ⟨_, rfl, ?_⟩); refine A1 1 rfl (ldb ti28 ⟨_, rfl, ?_⟩); refine A1 2 rfl (mv ⟨_, rfl, ?_⟩); refine A1 3 rfl (ixs us28 te28 ⟨_, rfl, ?_⟩ (he := by exact (lvl_at hget)))
      refine A1 4 rfl (ldc ti45 ⟨_, rfl, ?_⟩); refine A1 5 rfl (fdb ti45 ⟨_, rfl, ?_⟩); refine A1 6 rfl (ldb ti28 ⟨_, rfl, ?_⟩); refine A1 7 rfl (mv ⟨_, rfl, ?_⟩); refine A1 8 rfl (ixs us28 te28 ⟨_, rfl, ?_⟩ (he := by exact (lvl_at hget2)))
      refine A1 9 rfl (ldc ti45 ⟨_, rfl, ?_⟩); refine A2 10 rfl (cv ca94 rfl rfl (ih k' s' a' k2' s2' a2' (by omega) (by omega)) (fid (fid .nil)) ?_); refine A1 11 rfl (asg ⟨_, rfl, ?_⟩); refine a_end ?_; refine seq_normal ?_
      refine kp [6, 5, 3, 2] ?_; refine sr ?_; refine o1 (mv ?_); refine o1 (f_not ?_); refine nx ?_; refine cd (fun h7 => ?_) (fun h7 => ?_)
      · (try simp only [nrm, Int.reduceEq, Int.reduceNe, Int.reduceLT, Int.reduceLE] at h7)
        refine kp [] ?_; refine sr ?_; refine o1 (asg ?_); refine nx ?_; refine runs_ret ?_; refine inb_ret ?_; refine seq_ret ?_; refine seq_ret ?_; refine inb_ret ?_; refine seq_ret ?_; refine fin_ret ?_; refine fin_d1 rfl rfl ?_
        rw [Lvl.same_eq]; rw [sameL_false hget hget2 h7]; simp
      (try simp only [nrm, Int.reduceEq, Int.reduceNe, Int.reduceLT, Int.reduceLE] at h7); refine runs_skip ?_; refine inb_normal ?_; refine seq_normal ?_; refine runs_region ?_; refine o1 (mv ?_); refine o1 (iad ?_); refine o1 (asg ?_)
      refine ops_nil ?_; refine seq_back ?_; refine back_i (i + 1) rfl ?_ ?_
      · exact ⟨⟨by omega, by rw [sameL_take hget hget2]; simp [hinv.2, h7]⟩, by omega⟩
      · refine mo ?_ (sly (sly (sly slz)))
        repeat (first | exact boz | refine boc ?_)
end Go.Proofs.YtneaancanfpdhaaGreatDoor
