/-
  What is proved here, text by text: contracts of the reference's reader: term, ParseTerm. the text of a term; what the reference's reader reads is a term that can be printed, and how long its text is. of what the reader reads: names, weights. declarations as data; what the reference's reader of files computes, in plain words. what the reference's reader of declarations makes of tokens, step by step. what is printed of a term is read again as that term. that this program holds the library functions of which contracts are used (the kernel compares the bodies). strconv.Itoa at what a term's numbers are: the digits that the reference writes. strings.Join, and strconv.Atoi at what is no number: contracts of data. the text of a declaration, as the program puts it together and as the reference does; how long it is. contracts of the program's Print of terms. the rule for string(bytes) of a row of one's own; over any program. rules for a slice with no room behind it: a piece of a row, cut with its capacity; an append to it makes a new row; over any program. the contract of the program's file.Print. the text of a file; the contract of the program's PrintAll. contracts of the program's scanner: letter, digit, run. contracts of the program's scanner: Step.
-/
import Derived.Test.YtneaancanfpdhaaDoorG3
import Derived.Shelf.Strings.OnBuilder
import Derived.Shelf.Strconv.Itoa3
import Derived.Shelf.Strconv.ErrVarAll
import Derived.Test.YtneaancanfpdhaaDoorProg
import Derived.WalkSmall
import Derived.Laws.BytesString
import Derived.Laws.Cells
set_option linter.unusedSimpArgs false
set_option linter.unusedVariables false
namespace Go.Proofs.YtneaancanfpdhaaDoor
open Go Go.Vd Go.RowKit
attribute [local irreducible] Runs OpsR OpR FloatR AnyR

/-- the package's variables: the program's words (1), the reference's (0) -/
def glQ (g : Nat → List D) : Nat → List D
  | 1 => wordsT.map fun s => .v (.string s)
  | n => g n
def gl0 (g : Nat → List D) : Nat → List D
  | 0 => [strsD wordsT]
  | n => g n
abbrev glT (g : Nat → List D) : Nat → List D := glQ (gl0 g)
variable {g : Nat → List D}
theorem size_pos {s : ByteArray} (h : s ≠ .empty) : 0 < s.size := by
  rcases Nat.eq_zero_or_pos s.size with h1 | h1
  · exact absurd (ByteArray.size_eq_zero_iff.1 h1) h
  · exact h1

theorem fcode_n : fcode none = 0 := rfl
theorem fcode_none {f : Option Nat} : fcode f = 0 ↔ f = none := by cases f <;> simp [fcode]
theorem levels_stop {s : ByteArray} {r : RS} {m : Nat} (h : ¬ (fcode r.f = 0 ∧ ¬ peekR s r = ⟨#[41]⟩)) : levelsR m s r = ([], r) := by
  cases m with
  | zero => rfl
  | succ m => simp only [levelsR]; rw [if_neg (by rw [fcode_none] at h; exact h)]
theorem level_prog {s : ByteArray} {n : Nat} {r : RS} (hp : r.p ≤ s.size) (h1 : r.f = none) (h2 : (levelR (n + 1) s r).2.f = none) : r.p < (levelR (n + 1) s r).2.p := by
  obtain ⟨p, f⟩ := r
  simp only at h1 hp
  subst h1
  have hf : ∀ (q : RS) (x : Nat), (q.fail x).f ≠ none := by rintro ⟨a, f⟩ x; cases f <;> simp [RS.fail]
  have hat := tokR_at (s := s) hp
  have hnx : (tokR s p).1 ≠ .empty → p < (nextR s ⟨p, none⟩).2.p := fun h => by rw [nextR_ok h]; have := size_pos h; simp only; omega
  have hn1 := nextR_le (s := s) (r := ⟨p, none⟩) hp
  have hn2 := nextR_le (s := s) (r := (nextR s ⟨p, none⟩).2) hn1.2
  have hl1 := levelR_le (s := s) n (r := (nextR s (nextR s ⟨p, none⟩).2).2) hn2.2
  have hl2 := levelR_le (s := s) n (r := (levelR n s (nextR s (nextR s ⟨p, none⟩).2).2).2) hl1.2
  have ht1 := takeR_le (s := s) (w := ⟨#[41]⟩) hl1.2
  have ht2 := takeR_le (s := s) (w := ⟨#[41]⟩) hl2.2
  by_cases c0 : (tokR s p).1 = ⟨#[48]⟩
  · rw [levelR_zero c0]; exact hnx (by rw [c0]; decide)
  cases c1 : isNameB (tokR s p).1 with
  | true =>
    rw [levelR_name c0 c1]
    exact hnx (by intro e; rw [e] at c1; simp [isNameB] at c1)
  | false =>
    by_cases c2 : (tokR s p).1 = ⟨#[40]⟩
    · have h3 := hnx (by rw [c2]; decide)
      by_cases c3 : kindR (tokR s (nextR s ⟨p, none⟩).2.p).1 = 0
      · rw [levelR_kind c0 c1 c2 c3] at h2; exact absurd h2 (hf _ _)
      · by_cases c4 : kindR (tokR s (nextR s ⟨p, none⟩).2.p).1 = 1
        · rw [levelR_one c0 c1 c2 c4]; simp only at h3 ⊢; omega
        · rw [levelR_two c0 c1 c2 c3 c4]; simp only at h3 ⊢; omega
    · rw [levelR_else c0 c1 c2] at h2; exact absurd h2 (hf _ _)
theorem levels_step {s : ByteArray} {r0 r' : RS} {m : Nat} {acc : List Lvl} {x : Lvl} (hinv : r'.p ≤ s.size ∧ acc.length + m = s.size + 2 ∧ (r'.f = none → s.size - r'.p < m) ∧ levelsR (s.size + 2) s r0 = (acc ++ (levelsR m s r').1, (levelsR m s r').2))
    (h : fcode r'.f = 0 ∧ ¬ peekR s r' = ⟨#[41]⟩) (hX : (levelR (s.size + 1) s r').1 = x) :
    (levelR (s.size + 1) s r').2.p ≤ s.size ∧ (acc ++ [x]).length + (m - 1) = s.size + 2 ∧ ((levelR (s.size + 1) s r').2.f = none → s.size - (levelR (s.size + 1) s r').2.p < m - 1) ∧
      levelsR (s.size + 2) s r0 = (acc ++ [x] ++ (levelsR (m - 1) s (levelR (s.size + 1) s r').2).1, (levelsR (m - 1) s (levelR (s.size + 1) s r').2).2) := by
  rw [fcode_none] at h
  obtain ⟨h1, h2, h3, h4⟩ := hinv
  have hm := h3 h.1
  obtain ⟨m, rfl⟩ : ∃ k, m = k + 1 := ⟨m - 1, by omega⟩
  have hle := levelR_le (s := s) (s.size + 1) h1
  refine ⟨hle.2, by simp; omega, fun hf => by have := level_prog h1 h.1 hf; omega, ?_⟩
  rw [h4]
  simp only [levelsR]
  rw [if_pos h, ← hX]
  simp
theorem partsOf_le (k : Nat) : partsOf k ≤ 3 := by unfold partsOf; split; omega; split <;> omega

theorem term_spec (s : ByteArray) (hs : s.size ≤ 1099511627776) : ∀ (n : Nat) (r : RS), r.p ≤ s.size → s.size - r.p < n →
    Tri Tryd.prog (glT g) 18 [rdO s r] [.blk 0 0] fun out ob' => out = .ret (.d (termR n s r).1.d) ∧ ob' = [rdO s (termR n s r).2] := by
  intro n
  induction n with
  | zero => intro r _ h; omega
  | succ n ih =>
    intro r hp hn
    have hat := tokR_at (s := s) hp
    obtain ⟨p, f⟩ := r
    simp only at hat hp hn
    cases f with
    | some a =>
      refine triS_of_runs Tryd.func18 rfl Tryd.ntmps18 (rs := [.cell 2 29]) rfl rfl rfl 1 rfl ?_
      refine sr ?_; refine oc (T := fun _ => False) (alc ti29 ?_ (hl := by simp only [List.length_cons, List.length_nil, Nat.reduceAdd]; rfl)); refine nx ?_; refine sr ?_; refine o1 (mv ?_)
      refine oc (ck ca40 rfl rfl (token_spec s p (fcode (some a)) (fat (some a)) hs hp) [0] rfl (boc .nil) (fir .nil) ?_); refine o1 (mv ?_); refine o1 (ex2 ?_); refine o1 (ex2 ?_); refine o1 (ex2 ?_); refine o1 (asg ?_); refine o1 (asg ?_)
      refine o1 (asg ?_); refine nx ?_; refine runs_seq ?_; refine kp [5, 4, 3, 2, 0] ?_; refine sr ?_; refine o1 (mv ?_); refine o1 (ncb ?_); refine o1 (fdb ti54 ?_); refine o1 (fdb ti31 ?_); refine o1 (ldb ti3 ?_); refine o1 (ine ?_)
      refine nx ?_; refine cdf (fun h2 => ?_) (fun h2 => ?_)
      · simp only [nrm, Int.reduceEq, Int.reduceNe, Int.reduceLT, Int.reduceLE, fcode, fat] at h2
      (try simp only [nrm, Int.reduceEq, Int.reduceNe, Int.reduceLT, Int.reduceLE, fcode, fat] at h2); refine kp [2] ?_; refine sr ?_; refine o1 (bld ti29 ?_); refine oc (sto ti29 ?_); refine nx ?_; refine runs_ret ?_; refine seq_ret ?_
      refine fin_ret ?_; refine fin_odl ⟨_, _, rfl, (from_cell rfl rfl ti29 rfl rfl rfl rfl), rfl⟩ rfl (zeroT.d) (by repeat (first | exact .refl _ | exact .nil | refine .agg ?_ | refine .cons ?_ ?_)) ([0]) ([rdO s ⟨p, some a⟩]) rfl rfl rfl ?_ ?_
      · repeat (first | exact boz | refine boc ?_)
      · exact ⟨rfl, rfl⟩
    | none =>
      have hn1 := nextR_le (s := s) (r := ⟨p, none⟩) hp
      have hn2 := nextR_le (s := s) (r := (nextR s ⟨p, none⟩).2) hn1.2
      have hpos := size_pos (s := (tokR s p).1)
      have hash := tok_hash (s := s) hp
      have hwl : (strs wordsT).length = 7 := rfl
      have hwl2 : wordsT.length = 7 := rfl
      refine triS_of_runs Tryd.func18 rfl Tryd.ntmps18 (rs := [.cell 2 29]) rfl rfl rfl 1 rfl ?_
      refine sr ?_; refine oc (T := fun _ => False) (alc ti29 ?_ (hl := by simp only [List.length_cons, List.length_nil, Nat.reduceAdd]; rfl)); refine nx ?_; refine sr ?_; refine o1 (mv ?_)
      refine oc (ck ca40 rfl rfl (token_spec s p (fcode none) (fat none) hs hp) [0] rfl (boc .nil) (fir .nil) ?_); refine o1 (mv ?_); refine o1 (ex2 ?_); refine o1 (ex2 ?_); refine o1 (ex2 ?_); refine o1 (asg ?_); refine o1 (asg ?_)
      refine o1 (asg ?_); refine nx ?_; refine runs_seq ?_; refine kp [5, 4, 3, 2, 0] ?_; refine sr ?_; refine o1 (mv ?_); refine o1 (ncb ?_); refine o1 (fdb ti54 ?_); refine o1 (fdb ti31 ?_); refine o1 (ldb ti3 ?_); refine o1 (ine ?_)
      refine nx ?_; refine cd (fun h2 => ?_) (fun h2 => ?_)
      · simp only [nrm, Int.reduceEq, Int.reduceNe, Int.reduceLT, Int.reduceLE, fcode_n] at h2
      (try simp only [nrm, Int.reduceEq, Int.reduceNe, Int.reduceLT, Int.reduceLE, fcode_n] at h2); refine runs_skip ?_; refine seq_normal ?_; refine runs_seq ?_; refine kp [5, 4, 3, 2, 0] ?_; refine sr ?_; refine o1 (mv ?_); refine o1 (f_not ?_)
      refine o1 (mv ?_)
      apply ops_or (yt := 31) (d := 29) 2 rfl rfl rfl (.none rfl) rfl rfl
      case h1 =>
        intro hb4 hK
        have hc := hb4; (try simp only [nrm, Int.reduceEq, Int.reduceNe, Int.reduceLT, Int.reduceLE, fcode_n] at hc)
        refine gye ?_ (hbw := by exact hb4); refine o1 (mv ?_); refine gye ?_ (hbw := by exact hb4); refine o1 (seq1 ?_); exact hK [_, _] rfl rfl
      case h2 =>
        intro hb4 hK; refine gno ?_ (hbw := by exact hb4); refine gno ?_ (hbw := by exact hb4); exact hK [_, _] rfl
      refine o1 (mv ?_)
      apply ops_or (yt := 40) (d := 33) 7 rfl rfl rfl (.none rfl) rfl rfl
      case h1 =>
        intro hb12 hK
        have hc := hb12; (try simp only [nrm, Int.reduceEq, Int.reduceNe, Int.reduceLT, Int.reduceLE, fcode_n] at hc)
        refine gye ?_ (hbw := by exact hb12); refine o1 (mv ?_); refine gye ?_ (hbw := by exact hb12); refine o1 (byt ut9 ?_ (h01 := by have h1 := hpos hc.2; omega)); refine gye ?_ (hbw := by exact hb12); refine o1 (ine ?_)
        refine gye ?_ (hbw := by exact hb12); refine o1 (mv ?_)
        apply ops_and (yt := 39) (d := 37) 2 rfl rfl rfl (.yes rfl rfl rfl hb12) rfl rfl
        case h1 =>
          intro hb21 hK
          have hc := hb21; (try simp only [nrm, Int.reduceEq, Int.reduceNe, Int.reduceLT, Int.reduceLE, fcode_n] at hc)
          refine gye ?_ (hbw := by exact hb21); refine o1 (mv ?_); refine gye ?_ (hbw := by exact hb21); refine o1 (sne ?_); exact hK [_, _] rfl rfl
        case h2 =>
          intro hb21 hK; refine gno ?_ (hbw := by exact hb21); refine gno ?_ (hbw := by exact hb21); exact hK [_, _] rfl
        exact hK [_, _, _, _, _] rfl rfl
      case h2 =>
        intro hb12 hK; refine gno ?_ (hbw := by exact hb12); refine gno ?_ (hbw := by exact hb12); refine gno ?_ (hbw := by exact hb12); refine gno ?_ (hbw := by exact hb12); refine gud ?_; refine gud ?_; refine gno ?_ (hbw := by exact hb12)
        exact hK [_, _, _, _, _, _, _] rfl
      refine nx ?_; refine cd (fun h4 => ?_) (fun h4 => ?_)
      · (try simp only [nrm, Int.reduceEq, Int.reduceNe, Int.reduceLT, Int.reduceLE, fcode_n] at h4)
        refine kp [4, 2, 0] ?_; refine sr ?_; refine o1 (mv ?_); refine o1 (mv ?_); refine oc (ck ca41 rfl rfl (fail_spec s (tokR s p).2.1 ⟨p, none⟩) [0] rfl (boc .nil) (fir (fir .nil)) ?_); refine nx ?_; refine kp [2] ?_; refine sr ?_
        refine o1 (bld ti29 ?_); refine oc (sto ti29 ?_); refine nx ?_; refine runs_ret ?_; refine seq_ret ?_; refine fin_ret ?_
        refine fin_odl ⟨_, _, rfl, (from_cell rfl rfl ti29 rfl rfl rfl rfl), rfl⟩ rfl (zeroT.d) (by repeat (first | exact .refl _ | exact .nil | refine .agg ?_ | refine .cons ?_ ?_)) ([0]) ([rdO s ((RS.mk p none).fail (tokR s p).2.1)]) rfl rfl rfl ?_ ?_
        · repeat (first | exact boz | refine boc ?_)
        · rw [termR_bad (by rintro ⟨ha, hb⟩; rcases h4 with (h | h) | h; exact ha (tokR_empty h); exact ha h; rcases hb with hb | hb; exact h.1 hb; exact h.2 hb)]; exact ⟨rfl, rfl⟩
      (try simp only [nrm, Int.reduceEq, Int.reduceNe, Int.reduceLT, Int.reduceLE, fcode_n] at h4); refine runs_skip ?_; refine seq_normal ?_; refine kp [3, 2, 0] ?_; refine sr ?_; refine o1 (mv ?_)
      refine oc (ck ca42 rfl rfl (next_spec s ⟨p, none⟩ hs hp) [0] rfl (boc .nil) (fir .nil) ?_); refine nx ?_; refine runs_seq ?_; refine sr ?_; refine o1 (mv ?_); refine o1 (sne ?_); refine nx ?_; refine cd (fun h8 => ?_) (fun h8 => ?_)
      · (try simp only [nrm, Int.reduceEq, Int.reduceNe, Int.reduceLT, Int.reduceLE, fcode_n] at h8)
        refine runs_seq ?_; refine kp [3, 2] ?_
        have hh4 : headT (tokR s p).1 := ⟨h4.1.2, h4.2⟩
        have hh35 : byteAt (tokR s p).1 0 = 35 := by rcases h4.2 with h | h; exact h; exact absurd h h8
        have hhash := hash h4.1.2 hh35
        refine runs_region ?_; refine o1 (mv ?_); refine o1 (fl_sub_l ut9 rfl rfl rfl (by omega) ?_)
        refine oc (cv ca43 rfl rfl (number_spec ((tokR s p).1.extract 1 (tokR s p).1.size) (by rw [ByteArray.size_extract]; omega) hhash.2.2) (fir .nil) ?_); refine o1 (bld ti29 ?_); refine oc (sto ti29 ?_); refine nx ?_; refine runs_ret ?_
        refine seq_ret ?_; refine fin_ret ?_
        refine fin_odl ⟨_, _, rfl, (from_cell rfl rfl ti29 rfl rfl rfl rfl), rfl⟩ rfl ((Trm.mk 0 (numR ((tokR s p).1.extract 1 (tokR s p).1.size) ((tokR s p).1.extract 1 (tokR s p).1.size).size) .empty [] []).d) (by repeat (first | exact .refl _ | exact .nil | refine .agg ?_ | refine .cons ?_ ?_)) ([0]) ([rdO s (nextR s ⟨p, none⟩).2]) rfl rfl rfl ?_ ?_
        · repeat (first | exact boz | refine boc ?_)
        · rw [termR_num hh4 h8, show ((tokR s p).1.extract 1 (tokR s p).1.size).size = (tokR s p).1.size - 1 by rw [ByteArray.size_extract]; omega]; exact ⟨rfl, rfl⟩
      (try simp only [nrm, Int.reduceEq, Int.reduceNe, Int.reduceLT, Int.reduceLE, fcode_n] at h8); refine runs_skip ?_; refine seq_normal ?_; refine kp [2, 0] ?_; refine sr ?_; refine o1 (mv ?_)
      refine oc (ck ca40 rfl rfl (token_spec s (nextR s ⟨p, none⟩).2.p (fcode (nextR s ⟨p, none⟩).2.f) (fat (nextR s ⟨p, none⟩).2.f) hs hn1.2) [0] rfl (boc .nil) (fir .nil) ?_); refine o1 (mv ?_); refine o1 (ex2 ?_); refine o1 (ex2 ?_)
      refine o1 (ex2 ?_); refine o1 (asg ?_); refine o1 (asg ?_); refine o1 (asg ?_); refine nx ?_; refine kp [7, 6, 2, 0] ?_; refine sr ?_; refine o1 (asg ?_); refine nx ?_; refine runs_seq ?_; refine sr ?_; refine o1 (asg ?_); refine nx ?_
      refine runs_block ?_
      apply runs_loop_c (ι := Nat) (fun i => [(10, int i), (9, int (kindTo (tokR s (nextR s ⟨p, none⟩).2.p).1 i))]) [7, 6, 2, 0] (fun i => 1 ≤ i ∧ i ≤ 7) (fun i => 7 - i) (1)
      case hk => exact rfl
      case hI =>
        exact ⟨Nat.le_refl _, by omega⟩
      case hm =>
        refine mo ?_ (sly (slx rfl (by exact Fit.of_eq (by unfold kindTo; rw [show (if kindT (tokR s (nextR s ⟨p, none⟩).2.p).1 < 1 then kindT (tokR s (nextR s ⟨p, none⟩).2.p).1 else 0) = 0 by split <;> omega]; rfl)) (sly (sly (sly (sly slz))))))
        repeat (first | exact boz | refine boc ?_)
      case h =>
        rintro i hinv
        try dsimp only at hinv
        refine kp [10, 9, 7, 6, 2, 0] ?_; refine runs_seq ?_; refine sr ?_; refine o1 (mv ?_); refine o1 (ldc ti77 ?_); refine o1 (le1 us77 ?_); refine o1 (ilt ?_); refine nx ?_; refine cd (fun h13 => ?_) (fun h13 => ?_)
        · (try simp only [nrm, Int.reduceEq, Int.reduceNe, Int.reduceLT, Int.reduceLE, fcode_n] at h13)
          refine runs_skip ?_; refine seq_normal ?_; refine runs_seq ?_; refine runs_block ?_; refine kp [10, 9, 7, 6, 2, 0] ?_; refine sr ?_; refine o1 (ldc ti77 ?_); refine o1 (mv ?_)
          refine o1 (ixs us77 te77 ?_ (he := by exact (str_at (show i < wordsT.length by omega)))); refine o1 (ldc ti9 ?_); refine o1 (mv ?_); refine o1 (seq1 ?_); refine nx ?_; refine cdf (fun h15 => ?_) (fun h15 => ?_)
          · (try simp only [nrm, Int.reduceEq, Int.reduceNe, Int.reduceLT, Int.reduceLE, fcode_n] at h15)
            refine runs_skip ?_; refine inb_normal ?_; refine seq_normal ?_; refine kp [10, 9, 7, 6, 2, 0] ?_; refine runs_region ?_; refine o1 (mv ?_); refine o1 (iad ?_); refine o1 (asg ?_); refine ops_nil ?_; refine seq_back ?_
            refine back_i (i + 1) rfl ?_ ?_
            · exact ⟨⟨by omega, by omega⟩, by omega⟩
            · refine mo ?_ (sly (slx rfl (by exact Fit.of_eq (by (first | rw [kindTo_yes hinv.1 (by omega) h15] | rw [kindTo_no hinv.1 (by omega) h15]); rfl)) (sly (sly (sly (sly slz))))))
              repeat (first | exact boz | refine boc ?_)
          (try simp only [nrm, Int.reduceEq, Int.reduceNe, Int.reduceLT, Int.reduceLE, fcode_n] at h15); refine kp [10, 7, 6, 2, 0] ?_; refine runs_region ?_; refine o1 (mv ?_); refine o1 (asg ?_); refine ops_nil ?_; refine inb_normal ?_
          refine seq_normal ?_; refine runs_region ?_; refine o1 (mv ?_); refine o1 (iad ?_); refine o1 (asg ?_); refine ops_nil ?_; refine seq_back ?_; refine back_i (i + 1) rfl ?_ ?_
          · exact ⟨⟨by omega, by omega⟩, by omega⟩
          · refine mo ?_ (sly (slx rfl (by exact Fit.of_eq (by (first | rw [kindTo_yes hinv.1 (by omega) h15] | rw [kindTo_no hinv.1 (by omega) h15]); rfl)) (sly (sly (sly (sly slz))))))
            repeat (first | exact boz | refine boc ?_)
        (try simp only [nrm, Int.reduceEq, Int.reduceNe, Int.reduceLT, Int.reduceLE, fcode_n] at h13); refine runs_exit ?_; refine seq_exit ?_; refine seq_exit ?_; refine inb_exit ?_; refine seq_normal ?_; refine runs_seq ?_; refine runs_seq ?_
        refine kp [9, 7, 2, 0] ?_; obtain rfl : i = 7 := by omega
        rw [kindTo_7]
        have hkl := kindT_le (tokR s (nextR s ⟨p, none⟩).2.p).1
        generalize hk : kindT (tokR s (nextR s ⟨p, none⟩).2.p).1 = k at hkl ⊢
        refine runs_region ?_; refine o1 (mv ?_); refine o1 (ieq ?_); refine nx ?_; refine cd (fun h17 => ?_) (fun h17 => ?_)
        · (try simp only [nrm, Int.reduceEq, Int.reduceNe, Int.reduceLT, Int.reduceLE, fcode_n] at h17)
          refine sr ?_; refine o1 (mv ?_); refine o1 (mv ?_); refine oc (ck ca41 rfl rfl (fail_spec s (tokR s (nextR s ⟨p, none⟩).2.p).2.1 (nextR s ⟨p, none⟩).2) [0] rfl (boc .nil) (fir (fir .nil)) ?_); refine nx ?_; refine kp [2] ?_; refine sr ?_
          refine o1 (bld ti29 ?_); refine oc (sto ti29 ?_); refine nx ?_; refine runs_ret ?_; refine seq_ret ?_; refine fin_ret ?_
          refine fin_odl ⟨_, _, rfl, (from_cell rfl rfl ti29 rfl rfl rfl rfl), rfl⟩ rfl (zeroT.d) (by repeat (first | exact .refl _ | exact .nil | refine .agg ?_ | refine .cons ?_ ?_)) ([0]) ([rdO s ((nextR s ⟨p, none⟩).2.fail (tokR s (nextR s ⟨p, none⟩).2.p).2.1)]) rfl rfl rfl ?_ ?_
          · repeat (first | exact boz | refine boc ?_)
          · rw [termR_kind h8 (by omega)]; exact ⟨rfl, rfl⟩
        (try simp only [nrm, Int.reduceEq, Int.reduceNe, Int.reduceLT, Int.reduceLE, fcode_n] at h17); refine runs_skip ?_; refine seq_normal ?_; refine sr ?_; refine o1 (mv ?_)
        refine oc (ck ca42 rfl rfl (next_spec s (nextR s ⟨p, none⟩).2 hs hn1.2) [0] rfl (boc .nil) (fir .nil) ?_); refine nx ?_; refine kp [9, 2, 0] ?_; refine sr ?_; refine o1 (mv ?_); refine o1 (bld ti29 ?_)
        refine oc (T := fun _ => False) (alc ti29 ?_ (hl := by simp only [List.length_cons, List.length_nil, Nat.reduceAdd]; rfl)); refine oc (sto ti29 ?_); refine nx ?_; refine runs_seq ?_; refine runs_nilrow 29 5 rfl ?_; refine runs_region ?_
        refine o1 (asg ?_); refine nx ?_; refine runs_seq ?_; refine sr ?_; refine o1 (mv ?_); refine nx ?_; refine kp [83, 12, 11, 2, 0] ?_
        apply runs_cut_o (ι := ByteArray × List Lvl × RS) (fun ⟨nm, L, r3⟩ => [(12, int (partsOf k))]) (fun ⟨nm, L, r3⟩ => [rdO s r3, .cells [.d (.v (.int .i64 0)), .d (.v (.int .i64 0)), .d (.v (.string .empty)), .d (.v (.slice none 0 0)), .d (.v (.slice none 0 0))] 29, .cells [.d (.v (.int .i64 k)), .d (.v (.int .i64 0)), .d (.v (.string nm)), .own 3 3 (lvls L), .d (.v (.slice none 0 0))] 29, .row 90 3, .nilrow 29 5]) [11, 2, 0] (fun ⟨nm, L, r3⟩ => headR s k (nextR s (nextR s ⟨p, none⟩).2).2 = (nm, L, r3))
        case hk => exact rfl
        case h1 =>
          refine runs_block ?_; refine sr ?_; refine o1 (ieq ?_); refine o1 (asg ?_); refine nx ?_; refine cd (fun h24 => ?_) (fun h24 => ?_)
          · (try simp only [nrm, Int.reduceEq, Int.reduceNe, Int.reduceLT, Int.reduceLE, fcode_n] at h24)
            refine runs_seq ?_; refine kp [11, 2, 0] ?_; obtain ⟨k1, s1, a1, hX⟩ := Lvl.case (levelR (s.size + 1) s (nextR s (nextR s ⟨p, none⟩).2).2).1; refine a_start ?_ (hm := by exact mixed); refine A1 0 rfl (fdb ti29 ⟨_, rfl, ?_⟩)
            refine A1 1 rfl (ldb ti26 ⟨_, rfl, ?_⟩); refine A1 2 rfl (mv ⟨_, rfl, ?_⟩)
            refine A2 3 rfl (op_callo ca44 rfl rfl rfl rfl (level_spec s hs (s.size + 1) (nextR s (nextR s ⟨p, none⟩).2).2 hn2.2 (by omega)) [0] (boc .nil) rfl rfl rfl rfl (fir .nil) (fun s ob' hq => ?_) (fun s ob' hq => ?_))
            rotate_left
            · first | exact hq.elim | cases hq.1
            obtain ⟨hq1, rfl⟩ := hq; rw [hX] at hq1; cases hq1; refine ⟨_, _, _, _, _, rfl, rfl, rfl, rfl, rfl, ?_⟩
            refine A2 (T := fun _ => False) 4 rfl (op_lit sl26 [.tmp 89] ti90 rfl rfl rfl rfl rfl rfl rfl (by decide) (by decide) (by decide) (by simp only [List.length_cons, List.length_nil, Nat.reduceAdd]; rfl) rfl ?_)
            refine A2 (T := fun _ => False) 5 rfl (op_append_nil sl26 rfl rfl rfl rfl rfl rfl (by simp only [List.length_cons, List.length_nil, Nat.reduceAdd]; rfl) rfl rfl (by decide) (by simp) (by first | decide | (simp only [maxLen, List.length_cons, List.length_nil, List.length_append, List.length_map]; omega) | omega) rfl rfl rfl ?_)
            refine A1 6 rfl (fdb ti29 ⟨_, rfl, ?_⟩); refine A2 7 rfl (sto ti26 ?_); refine a_end ?_; refine seq_normal ?_; refine kp [11, 2, 0] ?_; refine runs_region ?_; refine o1 (asg ?_); refine ops_nil ?_; refine inb_normal ?_; refine seq_back ?_
            refine back_c ((.empty, [Lvl.mk k1 s1 a1], (levelR (s.size + 1) s (nextR s (nextR s ⟨p, none⟩).2).2).2)) rfl ?_ ([0, 1, 2, 5, 3]) ?_
            · unfold headR; rw [if_pos (by omega), hX]
            · refine mo ?_ (slx rfl (by exact Fit.of_eq (by unfold partsOf; first | (rw [if_pos (by omega)]; rfl) | (rw [if_neg (by omega), if_pos (by omega)]; rfl) | (rw [if_neg (by omega), if_neg (by omega)]; rfl))) (sly (sly (sly slz))))
              repeat (first | exact boz | refine boc ?_ | refine bor ?_ | refine bonn ?_)
          (try simp only [nrm, Int.reduceEq, Int.reduceNe, Int.reduceLT, Int.reduceLE, fcode_n] at h24); refine sr ?_; refine o1 (ieq ?_); refine o1 (asg ?_); refine nx ?_; refine cdf (fun h27 => ?_) (fun h27 => ?_)
          · (try simp only [nrm, Int.reduceEq, Int.reduceNe, Int.reduceLT, Int.reduceLE, fcode_n] at h27)
            refine runs_seq ?_; refine kp [83, 12, 11, 2, 0] ?_; refine runs_nilrow 90 3 rfl ?_; refine runs_region ?_; refine o1 (ieq ?_); refine o1 (asg ?_); refine nx ?_; refine cdf (fun h32 => ?_) (fun h32 => ?_)
            · (try simp only [nrm, Int.reduceEq, Int.reduceNe, Int.reduceLT, Int.reduceLE, fcode_n] at h32)
              refine runs_skip ?_; refine inb_normal ?_; refine seq_back ?_; refine back_c ((.empty, [], (nextR s (nextR s ⟨p, none⟩).2).2)) rfl ?_ ([0, 1, 2, 4, 3]) ?_
              · unfold headR; rw [if_neg (by omega), if_neg (by omega)]
              · refine mo ?_ (slx rfl (by exact Fit.of_eq (by unfold partsOf; first | (rw [if_pos (by omega)]; rfl) | (rw [if_neg (by omega), if_pos (by omega)]; rfl) | (rw [if_neg (by omega), if_neg (by omega)]; rfl))) (sly (sly (sly slz))))
                repeat (first | exact boz | exact fiz | refine boc ?_ | refine bonn ?_ | refine bon ?_ | refine boe ?_ ?_ | refine fir ?_ | refine .cons (.nil rfl) ?_)
            (try simp only [nrm, Int.reduceEq, Int.reduceNe, Int.reduceLT, Int.reduceLE, fcode_n] at h32); refine kp [11, 2, 0] ?_; refine runs_region ?_; refine o1 (asg ?_); refine ops_nil ?_; refine inb_normal ?_; refine seq_back ?_
            refine back_c ((.empty, [], (nextR s (nextR s ⟨p, none⟩).2).2)) rfl ?_ ([0, 1, 2, 4, 3]) ?_
            · unfold headR; rw [if_neg (by omega), if_neg (by omega)]
            · refine mo ?_ (slx rfl (by exact Fit.of_eq (by unfold partsOf; first | (rw [if_pos (by omega)]; rfl) | (rw [if_neg (by omega), if_pos (by omega)]; rfl) | (rw [if_neg (by omega), if_neg (by omega)]; rfl))) (sly (sly (sly slz))))
              repeat (first | exact boz | exact fiz | refine boc ?_ | refine bonn ?_ | refine bon ?_ | refine boe ?_ ?_ | refine fir ?_ | refine .cons (.nil rfl) ?_)
          (try simp only [nrm, Int.reduceEq, Int.reduceNe, Int.reduceLT, Int.reduceLE, fcode_n] at h27); refine runs_seq ?_; refine kp [11, 2, 0] ?_
          have hnm := nameR_le (s := s) (r := (nextR s (nextR s ⟨p, none⟩).2).2) hn2.2
          refine runs_region ?_; refine o1 (mv ?_); refine oc (ck ca45 rfl rfl (name_spec s (nextR s (nextR s ⟨p, none⟩).2).2 hs hn2.2) [0] rfl (boc .nil) (fir .nil) ?_); refine o1 (fdb ti29 ?_); refine oc (sto ti9 ?_); refine nx ?_; refine sr ?_
          refine o1 (asg ?_); refine nx ?_; refine runs_block ?_; refine kp [12, 11, 2, 0] ?_; refine runs_nilrow 90 3 rfl ?_
          apply runs_loop_o (ι := Nat × List Lvl × RS) (fun ⟨m, acc, r'⟩ => []) (fun ⟨m, acc, r'⟩ => [rdO s r', .cells [.d (.v (.int .i64 0)), .d (.v (.int .i64 0)), .d (.v (.string .empty)), .d (.v (.slice none 0 0)), .d (.v (.slice none 0 0))] 29, .cells [.d (.v (.int .i64 k)), .d (.v (.int .i64 0)), .d (.v (.string (nameR s (nextR s (nextR s ⟨p, none⟩).2).2).1)), .own 4 3 (lvls acc), .d (.v (.slice none 0 0))] 29, .nilrow 29 5, .row 90 3]) [12, 11, 2, 0] (fun ⟨m, acc, r'⟩ => r'.p ≤ s.size ∧ acc.length + m = s.size + 2 ∧ (r'.f = none → s.size - r'.p < m) ∧ levelsR (s.size + 2) s (nameR s (nextR s (nextR s ⟨p, none⟩).2).2).2 = (acc ++ (levelsR m s r').1, (levelsR m s r').2)) (fun ⟨m, acc, r'⟩ => m) ((s.size + 2, [], (nameR s (nextR s (nextR s ⟨p, none⟩).2).2).2)) ([0, 1, 2, 3, 4])
          case hk => exact rfl
          case hI =>
            exact ⟨hnm.2, by simp, fun _ => by omega, rfl⟩
          case hm =>
            refine mo ?_ (sly (sly (sly (sly slz))))
            repeat (first | exact boz | exact fiz | refine boc ?_ | refine bonn ?_ | refine bon ?_ | refine boe ?_ ?_ | refine fir ?_ | refine .cons (.nil rfl) ?_)
          case h =>
            rintro ⟨m, acc, r'⟩ hinv
            try dsimp only at hinv
            refine kp [12, 11, 2, 0] ?_; refine runs_seq ?_; refine sr ?_; refine o1 (mv ?_); refine o1 (ncb ?_); refine o1 (fdb ti54 ?_); refine o1 (fdb ti31 ?_); refine o1 (ldb ti3 ?_); refine o1 (ieq ?_); refine o1 (mv ?_)
            apply ops_and (yt := 107) (d := 104) 3 rfl rfl rfl (.none rfl) rfl rfl
            case h1 =>
              intro hb13 hK
              have hc := hb13; (try simp only [nrm, Int.reduceEq, Int.reduceNe, Int.reduceLT, Int.reduceLE, fcode_n] at hc)
              refine gye ?_ (hbw := by exact hb13); refine o1 (mv ?_); refine gye ?_ (hbw := by exact hb13); refine oc (ck ca46 rfl rfl (peek_spec s r' hs hinv.1) [0] rfl (boc .nil) (fir .nil) ?_); refine gye ?_ (hbw := by exact hb13); refine o1 (sne ?_)
              exact hK [_, _, _] rfl rfl
            case h2 =>
              intro hb13 hK; refine gno ?_ (hbw := by exact hb13); refine gno ?_ (hbw := by exact hb13); refine gno ?_ (hbw := by exact hb13); exact hK [_, _, _] rfl
            refine nx ?_; refine cdf (fun h30 => ?_) (fun h30 => ?_)
            · (try simp only [nrm, Int.reduceEq, Int.reduceNe, Int.reduceLT, Int.reduceLE, fcode_n] at h30)
              refine runs_exit ?_; refine seq_exit ?_; refine seq_exit ?_; refine inb_exit ?_; refine inb_normal ?_; refine seq_back ?_; refine back_c (((nameR s (nextR s (nextR s ⟨p, none⟩).2).2).1, acc, r')) rfl ?_ ([0, 1, 2, 4, 3]) ?_
              · unfold headR; rw [if_neg (by omega), if_pos (by omega), hinv.2.2.2, levels_stop (by rintro ⟨ha, hb⟩; rcases h30 with h | h; exact h ha; exact hb h), List.append_nil]
              · refine mo ?_ (slx rfl (by exact Fit.of_eq (by unfold partsOf; first | (rw [if_pos (by omega)]; rfl) | (rw [if_neg (by omega), if_pos (by omega)]; rfl) | (rw [if_neg (by omega), if_neg (by omega)]; rfl))) (sly (sly (sly slz))))
                repeat (first | exact boz | refine boc ?_ | refine bor ?_ | refine bonn ?_)
            (try simp only [nrm, Int.reduceEq, Int.reduceNe, Int.reduceLT, Int.reduceLE, fcode_n] at h30); refine runs_skip ?_; refine seq_normal ?_; refine runs_block ?_; refine kp [12, 11, 2, 0] ?_
            obtain ⟨k1, s1, a1, hX⟩ := Lvl.case (levelR (s.size + 1) s r').1
            have hm1 := hinv.2.2.1 (fcode_none.1 h30.1)
            have hln := lvls_len acc
            have hlast : lvls acc ++ [[.v (.int .i64 k1), .v (.string s1), .sl 3 (lvls a1)]] = lvls (acc ++ [Lvl.mk k1 s1 a1]) := by rw [lvls_app]; rfl
            refine a_start ?_ (hm := by exact mixed); refine A1 0 rfl (fdb ti29 ⟨_, rfl, ?_⟩); refine A1 1 rfl (ldb ti26 ⟨_, rfl, ?_⟩); refine A1 2 rfl (mv ⟨_, rfl, ?_⟩)
            refine A2 3 rfl (op_callo ca44 rfl rfl rfl rfl (level_spec s hs (s.size + 1) r' hinv.1 (by omega)) [0] (boc .nil) rfl rfl rfl rfl (fir .nil) (fun s ob' hq => ?_) (fun s ob' hq => ?_))
            rotate_left
            · first | exact hq.elim | cases hq.1
            obtain ⟨hq1, rfl⟩ := hq; rw [hX] at hq1; cases hq1; refine ⟨_, _, _, _, _, rfl, rfl, rfl, rfl, rfl, ?_⟩
            refine A2 (T := fun _ => False) 4 rfl (op_lit sl26 [.tmp 112] ti90 rfl rfl rfl rfl rfl rfl rfl (by decide) (by decide) (by decide) (by simp only [List.length_cons, List.length_nil, Nat.reduceAdd]; rfl) rfl ?_)
            refine A2 5 rfl (op_append sl26 rfl rfl rfl rfl rfl rfl rfl (.inl rfl) (by decide) (by simp) (by first | decide | (simp only [maxLen, List.length_cons, List.length_nil, List.length_append, List.length_map]; omega) | omega) rfl rfl rfl ?_)
            refine A1 6 rfl (fdb ti29 ⟨_, rfl, ?_⟩); refine A2 7 rfl (sto ti26 ?_); refine a_end ?_; refine inb_normal ?_; refine seq_back ?_
            rw [hlast]
            refine back_c ((m - 1, acc ++ [Lvl.mk k1 s1 a1], (levelR (s.size + 1) s r').2)) rfl ?_ ([0, 1, 2, 3, 4]) ?_
            · exact ⟨levels_step hinv h30 hX, show m - 1 < m by omega⟩
            · refine mo ?_ (sly (sly (sly (sly slz))))
              repeat (first | exact boz | refine boc ?_ | refine bor ?_ | refine bonn ?_)
        case h2 =>
          rintro ⟨nm, L, r3⟩ hcut
          try dsimp only at hcut
          refine kp [12, 11, 2, 0] ?_; refine runs_seq ?_; refine runs_seq ?_
          have hh3 := headR_le (s := s) k (r := (nextR s (nextR s ⟨p, none⟩).2).2) hn2.2
          rw [hcut] at hh3
          dsimp only at hh3
          have hpl := partsOf_le k
          refine runs_region ?_; refine o1 (asg ?_); refine nx ?_; refine runs_block ?_
          apply runs_loop_o (ι := Nat) (fun i => [(13, int i)]) (fun i => [rdO s (partsR (termR n s) i r3).2, .cells [.d (.v (.int .i64 0)), .d (.v (.int .i64 0)), .d (.v (.string .empty)), .d (.v (.slice none 0 0)), .d (.v (.slice none 0 0))] 29, .cells [.d (.v (.int .i64 k)), .d (.v (.int .i64 0)), .d (.v (.string nm)), .own 3 3 (lvls L), .own 4 5 (trms (partsR (termR n s) i r3).1)] 29, .row 90 3, .row 29 5]) [12, 11, 2, 0] (fun i => i ≤ partsOf k) (fun i => partsOf k - i) (0) ([0, 1, 2, 3, 4])
          case hk => exact rfl
          case hI =>
            exact Nat.zero_le _
          case hm =>
            refine mo ?_ (sly (sly (sly (sly (sly slz)))))
            repeat (first | exact boz | exact fiz | refine boc ?_ | refine bor ?_ | refine bon ?_ | refine boe ?_ ?_ | refine fir ?_ | refine .cons (.nil rfl) ?_)
          case h =>
            rintro i hinv
            try dsimp only at hinv
            refine kp [13, 12, 11, 2, 0] ?_; refine runs_seq ?_; refine sr ?_; refine o1 (mv ?_); refine o1 (mv ?_); refine o1 (ilt ?_); refine nx ?_; refine cdf (fun h35 => ?_) (fun h35 => ?_)
            · (try simp only [nrm, Int.reduceEq, Int.reduceNe, Int.reduceLT, Int.reduceLE, fcode_n] at h35)
              refine runs_exit ?_; refine seq_exit ?_; refine seq_exit ?_; refine inb_exit ?_; refine seq_normal ?_; refine kp [11, 2, 0] ?_; refine sr ?_; refine o1 (mv ?_)
              refine oc (ck ca47 rfl rfl (take_spec s ⟨#[41]⟩ (partsR (termR n s) i r3).2 hs (partsR_le (s := s) (f := termR n s) (fun r hr => termR_le n r hr) i hh3.2).2) [0] rfl (boc .nil) (fir (fir .nil)) ?_); refine nx ?_; refine sr ?_
              refine o1 (ldb ti29 ?_); refine oc (sto ti29 ?_); refine nx ?_; refine runs_ret ?_; refine fin_ret ?_; obtain rfl : i = partsOf k := by omega
              refine fin_odl ⟨_, _, rfl, (from_cell rfl rfl ti29 rfl rfl rfl rfl), rfl⟩ rfl ((Trm.mk k 0 nm L (partsR (termR n s) (partsOf k) r3).1).d) (by exact .refl _) ([0]) ([rdO s (takeR s ⟨#[41]⟩ (partsR (termR n s) (partsOf k) r3).2)]) rfl rfl rfl ?_ ?_
              · repeat (first | exact boz | refine boc ?_)
              · rw [termR_node h8 hk (by omega) hcut]; exact ⟨rfl, rfl⟩
            (try simp only [nrm, Int.reduceEq, Int.reduceNe, Int.reduceLT, Int.reduceLE, fcode_n] at h35); refine runs_skip ?_; refine seq_normal ?_; refine runs_seq ?_; refine runs_block ?_
            have hpp := partsR_le (s := s) (f := termR n s) (fun r hr => termR_le n r hr) i hh3.2
            obtain ⟨k2, n2, s2, l2, a2', hX⟩ := Trm.case (termR n s (partsR (termR n s) i r3).2).1
            have hln : (trms (partsR (termR n s) i r3).1).length = i := by rw [trms_len, partsR_len]
            have hlast : trms (partsR (termR n s) i r3).1 ++ [[.v (.int .i64 k2), .v (.int .i64 n2), .v (.string s2), .sl 3 (lvls l2), .sl 5 (trms a2')]] = trms (partsR (termR n s) (i + 1) r3).1 := by simp only [partsR]; rw [hX, trms_app]; rfl
            have hpr : p < (nextR s ⟨p, none⟩).2.p := by rw [nextR_ok (by rw [h8]; decide), h8]; simp only; have : (ByteArray.mk #[40]).size = 1 := rfl; omega
            refine a_start ?_ (hm := by exact mixed); refine A1 0 rfl (fdb ti29 ⟨_, rfl, ?_⟩); refine A1 1 rfl (ldb ti27 ⟨_, rfl, ?_⟩); refine A1 2 rfl (mv ⟨_, rfl, ?_⟩)
            refine A2 3 rfl (op_callo ca18 rfl rfl rfl rfl (ih (partsR (termR n s) i r3).2 hpp.2 (by omega)) [0] (boc .nil) rfl rfl rfl rfl (fir .nil) (fun s ob' hq => ?_) (fun s ob' hq => ?_))
            rotate_left
            · first | exact hq.elim | cases hq.1
            obtain ⟨hq1, rfl⟩ := hq; rw [hX] at hq1; cases hq1; refine ⟨_, _, _, _, _, rfl, rfl, rfl, rfl, rfl, ?_⟩
            refine A2 (T := fun _ => False) 4 rfl (op_lit sl27 [.tmp 126] ti29 rfl rfl rfl rfl rfl rfl rfl (by decide) (by decide) (by decide) (by simp only [List.length_cons, List.length_nil, Nat.reduceAdd]; rfl) rfl ?_)
            refine A2 5 rfl (op_append sl27 rfl rfl rfl rfl rfl rfl rfl (.inl rfl) (by decide) (by simp) (by first | decide | (simp only [maxLen, List.length_cons, List.length_nil, List.length_append, List.length_map]; omega) | omega) rfl rfl rfl ?_)
            refine A1 6 rfl (fdb ti29 ⟨_, rfl, ?_⟩); refine A2 7 rfl (sto ti27 ?_); refine a_end ?_; refine inb_normal ?_; refine seq_normal ?_; refine kp [13, 12, 11, 2, 0] ?_; refine runs_region ?_; refine o1 (mv ?_); refine o1 (iad ?_)
            refine o1 (asg ?_); refine ops_nil ?_; refine seq_back ?_
            rw [hlast]
            refine back_c (i + 1) rfl ?_ ([0, 1, 2, 3, 4]) ?_
            · exact ⟨by omega, by omega⟩
            · refine mo ?_ (sly (sly (sly (sly (sly slz)))))
              repeat (first | exact boz | refine boc ?_ | refine bor ?_)
end Go.Proofs.YtneaancanfpdhaaDoor
namespace Go.Proofs.YtneaancanfpdhaaDoor
open Go Go.Vd Go.RowKit
attribute [local irreducible] Runs OpsR OpR FloatR AnyR AnyO
variable {g gl : Nat → List D}
theorem ne_of_size {s : ByteArray} (h : 0 < s.size) : s ≠ .empty := by rintro rfl; exact absurd h (by decide)

mutual
/-- the bytes of names, and ten for each part -/
def wtL : Lvl → Nat
  | .mk _ s args => 10 + s.size + wtLs args
def wtLs : List Lvl → Nat
  | [] => 0
  | l :: r => wtL l + wtLs r
end
theorem wtL_lev : ∀ x : Lev, wtL x.toLvl = x.weight
  | .zero => by simp [Lev.toLvl, wtL, wtLs, Lev.weight]
  | .succ a => by simp [Lev.toLvl, wtL, wtLs, Lev.weight, wtL_lev a]
  | .max a b => by simp [Lev.toLvl, wtL, wtLs, Lev.weight, wtL_lev a, wtL_lev b]; omega
  | .imax a b => by simp [Lev.toLvl, wtL, wtLs, Lev.weight, wtL_lev a, wtL_lev b]; omega
  | .param s => by simp [Lev.toLvl, wtL, wtLs, Lev.weight]
theorem wtLs_app (l m : List Lvl) : wtLs (l ++ m) = wtLs l + wtLs m := by
  induction l with
  | nil => simp [wtLs]
  | cons a r ih => simp [wtLs, ih]; omega
theorem wtL_get : ∀ {ls : List Lvl} {i : Nat} {l : Lvl}, ls[i]? = some l → wtL l ≤ wtLs ls
  | [], i, l, h => by simp at h
  | a :: r, 0, l, h => by simp at h; subst h; simp [wtLs]
  | a :: r, i + 1, l, h => by simp at h; have := wtL_get h; simp [wtLs]; omega
mutual
def wtT : Trm → Nat
  | .mk _ _ s ls args => 20 + s.size + wtLs ls + ls.length + wtTs args
def wtTs : List Trm → Nat
  | [] => 0
  | t :: r => 1 + wtT t + wtTs r
end
theorem wtTs_app (l m : List Trm) : wtTs (l ++ m) = wtTs l + wtTs m := by
  induction l with
  | nil => simp [wtTs]
  | cons a r ih => simp [wtTs, ih]; omega
theorem wtT_get : ∀ {ls : List Trm} {i : Nat} {l : Trm}, ls[i]? = some l → wtT l + 1 ≤ wtTs ls
  | [], i, l, h => by simp at h
  | a :: r, 0, l, h => by simp at h; subst h; simp [wtTs]; omega
  | a :: r, i + 1, l, h => by simp at h; have := wtT_get h; simp [wtTs]; omega
/-- levels that can be printed -/
def okLs (ls : List Lvl) : Prop := ∀ l ∈ ls, ∃ x : Lev, l = x.toLvl ∧ fitP x.toLvl
mutual
/-- terms that can be printed -/
def okT : Trm → Prop
  | .mk k n _ ls args => 0 ≤ k ∧ k ≤ 6 ∧ 0 ≤ n ∧ n ≤ 99999 ∧ okLs ls ∧ okTs args
def okTs : List Trm → Prop
  | [] => True
  | t :: r => okT t ∧ okTs r
end
theorem okTs_app {l : List Trm} {t : Trm} (h1 : okTs l) (h2 : okT t) : okTs (l ++ [t]) := by
  induction l with
  | nil => exact ⟨h2, trivial⟩
  | cons a r ih => exact ⟨h1.1, ih h1.2⟩
theorem okT_get : ∀ {ls : List Trm} {i : Nat} {l : Trm}, okTs ls → ls[i]? = some l → okT l
  | [], i, l, _, h => by simp at h
  | a :: r, 0, l, ho, h => by simp at h; subst h; exact ho.1
  | a :: r, i + 1, l, ho, h => okT_get ho.2 (by simpa using h)
theorem okLs_get {ls : List Lvl} {i : Nat} {l : Lvl} (ho : okLs ls) (h : ls[i]? = some l) : ∃ x : Lev, l = x.toLvl ∧ fitP x.toLvl := ho _ (List.mem_of_getElem? h)

def wordT (k : Int) : ByteArray := wordsT.getD k.toNat .empty
theorem wordT_size (k : Int) : (wordT k).size ≤ 5 := by
  unfold wordT
  by_cases h : k.toNat < wordsT.length
  · have h7 : wordsT.length = 7 := rfl
    have : k.toNat = 0 ∨ k.toNat = 1 ∨ k.toNat = 2 ∨ k.toNat = 3 ∨ k.toNat = 4 ∨ k.toNat = 5 ∨ k.toNat = 6 := by omega
    rcases this with h | h | h | h | h | h | h <;> rw [h] <;> decide
  · rw [List.getD_eq_getElem?_getD, List.getElem?_eq_none (by omega)]; decide
mutual
/-- the text of a term -/
def wrT : Trm → ByteArray
  | .mk k n s ls args => if k = 0 then ⟨#[35]⟩ ++ digR n.toNat else ⟨#[40]⟩ ++ wordT k ++ (if k = 2 then ⟨#[32]⟩ ++ s else .empty) ++ wrL ls ++ wrTs args ++ ⟨#[41]⟩
def wrTs : List Trm → ByteArray
  | [] => .empty
  | t :: r => ⟨#[32]⟩ ++ wrT t ++ wrTs r
end
theorem wrTs_append (l m : List Trm) : wrTs (l ++ m) = wrTs l ++ wrTs m := by
  induction l with
  | nil => simp [wrTs]
  | cons a r ih => simp only [List.cons_append, wrTs, ih, ByteArray.append_assoc]
theorem wrTs_take {l : List Trm} {i : Nat} {a : Trm} (h : l[i]? = some a) : wrTs (l.take (i + 1)) = wrTs (l.take i) ++ ⟨#[32]⟩ ++ wrT a := by
  rw [List.take_add_one, h]; simp [wrTs_append, wrTs, ByteArray.append_assoc]
theorem wrTs_take_le (l : List Trm) (i : Nat) : (wrTs (l.take i)).size ≤ (wrTs l).size := by
  have : wrTs l = wrTs (l.take i) ++ wrTs (l.drop i) := by rw [← wrTs_append, List.take_append_drop]
  rw [this, ByteArray.size_append]; omega
theorem wrT_var {n : Int} {s : ByteArray} {ls : List Lvl} {args : List Trm} : wrT (.mk 0 n s ls args) = ⟨#[35]⟩ ++ digR n.toNat := by simp [wrT]
theorem wrT_const {n : Int} {s : ByteArray} {ls : List Lvl} {args : List Trm} : wrT (.mk 2 n s ls args) = ⟨#[40]⟩ ++ wordT 2 ++ (⟨#[32]⟩ ++ s) ++ wrL ls ++ wrTs args ++ ⟨#[41]⟩ := by simp [wrT]
theorem wrT_else {k n : Int} {s : ByteArray} {ls : List Lvl} {args : List Trm} (h0 : ¬ k = 0) (h2 : ¬ k = 2) : wrT (.mk k n s ls args) = ⟨#[40]⟩ ++ wordT k ++ wrL ls ++ wrTs args ++ ⟨#[41]⟩ := by simp [wrT, h0, h2]
theorem wrT_ne (t : Trm) : wrT t ≠ .empty := by
  obtain ⟨k, n, s, ls, args⟩ := t
  intro e
  have := congrArg ByteArray.size e
  simp only [wrT] at this
  split at this <;> simp only [ByteArray.size_append, size_mk, List.size_toArray, List.length_cons, List.length_nil, ByteArray.size_empty] at this <;> omega
theorem digR_size5 {n : Nat} (h : n ≤ 99999) : (digR n).size ≤ 5 := by
  have key : ∀ m : Nat, (ByteArray.mk #[UInt8.ofNat (48 + m % 10)]).size = 1 := fun _ => rfl
  by_cases h1 : n < 10
  · rw [digR_one h1, key]; omega
  rw [digR_more h1, ByteArray.size_append, key]
  by_cases h2 : n / 10 < 10
  · rw [digR_one h2, key]; omega
  rw [digR_more h2, ByteArray.size_append, key]
  by_cases h3 : n / 10 / 10 < 10
  · rw [digR_one h3, key]; omega
  rw [digR_more h3, ByteArray.size_append, key]
  by_cases h4 : n / 10 / 10 / 10 < 10
  · rw [digR_one h4, key]; omega
  rw [digR_more h4, ByteArray.size_append, key, digR_one (by omega), key]; omega
theorem wrL_size {ls : List Lvl} (h : okLs ls) : (wrL ls).size ≤ wtLs ls + ls.length := by
  induction ls with
  | nil => simp [wrL]
  | cons l r ih =>
    obtain ⟨x, rfl, _⟩ := h l (by simp)
    have h1 := ih fun m hm => h m (by simp [hm])
    have h2 := x.print_size
    simp only [wrL, wtLs, ByteArray.size_append, size_mk, List.size_toArray, List.length_cons, List.length_nil, wr_lev, wtL_lev] at *
    omega
mutual
theorem wrT_size : ∀ t : Trm, okT t → (wrT t).size ≤ wtT t
  | .mk k n s ls args, h => by
    obtain ⟨h0, h6, hn0, hn, hl, ha⟩ := h
    have h1 := wrTs_size args ha
    have h2 := wrL_size hl
    have h3 := wordT_size k
    have h4 := digR_size5 (n := n.toNat) (by omega)
    simp only [wrT, wtT]
    split
    · simp only [ByteArray.size_append, size_mk, List.size_toArray, List.length_cons, List.length_nil]; omega
    · split <;> simp only [ByteArray.size_append, size_mk, List.size_toArray, List.length_cons, List.length_nil, ByteArray.size_empty] <;> omega
theorem wrTs_size : ∀ l : List Trm, okTs l → (wrTs l).size ≤ wtTs l
  | [], _ => by simp [wrTs]
  | t :: r, h => by
    have h1 := wrT_size t h.1
    have h2 := wrTs_size r h.2
    simp only [wrTs, wtTs, ByteArray.size_append, size_mk, List.size_toArray, List.length_cons, List.length_nil]; omega
end

/-- what stands ahead of a term's levels -/
def hdT (k : Int) (s : ByteArray) : ByteArray := if k = 2 then ⟨#[40]⟩ ++ wordT k ++ ⟨#[32]⟩ ++ s else ⟨#[40]⟩ ++ wordT k
theorem wrT_hd {k n : Int} {s : ByteArray} {ls : List Lvl} {args : List Trm} (h0 : ¬ k = 0) : wrT (.mk k n s ls args) = hdT k s ++ wrL ls ++ wrTs args ++ ⟨#[41]⟩ := by
  unfold hdT
  split
  · rename_i h; subst h; rw [wrT_const]; simp only [ByteArray.append_assoc]
  · rename_i h; rw [wrT_else h0 h]
theorem wtLs_len : ∀ ls : List Lvl, ls.length ≤ wtLs ls
  | [] => by simp
  | l :: r => by have := wtLs_len r; cases l; simp [wtLs, wtL]; omega
theorem wtTs_len : ∀ ls : List Trm, ls.length ≤ wtTs ls
  | [] => by simp
  | l :: r => by have := wtTs_len r; simp [wtTs]; omega

/-! what was read -/
theorem level_ok {s : ByteArray} (n : Nat) {r : RS} (hp : r.p ≤ s.size) : okLs [(levelR n s r).1] ∧ wtL (levelR n s r).1 + 20 * r.p ≤ 10 + 20 * (levelR n s r).2.p := by
  obtain ⟨x, hx, hf, hw⟩ := levelR_lev n hp
  rw [hx]
  refine ⟨fun l hl => ?_, by rw [wtL_lev]; omega⟩
  simp only [List.mem_singleton] at hl
  exact ⟨x, hl, hf⟩
theorem okLs_cons {l : Lvl} {r : List Lvl} (h1 : okLs [l]) (h2 : okLs r) : okLs (l :: r) := fun m hm => by
  rcases List.mem_cons.1 hm with rfl | hm
  · exact h1 _ (by simp)
  · exact h2 _ hm
theorem levels_ok {s : ByteArray} : ∀ (n : Nat) {r : RS}, r.p ≤ s.size → okLs (levelsR n s r).1 ∧ wtLs (levelsR n s r).1 + (levelsR n s r).1.length + 40 * r.p ≤ 11 + 40 * (levelsR n s r).2.p := by
  intro n
  induction n with
  | zero => intro r hp; exact ⟨fun l hl => by simp [levelsR] at hl, by simp only [levelsR, wtLs, List.length_nil]; omega⟩
  | succ n ih =>
    intro r hp
    simp only [levelsR]
    split
    · rename_i hc
      have h1 := levelR_le (s := s) (s.size + 1) hp
      have h2 := level_ok (s := s) (s.size + 1) hp
      have h3 := ih h1.2
      refine ⟨okLs_cons h2.1 h3.1, ?_⟩
      simp only [wtLs, List.length_cons]
      cases hf : (levelR (s.size + 1) s r).2.f with
      | none =>
        have h4 := level_prog hp hc.1 hf
        omega
      | some a =>
        have h5 : levelsR n s (levelR (s.size + 1) s r).2 = ([], (levelR (s.size + 1) s r).2) := by
          cases n with
          | zero => rfl
          | succ n => simp only [levelsR]; rw [if_neg (by rintro ⟨e, _⟩; rw [hf] at e; cases e)]
        rw [h5]
        simp only [wtLs, List.length_nil]
        omega
    · exact ⟨fun l hl => by simp at hl, by simp only [wtLs, List.length_nil]; omega⟩
theorem nameR_size {s : ByteArray} {r : RS} (hp : r.p ≤ s.size) : (nameR s r).1.size + r.p ≤ (nameR s r).2.p := by
  have hat := tokR_at (s := s) hp
  obtain ⟨p, f⟩ := r
  simp only at hp hat
  unfold nameR
  dsimp only
  split
  · rw [RS.fail_p]; simp
  · cases f with
    | none => dsimp only; omega
    | some a => simp
theorem head_ok {s : ByteArray} (k : Nat) {r : RS} (hp : r.p ≤ s.size) : okLs (headR s k r).2.1 ∧ (headR s k r).1.size + wtLs (headR s k r).2.1 + (headR s k r).2.1.length + 40 * r.p ≤ 11 + 40 * (headR s k r).2.2.p := by
  unfold headR
  split
  · have h1 := levelR_le (s := s) (s.size + 1) hp
    have h2 := level_ok (s := s) (s.size + 1) hp
    refine ⟨h2.1, ?_⟩
    simp only [wtLs, List.length_cons, List.length_nil, ByteArray.size_empty]; omega
  · split
    · have h1 := nameR_le (s := s) hp
      have h2 := levels_ok (s.size + 2) h1.2
      have h3 := nameR_size (s := s) hp
      refine ⟨h2.1, ?_⟩
      simp only; omega
    · exact ⟨fun l hl => by simp at hl, by simp only [wtLs, List.length_nil, ByteArray.size_empty]; omega⟩
theorem next_ge {s : ByteArray} {p : Nat} (hp : p ≤ s.size) (h : (tokR s p).1 ≠ .empty) : p + 1 ≤ (nextR s ⟨p, none⟩).2.p := by
  have hat := tokR_at (s := s) hp
  rw [nextR_ok h]; have := size_pos h; simp only; omega
/-- a number that was read -/
theorem num_ok {s : ByteArray} {p : Nat} (hp : p ≤ s.size) (h : headT (tokR s p).1) (h1 : (tokR s p).1 ≠ ⟨#[40]⟩) :
    0 ≤ numR ((tokR s p).1.extract 1 (tokR s p).1.size) ((tokR s p).1.size - 1) ∧ numR ((tokR s p).1.extract 1 (tokR s p).1.size) ((tokR s p).1.size - 1) ≤ 99999 := by
  have h2 : byteAt (tokR s p).1 0 = 35 := by rcases h.2 with h | h; exact h; exact absurd h h1
  have h3 := tok_hash hp h.1 h2
  exact numR_bound h3.2.2 _ (by rw [ByteArray.size_extract]; omega) (by omega)
theorem term_ok {s : ByteArray} : ∀ (n : Nat) (r : RS), r.p ≤ s.size → okT (termR n s r).1 ∧ wtT (termR n s r).1 + 100 * r.p ≤ 20 + 100 * (termR n s r).2.p := by
  have hz : wtT zeroT = 20 := rfl
  have hzo : okT zeroT := ⟨by decide, by decide, by decide, by decide, fun l hl => (by cases hl), trivial⟩
  intro n
  induction n with
  | zero => intro r hp; exact ⟨hzo, by simp only [termR, hz]; omega⟩
  | succ n ih =>
    have hpart : ∀ (i : Nat) {r : RS}, r.p ≤ s.size → okTs (partsR (termR n s) i r).1 ∧ wtTs (partsR (termR n s) i r).1 + 100 * r.p ≤ 21 * i + 100 * (partsR (termR n s) i r).2.p := by
      intro i
      induction i with
      | zero => intro r hp; exact ⟨trivial, by simp only [partsR, wtTs]; omega⟩
      | succ i ihi =>
        intro r hp
        have h1 := ihi hp
        have h2 := partsR_le (s := s) (f := termR n s) (fun r hr => termR_le n r hr) i hp
        have h3 := ih _ h2.2
        simp only [partsR, wtTs_app, wtTs]
        exact ⟨okTs_app h1.1 h3.1, by omega⟩
    intro r hp
    obtain ⟨p, f⟩ := r
    simp only at hp
    cases f with
    | some a => exact ⟨hzo, by simp only [termR, hz]; omega⟩
    | none =>
      have h1 := nextR_le (s := s) (r := ⟨p, none⟩) hp
      have h2 := nextR_le (s := s) (r := (nextR s ⟨p, none⟩).2) h1.2
      simp only at h1
      by_cases c1 : headT (tokR s p).1
      · by_cases c2 : (tokR s p).1 = ⟨#[40]⟩
        · rcases hk : kindT (tokR s (nextR s ⟨p, none⟩).2.p).1 with _ | k
          · rw [termR_kind c2 hk]
            exact ⟨hzo, by simp only [hz, RS.fail_p]; omega⟩
          · rcases hh : headR s (k + 1) (nextR s (nextR s ⟨p, none⟩).2).2 with ⟨nm, L, r3⟩
            have h3 := headR_le (s := s) (k + 1) h2.2
            have h4 := head_ok (s := s) (k + 1) h2.2
            rw [hh] at h3 h4
            simp only at h3 h4
            have h5 := hpart (partsOf (k + 1)) h3.2
            have h6 := partsR_le (s := s) (f := termR n s) (fun r hr => termR_le n r hr) (partsOf (k + 1)) h3.2
            have h7 := takeR_le (s := s) (w := ⟨#[41]⟩) h6.2
            have h8 := partsOf_le (k + 1)
            have h9 := kindT_le (tokR s (nextR s ⟨p, none⟩).2.p).1
            have h10 := next_ge hp (by rw [c2]; decide)
            rw [termR_node c2 hk (by omega) hh]
            refine ⟨⟨by omega, by omega, by decide, by decide, h4.1, h5.1⟩, ?_⟩
            simp only [wtT]
            omega
        · rw [termR_num c1 c2]
          have h3 := num_ok hp c1 c2
          refine ⟨⟨by decide, by decide, h3.1, h3.2, fun l hl => (by cases hl), trivial⟩, ?_⟩
          simp only [wtT, wtLs, wtTs, List.length_nil, ByteArray.size_empty]; omega
      · rw [termR_bad c1]
        exact ⟨hzo, by simp only [hz, RS.fail_p]; omega⟩
end Go.Proofs.YtneaancanfpdhaaDoor
namespace Go.Proofs.YtneaancanfpdhaaDoor
open Go Go.Vd Go.RowKit

theorem zero_nm {x : Lev} (h : zeroL = x.toLvl) : ∀ w, x.has w → okName w := by
  cases x <;> simp [zeroL, Lev.toLvl] at h
  intro w hw; exact hw.elim
theorem levelR_nm {s : ByteArray} : ∀ (n : Nat) {r : RS}, r.p ≤ s.size → ∀ x : Lev, (levelR n s r).1 = x.toLvl → ∀ w, x.has w → okName w := by
  intro n
  induction n with
  | zero => intro r hp x h; exact zero_nm h
  | succ n ih =>
    intro r hp x h
    obtain ⟨p, f⟩ := r
    simp only at hp
    cases f with
    | some a => exact zero_nm h
    | none =>
      have h1 := nextR_le (s := s) (r := ⟨p, none⟩) hp
      have h2 := nextR_le (s := s) (r := (nextR s ⟨p, none⟩).2) h1.2
      have h3 := levelR_le n h2.2
      by_cases c0 : (tokR s p).1 = ⟨#[48]⟩
      · rw [levelR_zero c0] at h; exact zero_nm h
      cases c1 : isNameB (tokR s p).1 with
      | true =>
        rw [levelR_name c0 c1] at h
        cases x <;> simp [Lev.toLvl] at h
        intro w hw
        have e : w = _ := hw
        rw [e, ← h]
        exact tok_okName hp c1
      | false =>
        by_cases c2 : (tokR s p).1 = ⟨#[40]⟩
        · rcases kindR_case (tokR s (nextR s ⟨p, none⟩).2.p).1 with hk | ⟨hk, hne2⟩
          · rw [levelR_kind c0 c1 c2 hk] at h; exact zero_nm h
          · rcases hk with hk | hk | hk
            · rw [levelR_one c0 c1 c2 hk] at h
              cases x <;> simp [Lev.toLvl] at h
              intro w hw; exact ih h2.2 _ h w hw
            · rw [levelR_two c0 c1 c2 (by omega) (by omega), hk] at h
              cases x <;> simp [Lev.toLvl] at h
              intro w hw
              rcases hw with hw | hw
              · exact ih h2.2 _ h.1 w hw
              · exact ih h3.2 _ h.2 w hw
            · rw [levelR_two c0 c1 c2 (by omega) (by omega), hk] at h
              cases x <;> simp [Lev.toLvl] at h
              intro w hw
              rcases hw with hw | hw
              · exact ih h2.2 _ h.1 w hw
              · exact ih h3.2 _ h.2 w hw
        · rw [levelR_else c0 c1 c2] at h; exact zero_nm h
theorem parseR_nm (s : ByteArray) : ∃ x : Lev, (parseR s).1 = x.toLvl ∧ fitP x.toLvl ∧ x.weight ≤ 10 + 20 * s.size ∧ ∀ w, x.has w → okName w := by
  have hz : fitP Lev.zero.toLvl := by simp [Lev.toLvl, fitP, fitL]
  have h0 : ∃ x : Lev, zeroL = x.toLvl ∧ fitP x.toLvl ∧ x.weight ≤ 10 + 20 * s.size ∧ ∀ w, x.has w → okName w := ⟨.zero, rfl, hz, by simp only [Lev.weight]; omega, fun w h => h.elim⟩
  unfold parseR
  split
  · exact h0
  · obtain ⟨x, e, f, w⟩ := levelR_lev (s := s) (s.size + 1) (r := ⟨0, none⟩) (Nat.zero_le _)
    have h2 := levelR_le (s := s) (s.size + 1) (r := ⟨0, none⟩) (Nat.zero_le _)
    dsimp only
    split
    · exact ⟨x, e, f, by simp only at w; omega, levelR_nm _ (Nat.zero_le _) x e⟩
    · exact h0
end Go.Proofs.YtneaancanfpdhaaDoor
namespace Go.Vd
open Go Go.RowKit

inductive Dec where
  | mk (kind : Int) (name : ByteArray) (params : List ByteArray) (ty val : Trm) (arity : Int) (ctors : List (ByteArray × Trm))
def ctrs (l : List (ByteArray × Trm)) : List (List D) := l.map fun c => .v (.string c.1) :: c.2.cells
def Dec.cells : Dec → List D
  | .mk k s ps t v a cs => .v (.int .i64 k) :: .v (.string s) :: .sl 1 (strs ps) :: (t.cells ++ (v.cells ++ [.v (.int .i64 a), .sl 6 (ctrs cs)]))
def Dec.d (x : Dec) : D := .agg x.cells
def decs (l : List Dec) : List (List D) := l.map Dec.cells
theorem Dec.case (x : Dec) : ∃ k s ps k1 n1 s1 l1 a1 k2 n2 s2 l2 a2 a cs, x = .mk k s ps (.mk k1 n1 s1 l1 a1) (.mk k2 n2 s2 l2 a2) a cs := by
  obtain ⟨k, s, ps, ⟨k1, n1, s1, l1, a1⟩, ⟨k2, n2, s2, l2, a2⟩, a, cs⟩ := x
  exact ⟨_, _, _, _, _, _, _, _, _, _, _, _, _, _, _, rfl⟩
theorem Dec.cells_eq (k : Int) (s : ByteArray) (ps : List ByteArray) (k1 n1 : Int) (s1 : ByteArray) (l1 : List Lvl) (a1 : List Trm) (k2 n2 : Int) (s2 : ByteArray) (l2 : List Lvl) (a2 : List Trm) (a : Int) (cs : List (ByteArray × Trm)) :
    (Dec.mk k s ps (.mk k1 n1 s1 l1 a1) (.mk k2 n2 s2 l2 a2) a cs).cells = [.v (.int .i64 k), .v (.string s), .sl 1 (strs ps), .v (.int .i64 k1), .v (.int .i64 n1), .v (.string s1), .sl 3 (lvls l1), .sl 5 (trms a1), .v (.int .i64 k2), .v (.int .i64 n2), .v (.string s2), .sl 3 (lvls l2), .sl 5 (trms a2), .v (.int .i64 a), .sl 6 (ctrs cs)] := rfl
theorem ctrs_len (l : List (ByteArray × Trm)) : (ctrs l).length = l.length := by simp [ctrs]
theorem decs_len (l : List Dec) : (decs l).length = l.length := by simp [decs]
theorem ctrs_app (l m : List (ByteArray × Trm)) : ctrs (l ++ m) = ctrs l ++ ctrs m := by simp [ctrs]
theorem decs_app (l m : List Dec) : decs (l ++ m) = decs l ++ decs m := by simp [decs]
theorem ctr_at {l : List (ByteArray × Trm)} {i : Nat} {nm : ByteArray} {k n : Int} {s : ByteArray} {ls : List Lvl} {args : List Trm} (h : l[i]? = some (nm, .mk k n s ls args)) : (ctrs l)[((i : Nat) : Int).toNat]? = some [.v (.string nm), .v (.int .i64 k), .v (.int .i64 n), .v (.string s), .sl 3 (lvls ls), .sl 5 (trms args)] := by
  simp [ctrs, h, Trm.cells]
theorem dec_at {l : List Dec} {i : Nat} {k : Int} {s : ByteArray} {ps : List ByteArray} {k1 n1 : Int} {s1 : ByteArray} {l1 : List Lvl} {a1 : List Trm} {k2 n2 : Int} {s2 : ByteArray} {l2 : List Lvl} {a2 : List Trm} {a : Int} {cs : List (ByteArray × Trm)}
    (h : l[i]? = some (.mk k s ps (.mk k1 n1 s1 l1 a1) (.mk k2 n2 s2 l2 a2) a cs)) : (decs l)[((i : Nat) : Int).toNat]? = some [.v (.int .i64 k), .v (.string s), .sl 1 (strs ps), .v (.int .i64 k1), .v (.int .i64 n1), .v (.string s1), .sl 3 (lvls l1), .sl 5 (trms a1), .v (.int .i64 k2), .v (.int .i64 n2), .v (.string s2), .sl 3 (lvls l2), .sl 5 (trms a2), .v (.int .i64 a), .sl 6 (ctrs cs)] := by
  simp [decs, h, Dec.cells_eq]
theorem ctr_get {l : List (ByteArray × Trm)} {i : Nat} (h : i < l.length) : ∃ nm k n s ls args, l[i]? = some (nm, .mk k n s ls args) := by
  have : l[i]? = some l[i] := by simp [h]
  rw [this]
  obtain ⟨nm, ⟨k, n, s, ls, args⟩⟩ := l[i]
  exact ⟨_, _, _, _, _, _, rfl⟩
theorem dec_get {l : List Dec} {i : Nat} (h : i < l.length) : ∃ k s ps k1 n1 s1 l1 a1 k2 n2 s2 l2 a2 a cs, l[i]? = some (.mk k s ps (.mk k1 n1 s1 l1 a1) (.mk k2 n2 s2 l2 a2) a cs) := by
  have : l[i]? = some l[i] := by simp [h]
  rw [this]
  obtain ⟨k, s, ps, k1, n1, s1, l1, a1, k2, n2, s2, l2, a2, a, cs, e⟩ := Dec.case l[i]
  rw [e]
  exact ⟨_, _, _, _, _, _, _, _, _, _, _, _, _, _, _, rfl⟩

/-! the reader -/
def namesR : Nat → ByteArray → RS → List ByteArray × RS
  | 0, _, r => ([], r)
  | n + 1, s, r =>
    if r.f = none ∧ peekR s r ≠ ⟨#[41]⟩ then
      let a := nameR s r
      let b := namesR n s a.2
      (a.1 :: b.1, b.2)
    else ([], r)
def ctorW : ByteArray := ⟨#[99, 116, 111, 114]⟩
def ctorR (s : ByteArray) (r : RS) : (ByteArray × Trm) × RS :=
  let c := nameR s (takeR s ctorW (takeR s ⟨#[40]⟩ r))
  let t := termR (s.size + 1) s c.2
  ((c.1, t.1), takeR s ⟨#[41]⟩ t.2)
def ctorsR : Nat → ByteArray → RS → List (ByteArray × Trm) × RS
  | 0, _, r => ([], r)
  | n + 1, s, r =>
    if r.f = none ∧ peekR s r = ⟨#[40]⟩ then
      let a := ctorR s r
      let b := ctorsR n s a.2
      (a.1 :: b.1, b.2)
    else ([], r)
def kindF (w : ByteArray) : Nat :=
  if w = ⟨#[97, 120, 105, 111, 109]⟩ then 1 else if w = ⟨#[100, 101, 102]⟩ then 2 else if w = ⟨#[105, 110, 100, 117, 99, 116, 105, 118, 101]⟩ then 3 else 0
theorem kindF_le (w : ByteArray) : kindF w ≤ 3 := by unfold kindF; repeat' split
                                                     all_goals omega
/-- a number of at most two digits -/
def arityB (t : ByteArray × Nat × Bool) : Prop := t.1 ≠ .empty ∧ 48 ≤ byteAt t.1 0 ∧ byteAt t.1 0 ≤ 57 ∧ t.1.size ≤ 2
instance (t : ByteArray × Nat × Bool) : Decidable (arityB t) := inferInstanceAs (Decidable (_ ∧ _))
/-- what stands ahead of a declaration's type: its kind (0: none), name, parameters -/
def declHead (s : ByteArray) (r : RS) : Nat × ByteArray × List ByteArray × RS :=
  let r1 := takeR s ⟨#[40]⟩ r
  let k := kindF (tokR s r1.p).1
  if k = 0 then (0, .empty, [], r1.fail (tokR s r1.p).2.1)
  else
    let nm := nameR s (nextR s r1).2
    let ps := namesR (s.size + 2) s (takeR s ⟨#[40]⟩ nm.2)
    (k, nm.1, ps.1, takeR s ⟨#[41]⟩ ps.2)
def arityR (s : ByteArray) (k : Nat) (r : RS) : Int × RS := if k = 3 then (numR (tokR s r.p).1 (tokR s r.p).1.size, (nextR s r).2) else (0, r)
/-- what stands behind: type, value, constructors -/
def valR (s : ByteArray) (k : Nat) (r : RS) : Trm × RS := if k = 2 then termR (s.size + 1) s r else (zeroT, r)
def consR (s : ByteArray) (k : Nat) (r : RS) : List (ByteArray × Trm) × RS := if k = 3 then ctorsR (s.size + 2) s r else ([], r)
def declTail (s : ByteArray) (k : Nat) (nm : ByteArray) (ps : List ByteArray) (a : Int) (r : RS) : Dec × RS :=
  let t := termR (s.size + 1) s r
  let v := valR s k t.2
  let c := consR s k v.2
  (.mk k nm ps t.1 v.1 a c.1, takeR s ⟨#[41]⟩ c.2)
def declR (s : ByteArray) (r : RS) : Dec × RS :=
  let h := declHead s r
  if h.1 = 0 then (.mk 0 .empty [] zeroT zeroT 0 [], h.2.2.2)
  else if h.1 = 3 ∧ ¬ arityB (tokR s h.2.2.2.p) then (.mk 3 h.2.1 h.2.2.1 zeroT zeroT 0 [], h.2.2.2.fail (tokR s h.2.2.2.p).2.1)
  else declTail s h.1 h.2.1 h.2.2.1 (arityR s h.1 h.2.2.2).1 (arityR s h.1 h.2.2.2).2
def atEnd (s : ByteArray) (r : RS) : Prop := (tokR s r.p).2.2 = true ∧ (tokR s r.p).1 = .empty
instance (s : ByteArray) (r : RS) : Decidable (atEnd s r) := inferInstanceAs (Decidable (_ ∧ _))
def fileR : Nat → ByteArray → RS → List Dec × RS
  | 0, _, r => ([], r)
  | n + 1, s, r =>
    if r.f = none ∧ ¬ atEnd s r then
      let a := declR s r
      let b := fileR n s a.2
      (a.1 :: b.1, b.2)
    else ([], r)
/-- the reference's 'ParseAny', 'ParseFile' -/
def parseAny (s : ByteArray) : List Dec × Int × Int :=
  match (fileR (s.size + 2) s ⟨0, none⟩).2.f with
  | none => ((fileR (s.size + 2) s ⟨0, none⟩).1, 0, 0)
  | some a => ([], 1, a)
def parseF (s : ByteArray) : List Dec × Int × Int := if s.size > 200000 then ([], 2, 0) else parseAny s

theorem namesR_le {s : ByteArray} : ∀ (n : Nat) {r : RS}, r.p ≤ s.size → r.p ≤ (namesR n s r).2.p ∧ (namesR n s r).2.p ≤ s.size := by
  intro n
  induction n with
  | zero => intro r hp; exact ⟨Nat.le_refl _, hp⟩
  | succ n ih =>
    intro r hp
    simp only [namesR]
    split
    · have h1 := nameR_le (s := s) hp
      have h2 := ih h1.2
      exact ⟨Nat.le_trans h1.1 h2.1, h2.2⟩
    · exact ⟨Nat.le_refl _, hp⟩
theorem ctorR_le {s : ByteArray} {r : RS} (hp : r.p ≤ s.size) : r.p ≤ (ctorR s r).2.p ∧ (ctorR s r).2.p ≤ s.size := by
  have h1 := takeR_le (s := s) (w := ⟨#[40]⟩) hp
  have h2 := takeR_le (s := s) (w := ctorW) h1.2
  have h3 := nameR_le (s := s) h2.2
  have h4 := termR_le (s := s) (s.size + 1) _ h3.2
  have h5 := takeR_le (s := s) (w := ⟨#[41]⟩) h4.2
  unfold ctorR
  exact ⟨Nat.le_trans h1.1 (Nat.le_trans h2.1 (Nat.le_trans h3.1 (Nat.le_trans h4.1 h5.1))), h5.2⟩
theorem ctorsR_le {s : ByteArray} : ∀ (n : Nat) {r : RS}, r.p ≤ s.size → r.p ≤ (ctorsR n s r).2.p ∧ (ctorsR n s r).2.p ≤ s.size := by
  intro n
  induction n with
  | zero => intro r hp; exact ⟨Nat.le_refl _, hp⟩
  | succ n ih =>
    intro r hp
    simp only [ctorsR]
    split
    · have h1 := ctorR_le (s := s) hp
      have h2 := ih h1.2
      exact ⟨Nat.le_trans h1.1 h2.1, h2.2⟩
    · exact ⟨Nat.le_refl _, hp⟩
theorem declHead_le {s : ByteArray} {r : RS} (hp : r.p ≤ s.size) : r.p ≤ (declHead s r).2.2.2.p ∧ (declHead s r).2.2.2.p ≤ s.size := by
  have h1 := takeR_le (s := s) (w := ⟨#[40]⟩) hp
  have h2 := nextR_le (s := s) h1.2
  have h3 := nameR_le (s := s) h2.2
  have h4 := takeR_le (s := s) (w := ⟨#[40]⟩) h3.2
  have h5 := namesR_le (s := s) (s.size + 2) h4.2
  have h6 := takeR_le (s := s) (w := ⟨#[41]⟩) h5.2
  unfold declHead
  dsimp only
  split
  · rw [RS.fail_p]; exact h1
  · exact ⟨Nat.le_trans h1.1 (Nat.le_trans h2.1 (Nat.le_trans h3.1 (Nat.le_trans h4.1 (Nat.le_trans h5.1 h6.1)))), h6.2⟩
theorem arityR_le {s : ByteArray} {k : Nat} {r : RS} (hp : r.p ≤ s.size) : r.p ≤ (arityR s k r).2.p ∧ (arityR s k r).2.p ≤ s.size := by
  have h2 := nextR_le (s := s) hp
  unfold arityR
  split
  · exact h2
  · exact ⟨Nat.le_refl _, hp⟩
theorem valR_le {s : ByteArray} {k : Nat} {r : RS} (hp : r.p ≤ s.size) : r.p ≤ (valR s k r).2.p ∧ (valR s k r).2.p ≤ s.size := by
  have h2 := termR_le (s := s) (s.size + 1) r hp
  unfold valR
  split
  · exact h2
  · exact ⟨Nat.le_refl _, hp⟩
theorem consR_le {s : ByteArray} {k : Nat} {r : RS} (hp : r.p ≤ s.size) : r.p ≤ (consR s k r).2.p ∧ (consR s k r).2.p ≤ s.size := by
  have h2 := ctorsR_le (s := s) (s.size + 2) hp
  unfold consR
  split
  · exact h2
  · exact ⟨Nat.le_refl _, hp⟩
theorem declTail_le {s : ByteArray} {k : Nat} {nm : ByteArray} {ps : List ByteArray} {a : Int} {r : RS} (hp : r.p ≤ s.size) : r.p ≤ (declTail s k nm ps a r).2.p ∧ (declTail s k nm ps a r).2.p ≤ s.size := by
  have h1 := termR_le (s := s) (s.size + 1) r hp
  have h2 := valR_le (s := s) (k := k) h1.2
  have h3 := consR_le (s := s) (k := k) h2.2
  have h4 := takeR_le (s := s) (w := ⟨#[41]⟩) h3.2
  unfold declTail
  exact ⟨Nat.le_trans h1.1 (Nat.le_trans h2.1 (Nat.le_trans h3.1 h4.1)), h4.2⟩
theorem declR_le {s : ByteArray} {r : RS} (hp : r.p ≤ s.size) : r.p ≤ (declR s r).2.p ∧ (declR s r).2.p ≤ s.size := by
  have h1 := declHead_le (s := s) hp
  unfold declR
  dsimp only
  split
  · exact h1
  · split
    · rw [RS.fail_p]; exact h1
    · have h2 := arityR_le (s := s) (k := (declHead s r).1) h1.2
      have h3 := declTail_le (s := s) (k := (declHead s r).1) (nm := (declHead s r).2.1) (ps := (declHead s r).2.2.1) (a := (arityR s (declHead s r).1 (declHead s r).2.2.2).1) h2.2
      exact ⟨Nat.le_trans h1.1 (Nat.le_trans h2.1 h3.1), h3.2⟩

/-! faults stay -/
theorem fail_f (r : RS) (x : Nat) : (r.fail x).f ≠ none := by obtain ⟨a, f⟩ := r; cases f <;> simp [RS.fail]
theorem take_f {s w : ByteArray} {r : RS} (h : (takeR s w r).f = none) : r.f = none := by
  obtain ⟨p, f⟩ := r
  unfold takeR at h
  dsimp only at h
  split at h
  · exact absurd h (fail_f _ _)
  · cases f with
    | none => rfl
    | some a => cases h
theorem next_f {s : ByteArray} {r : RS} (h : (nextR s r).2.f = none) : r.f = none := by
  obtain ⟨p, f⟩ := r
  unfold nextR at h
  dsimp only at h
  split at h
  · exact absurd h (fail_f _ _)
  · cases f with
    | none => rfl
    | some a => cases h
theorem name_f {s : ByteArray} {r : RS} (h : (nameR s r).2.f = none) : r.f = none := by
  obtain ⟨p, f⟩ := r
  unfold nameR at h
  dsimp only at h
  split at h
  · exact absurd h (fail_f _ _)
  · cases f with
    | none => rfl
    | some a => cases h
theorem term_f {s : ByteArray} {n : Nat} {r : RS} (h : (termR n s r).2.f = none) : r.f = none := by
  obtain ⟨p, f⟩ := r
  cases f with
  | none => rfl
  | some a => cases n <;> cases h
theorem names_f {s : ByteArray} : ∀ {n : Nat} {r : RS}, (namesR n s r).2.f = none → r.f = none
  | 0, r, h => h
  | n + 1, r, h => by
    simp only [namesR] at h
    split at h
    · exact name_f (names_f h)
    · exact h
theorem ctor_f {s : ByteArray} {r : RS} (h : (ctorR s r).2.f = none) : r.f = none := take_f (take_f (name_f (term_f (take_f h))))
theorem ctors_f {s : ByteArray} : ∀ {n : Nat} {r : RS}, (ctorsR n s r).2.f = none → r.f = none
  | 0, r, h => h
  | n + 1, r, h => by
    simp only [ctorsR] at h
    split at h
    · exact ctor_f (ctors_f h)
    · exact h
theorem head_f {s : ByteArray} {r : RS} (h : (declHead s r).2.2.2.f = none) : (takeR s ⟨#[40]⟩ r).f = none := by
  unfold declHead at h
  dsimp only at h
  split at h
  · exact absurd h (fail_f _ _)
  · exact next_f (name_f (take_f (names_f (take_f h))))
theorem arity_f {s : ByteArray} {k : Nat} {r : RS} (h : (arityR s k r).2.f = none) : r.f = none := by
  unfold arityR at h
  split at h
  · exact next_f h
  · exact h
theorem val_f {s : ByteArray} {k : Nat} {r : RS} (h : (valR s k r).2.f = none) : r.f = none := by
  unfold valR at h
  split at h
  · exact term_f h
  · exact h
theorem cons_f {s : ByteArray} {k : Nat} {r : RS} (h : (consR s k r).2.f = none) : r.f = none := by
  unfold consR at h
  split at h
  · exact ctors_f h
  · exact h
theorem tail_f {s : ByteArray} {k : Nat} {nm : ByteArray} {ps : List ByteArray} {a : Int} {r : RS} (h : (declTail s k nm ps a r).2.f = none) : r.f = none :=
  term_f (val_f (cons_f (take_f h)))
theorem decl_f {s : ByteArray} {r : RS} (h : (declR s r).2.f = none) : (takeR s ⟨#[40]⟩ r).f = none := by
  unfold declR at h
  dsimp only at h
  split at h
  · exact head_f h
  · split at h
    · exact absurd h (fail_f _ _)
    · exact head_f (arity_f (tail_f h))
/-- what is taken is behind -/
theorem take_prog {s w : ByteArray} {r : RS} (hw : w ≠ .empty) (hp : r.p ≤ s.size) (h : (takeR s w r).f = none) : r.p < (takeR s w r).p := by
  have hat := tokR_at (s := s) hp
  obtain ⟨p, f⟩ := r
  unfold takeR at h ⊢
  dsimp only at h ⊢
  split at h
  · exact absurd h (fail_f _ _)
  · rename_i hn
    rw [if_neg hn]
    cases f with
    | none =>
      have : (tokR s p).1 = w := Classical.byContradiction fun e => hn (.inr e)
      have h2 : 0 < (tokR s p).1.size := by
        rcases Nat.eq_zero_or_pos (tokR s p).1.size with h3 | h3
        · exact absurd (this ▸ ByteArray.size_eq_zero_iff.1 h3) hw
        · exact h3
      simp only at hat ⊢; omega
    | some a => cases h
theorem name_prog {s : ByteArray} {r : RS} (hp : r.p ≤ s.size) (h : (nameR s r).2.f = none) : r.p < (nameR s r).2.p := by
  have hat := tokR_at (s := s) hp
  obtain ⟨p, f⟩ := r
  unfold nameR at h ⊢
  dsimp only at h ⊢
  split at h
  · exact absurd h (fail_f _ _)
  · rename_i hn
    rw [if_neg hn]
    cases f with
    | none =>
      have h2 : 0 < (tokR s p).1.size := by
        rcases Nat.eq_zero_or_pos (tokR s p).1.size with h3 | h3
        · exfalso; apply hn; right; rw [ByteArray.size_eq_zero_iff.1 h3]; rfl
        · exact h3
      simp only at hat ⊢; omega
    | some a => cases h
theorem ctor_prog {s : ByteArray} {r : RS} (hp : r.p ≤ s.size) (h : (ctorR s r).2.f = none) : r.p < (ctorR s r).2.p := by
  have h1 := take_prog (w := ⟨#[40]⟩) (by decide) hp (take_f (name_f (term_f (take_f h))))
  have h0 := takeR_le (s := s) (w := ⟨#[40]⟩) hp
  have h2 := takeR_le (s := s) (w := ctorW) h0.2
  have h3 := nameR_le (s := s) h2.2
  have h4 := termR_le (s := s) (s.size + 1) _ h3.2
  have h5 := takeR_le (s := s) (w := ⟨#[41]⟩) h4.2
  have : (ctorR s r).2 = takeR s ⟨#[41]⟩ (termR (s.size + 1) s (nameR s (takeR s ctorW (takeR s ⟨#[40]⟩ r))).2).2 := rfl
  rw [this]; omega
theorem decl_prog {s : ByteArray} {r : RS} (hp : r.p ≤ s.size) (h : (declR s r).2.f = none) : r.p < (declR s r).2.p := by
  have h1 := take_prog (w := ⟨#[40]⟩) (by decide) hp (decl_f h)
  have h2 := takeR_le (s := s) (w := ⟨#[40]⟩) hp
  have key : (takeR s ⟨#[40]⟩ r).p ≤ (declHead s r).2.2.2.p := by
    have h3 := nextR_le (s := s) h2.2
    have h4 := nameR_le (s := s) h3.2
    have h5 := takeR_le (s := s) (w := ⟨#[40]⟩) h4.2
    have h6 := namesR_le (s := s) (s.size + 2) h5.2
    have h7 := takeR_le (s := s) (w := ⟨#[41]⟩) h6.2
    unfold declHead
    dsimp only
    split
    · rw [RS.fail_p]; exact Nat.le_refl _
    · exact Nat.le_trans h3.1 (Nat.le_trans h4.1 (Nat.le_trans h5.1 (Nat.le_trans h6.1 h7.1)))
  have h8 := declHead_le (s := s) hp
  have h9 : (declHead s r).2.2.2.p ≤ (declR s r).2.p := by
    unfold declR
    dsimp only
    split
    · exact Nat.le_refl _
    · split
      · rw [RS.fail_p]; exact Nat.le_refl _
      · have h2 := arityR_le (s := s) (k := (declHead s r).1) h8.2
        have h3 := declTail_le (s := s) (k := (declHead s r).1) (nm := (declHead s r).2.1) (ps := (declHead s r).2.2.1) (a := (arityR s (declHead s r).1 (declHead s r).2.2.2).1) h2.2
        exact Nat.le_trans h2.1 h3.1
  omega
/-! the loops' steps -/
theorem names_stop {s : ByteArray} {r : RS} {m : Nat} (h : ¬ (r.f = none ∧ ¬ peekR s r = ⟨#[41]⟩)) : namesR m s r = ([], r) := by
  cases m with
  | zero => rfl
  | succ m => simp only [namesR]; rw [if_neg h]
theorem names_step {s : ByteArray} {r0 r' : RS} {m : Nat} {acc : List ByteArray} {x : ByteArray} (hinv : r'.p ≤ s.size ∧ acc.length + m = s.size + 2 ∧ (r'.f = none → s.size - r'.p < m) ∧ namesR (s.size + 2) s r0 = (acc ++ (namesR m s r').1, (namesR m s r').2))
    (h : r'.f = none ∧ ¬ peekR s r' = ⟨#[41]⟩) (hX : (nameR s r').1 = x) :
    (nameR s r').2.p ≤ s.size ∧ (acc ++ [x]).length + (m - 1) = s.size + 2 ∧ ((nameR s r').2.f = none → s.size - (nameR s r').2.p < m - 1) ∧
      namesR (s.size + 2) s r0 = (acc ++ [x] ++ (namesR (m - 1) s (nameR s r').2).1, (namesR (m - 1) s (nameR s r').2).2) := by
  obtain ⟨h1, h2, h3, h4⟩ := hinv
  have hm := h3 h.1
  obtain ⟨m, rfl⟩ : ∃ k, m = k + 1 := ⟨m - 1, by omega⟩
  have hle := nameR_le (s := s) h1
  refine ⟨hle.2, by simp; omega, fun hf => by have := name_prog h1 hf; omega, ?_⟩
  rw [h4]
  simp only [namesR]
  rw [if_pos h, ← hX]
  simp
theorem ctors_stop {s : ByteArray} {r : RS} {m : Nat} (h : ¬ (r.f = none ∧ peekR s r = ⟨#[40]⟩)) : ctorsR m s r = ([], r) := by
  cases m with
  | zero => rfl
  | succ m => simp only [ctorsR]; rw [if_neg h]
theorem ctors_step {s : ByteArray} {r0 r' : RS} {m : Nat} {acc : List (ByteArray × Trm)} {x : ByteArray × Trm} (hinv : r'.p ≤ s.size ∧ acc.length + m = s.size + 2 ∧ (r'.f = none → s.size - r'.p < m) ∧ ctorsR (s.size + 2) s r0 = (acc ++ (ctorsR m s r').1, (ctorsR m s r').2))
    (h : r'.f = none ∧ peekR s r' = ⟨#[40]⟩) (hX : (ctorR s r').1 = x) :
    (ctorR s r').2.p ≤ s.size ∧ (acc ++ [x]).length + (m - 1) = s.size + 2 ∧ ((ctorR s r').2.f = none → s.size - (ctorR s r').2.p < m - 1) ∧
      ctorsR (s.size + 2) s r0 = (acc ++ [x] ++ (ctorsR (m - 1) s (ctorR s r').2).1, (ctorsR (m - 1) s (ctorR s r').2).2) := by
  obtain ⟨h1, h2, h3, h4⟩ := hinv
  have hm := h3 h.1
  obtain ⟨m, rfl⟩ : ∃ k, m = k + 1 := ⟨m - 1, by omega⟩
  have hle := ctorR_le (s := s) h1
  refine ⟨hle.2, by simp; omega, fun hf => by have := ctor_prog h1 hf; omega, ?_⟩
  rw [h4]
  simp only [ctorsR]
  rw [if_pos h, ← hX]
  simp
theorem file_stop {s : ByteArray} {r : RS} {m : Nat} (h : ¬ (r.f = none ∧ ¬ atEnd s r)) : fileR m s r = ([], r) := by
  cases m with
  | zero => rfl
  | succ m => simp only [fileR]; rw [if_neg h]
theorem file_step {s : ByteArray} {r0 r' : RS} {m : Nat} {acc : List Dec} {x : Dec} (hinv : r'.p ≤ s.size ∧ acc.length + m = s.size + 2 ∧ (r'.f = none → s.size - r'.p < m) ∧ fileR (s.size + 2) s r0 = (acc ++ (fileR m s r').1, (fileR m s r').2))
    (h : r'.f = none ∧ ¬ atEnd s r') (hX : (declR s r').1 = x) :
    (declR s r').2.p ≤ s.size ∧ (acc ++ [x]).length + (m - 1) = s.size + 2 ∧ ((declR s r').2.f = none → s.size - (declR s r').2.p < m - 1) ∧
      fileR (s.size + 2) s r0 = (acc ++ [x] ++ (fileR (m - 1) s (declR s r').2).1, (fileR (m - 1) s (declR s r').2).2) := by
  obtain ⟨h1, h2, h3, h4⟩ := hinv
  have hm := h3 h.1
  obtain ⟨m, rfl⟩ : ∃ k, m = k + 1 := ⟨m - 1, by omega⟩
  have hle := declR_le (s := s) h1
  refine ⟨hle.2, by simp; omega, fun hf => by have := decl_prog h1 hf; omega, ?_⟩
  rw [h4]
  simp only [fileR]
  rw [if_pos h, ← hX]
  simp
end Go.Vd
namespace Go.Proofs.YtneaancanfpdhaaDoor
open Go Go.Vd Go.RowKit
attribute [local irreducible] Runs OpsR OpR FloatR AnyR AnyO
variable {g gl : Nat → List D}

/-- a token that begins with a digit -/
theorem tok_dig {s : ByteArray} {p : Nat} (hp : p ≤ s.size) (h0 : (tokR s p).1 ≠ .empty) (h : 48 ≤ byteAt (tokR s p).1 0 ∧ byteAt (tokR s p).1 0 ≤ 57) :
    (tokR s p).1.size ≤ 5 ∧ allDig (tokR s p).1 ∧ (1 < (tokR s p).1.size → ¬ byteAt (tokR s p).1 0 = 48) := by
  have hle := spanB_le wsB s p hp
  revert h0 h
  unfold tokR
  dsimp only
  split
  · intro h0; exact absurd rfl h0
  · rename_i hn
    have hlt : spanB wsB s p < s.size := by omega
    split
    · rename_i hc
      intro _ h
      rw [byteAt_extract s (by omega) (by omega), Nat.add_zero] at h
      omega
    · split
      · rename_i hc hnm
        have h3 := spanB_le (nameB · false) s (spanB wsB s p + 1) (by omega)
        split
        · intro h0; exact absurd rfl h0
        · intro _ h
          rw [byteAt_extract s (by omega) (by omega), Nat.add_zero] at h
          exfalso
          revert hnm
          unfold nameB
          simp
          omega
      · split
        · have h3 := spanB_le digB s (spanB wsB s p + 1) (by omega)
          by_cases h35 : byteAt s (spanB wsB s p) = 35
          · simp only [if_pos h35]
            split
            · intro h0; exact absurd rfl h0
            · intro _ h
              rw [byteAt_extract s (by omega) (by omega), Nat.add_zero] at h
              omega
          · simp only [if_neg h35]
            split
            · intro h0; exact absurd rfl h0
            · rename_i hd
              intro _ h
              rw [byteAt_extract s (by omega) (by omega), Nat.add_zero] at h ⊢
              simp only [ByteArray.size_extract]
              refine ⟨by omega, fun i hi => ?_, fun h1 h48 => hd (.inr (.inr ⟨by omega, h48⟩))⟩
              simp only [ByteArray.size_extract] at hi
              rw [byteAt_extract s (by omega) (by omega)]
              rcases Nat.eq_zero_or_pos i with rfl | hi0
              · exact h
              · have := spanB_all (f := digB) (s := s) (p := spanB wsB s p + 1) (j := spanB wsB s p + i) (by omega) (by omega)
                simpa [digB] using this
        · intro h0; exact absurd rfl h0

theorem declR_none {s : ByteArray} {r r1 : RS} (h1 : takeR s ⟨#[40]⟩ r = r1) (hk : kindF (tokR s r1.p).1 = 0) : declR s r = (.mk 0 .empty [] zeroT zeroT 0 [], r1.fail (tokR s r1.p).2.1) := by
  unfold declR declHead
  dsimp only
  rw [h1, if_pos hk]; rfl
theorem declHead_eq {s : ByteArray} {r r1 r5 : RS} {k : Nat} {nm : ByteArray} {ps : List ByteArray} (h1 : takeR s ⟨#[40]⟩ r = r1) (hk : kindF (tokR s r1.p).1 = k) (h0 : ¬ k = 0) (h3 : (nameR s (nextR s r1).2).1 = nm)
    (h5 : namesR (s.size + 2) s (takeR s ⟨#[40]⟩ (nameR s (nextR s r1).2).2) = (ps, r5)) : declHead s r = (k, nm, ps, takeR s ⟨#[41]⟩ r5) := by
  unfold declHead
  dsimp only
  rw [h1, hk, if_neg h0, h3, h5]
theorem declR_bad {s : ByteArray} {r r6 : RS} {nm : ByteArray} {ps : List ByteArray} (h : declHead s r = (3, nm, ps, r6)) (hb : ¬ arityB (tokR s r6.p)) : declR s r = (.mk 3 nm ps zeroT zeroT 0 [], r6.fail (tokR s r6.p).2.1) := by
  unfold declR
  dsimp only
  rw [h, if_neg (by simp), if_pos ⟨rfl, hb⟩]
theorem declR_good {s : ByteArray} {r r6 r7 r8 r9 r10 : RS} {k : Nat} {nm : ByteArray} {ps : List ByteArray} {a : Int} {t v : Trm} {cs : List (ByteArray × Trm)} (h : declHead s r = (k, nm, ps, r6)) (h0 : ¬ k = 0) (hb : ¬ (k = 3 ∧ ¬ arityB (tokR s r6.p))) (ha : arityR s k r6 = (a, r7))
    (ht : termR (s.size + 1) s r7 = (t, r8)) (hv : valR s k r8 = (v, r9)) (hc : consR s k r9 = (cs, r10)) : declR s r = (.mk k nm ps t v a cs, takeR s ⟨#[41]⟩ r10) := by
  unfold declR
  dsimp only
  rw [h, if_neg h0, if_neg hb]
  simp only [declTail, ha, ht, hv, hc]
def consM (k m : Nat) (s : ByteArray) (r : RS) : List (ByteArray × Trm) × RS := if k = 3 then ctorsR m s r else ([], r)
theorem cons_stop {k m : Nat} {s : ByteArray} {r : RS} (h : ¬ (k = 3 ∧ r.f = none ∧ peekR s r = ⟨#[40]⟩)) : consM k m s r = ([], r) := by
  unfold consM
  split
  · rename_i hk; exact ctors_stop fun h2 => h ⟨hk, h2⟩
  · rfl
theorem cons_step {s : ByteArray} {k : Nat} {r0 r' : RS} {m : Nat} {acc : List (ByteArray × Trm)} {x : ByteArray × Trm} (hinv : r'.p ≤ s.size ∧ acc.length + m = s.size + 2 ∧ (r'.f = none → s.size - r'.p < m) ∧ consM k (s.size + 2) s r0 = (acc ++ (consM k m s r').1, (consM k m s r').2))
    (hk : k = 3) (h : r'.f = none ∧ peekR s r' = ⟨#[40]⟩) (hX : (ctorR s r').1 = x) :
    (ctorR s r').2.p ≤ s.size ∧ (acc ++ [x]).length + (m - 1) = s.size + 2 ∧ ((ctorR s r').2.f = none → s.size - (ctorR s r').2.p < m - 1) ∧
      consM k (s.size + 2) s r0 = (acc ++ [x] ++ (consM k (m - 1) s (ctorR s r').2).1, (consM k (m - 1) s (ctorR s r').2).2) := by
  subst hk
  unfold consM at hinv ⊢
  simp only [if_true] at hinv ⊢
  exact ctors_step hinv h hX
theorem kindF_cases {w : ByteArray} (h1 : ¬ w = ⟨#[97, 120, 105, 111, 109]⟩) (h2 : ¬ w = ⟨#[100, 101, 102]⟩) (h3 : ¬ w = ⟨#[105, 110, 100, 117, 99, 116, 105, 118, 101]⟩) : kindF w = 0 := by
  unfold kindF; rw [if_neg h1, if_neg h2, if_neg h3]
theorem kindF_3 : kindF ⟨#[105, 110, 100, 117, 99, 116, 105, 118, 101]⟩ = 3 := by decide

theorem parseAny_good {s : ByteArray} {acc : List Dec} {r : RS} (h : fileR (s.size + 2) s ⟨0, none⟩ = (acc, r)) (hf : r.f = none) : parseAny s = (acc, 0, 0) := by
  unfold parseAny; rw [h]; simp only [hf]
theorem parseAny_bad {s : ByteArray} {acc : List Dec} {r : RS} {a : Nat} (h : fileR (s.size + 2) s ⟨0, none⟩ = (acc, r)) (hf : r.f = some a) : parseAny s = ([], 1, (a : Int)) := by
  unfold parseAny; rw [h]; simp only [hf]
theorem fcode_bad {s : ByteArray} {acc : List Dec} {r : RS} (h : fileR (s.size + 2) s ⟨0, none⟩ = (acc, r)) (hf : ¬ fcode r.f = 0) : parseAny s = ([], fcode r.f, fat r.f) := by
  cases hr : r.f with
  | none => rw [hr] at hf; exact absurd rfl hf
  | some a => rw [parseAny_bad h hr]; rfl

end Go.Proofs.YtneaancanfpdhaaDoor
namespace Go.Proofs.YtneaancanfpdhaaDoor
open Go Go.Vd Go.RowKit

/-! the shape of what was read -/
def goodL (l : Lvl) : Prop := ∃ x : Lev, l = x.toLvl ∧ fitP x.toLvl ∧ ∀ w, x.has w → okName w
mutual
def goodT : Trm → Prop
  | .mk k n s ls args => (∀ l ∈ ls, goodL l) ∧ goodTs args ∧
    ((k = 0 ∧ 0 ≤ n ∧ n ≤ 99999 ∧ s = .empty ∧ ls = [] ∧ args = []) ∨ (k = 1 ∧ n = 0 ∧ s = .empty ∧ ls.length = 1 ∧ args = []) ∨ (k = 2 ∧ n = 0 ∧ okName s ∧ args = []) ∨
      ((k = 3 ∨ k = 4 ∨ k = 5) ∧ n = 0 ∧ s = .empty ∧ ls = [] ∧ args.length = 2) ∨ (k = 6 ∧ n = 0 ∧ s = .empty ∧ ls = [] ∧ args.length = 3))
def goodTs : List Trm → Prop
  | [] => True
  | t :: r => goodT t ∧ goodTs r
end
theorem goodTs_app {l : List Trm} {t : Trm} (h1 : goodTs l) (h2 : goodT t) : goodTs (l ++ [t]) := by
  induction l with
  | nil => exact ⟨h2, trivial⟩
  | cons a r ih => exact ⟨h1.1, ih h1.2⟩
theorem goodTs_get : ∀ {ls : List Trm} {i : Nat} {l : Trm}, goodTs ls → ls[i]? = some l → goodT l
  | [], i, l, _, h => by simp at h
  | a :: r, 0, l, ho, h => by simp at h; subst h; exact ho.1
  | a :: r, i + 1, l, ho, h => goodTs_get ho.2 (by simpa using h)
theorem level_shape {s : ByteArray} (n : Nat) {r : RS} (hp : r.p ≤ s.size) : goodL (levelR n s r).1 := by
  obtain ⟨x, h1, h2, _⟩ := levelR_lev (s := s) n hp
  exact ⟨x, h1, h2, levelR_nm n hp x h1⟩
theorem levels_shape {s : ByteArray} : ∀ (n : Nat) {r : RS}, r.p ≤ s.size → ∀ l ∈ (levelsR n s r).1, goodL l := by
  intro n
  induction n with
  | zero => intro r hp l hl; simp [levelsR] at hl
  | succ n ih =>
    intro r hp l hl
    simp only [levelsR] at hl
    split at hl
    · rcases List.mem_cons.1 hl with rfl | hl
      · exact level_shape _ hp
      · exact ih (levelR_le (s := s) (s.size + 1) hp).2 l hl
    · simp at hl
theorem nameR_shape {s : ByteArray} {r : RS} (hp : r.p ≤ s.size) (h : (nameR s r).2.f = none) : okName (nameR s r).1 := by
  obtain ⟨p, f⟩ := r
  unfold nameR at h ⊢
  dsimp only at h ⊢
  split at h
  · exact absurd h (fail_f _ _)
  · rename_i hn
    rw [if_neg hn]
    cases f with
    | none =>
      have h1 : isNameB (tokR s p).1 = true := by
        cases hb : isNameB (tokR s p).1 with
        | true => rfl
        | false => exact absurd (.inr hb) hn
      exact tok_okName hp h1
    | some a => cases h
theorem levels_f {s : ByteArray} : ∀ {n : Nat} {r : RS}, (levelsR n s r).2.f = none → r.f = none
  | 0, r, h => h
  | n + 1, r, h => by
    simp only [levelsR] at h
    split at h
    · rename_i hc; exact hc.1
    · exact h
theorem partsR_f {s : ByteArray} {n : Nat} : ∀ {i : Nat} {r : RS}, (partsR (termR n s) i r).2.f = none → r.f = none
  | 0, r, h => h
  | i + 1, r, h => partsR_f (i := i) (term_f h)
theorem term_shape {s : ByteArray} : ∀ (n : Nat) (r : RS), r.p ≤ s.size → (termR n s r).2.f = none → s.size < n + r.p → goodT (termR n s r).1 := by
  intro n
  induction n with
  | zero => intro r hp _ hn; omega
  | succ n ih =>
    intro r hp hf hn
    obtain ⟨p, f⟩ := r
    simp only at hp hn
    cases f with
    | some a => cases hf
    | none =>
      have h1 := nextR_le (s := s) (r := ⟨p, none⟩) hp
      have h2 := nextR_le (s := s) (r := (nextR s ⟨p, none⟩).2) h1.2
      simp only at h1
      by_cases c1 : headT (tokR s p).1
      · by_cases c2 : (tokR s p).1 = ⟨#[40]⟩
        · rcases hk : kindT (tokR s (nextR s ⟨p, none⟩).2.p).1 with _ | k
          · rw [termR_kind c2 hk] at hf; exact absurd hf (fail_f _ _)
          · rcases hh : headR s (k + 1) (nextR s (nextR s ⟨p, none⟩).2).2 with ⟨nm, L, r3⟩
            have h3 := headR_le (s := s) (k + 1) h2.2
            rw [hh] at h3
            simp only at h3
            have h9 := kindT_le (tokR s (nextR s ⟨p, none⟩).2.p).1
            have h10 := next_ge hp (by rw [c2]; decide)
            have hpart : ∀ (i : Nat), (partsR (termR n s) i r3).2.f = none → goodTs (partsR (termR n s) i r3).1 := by
              intro i
              induction i with
              | zero => intro _; exact trivial
              | succ i ihi =>
                intro hfi
                have h5 := partsR_le (s := s) (f := termR n s) (fun r hr => termR_le n r hr) i h3.2
                exact goodTs_app (ihi (term_f hfi)) (ih _ h5.2 hfi (by omega))
            rw [termR_node c2 hk (by omega) hh] at hf ⊢
            have hf2 := take_f hf
            have hf3 := partsR_f hf2
            have hpl := partsR_len (termR n s) (partsOf (k + 1)) r3
            have hga := hpart _ hf2
            generalize (partsR (termR n s) (partsOf (k + 1)) r3).1 = as1 at hpl hga ⊢
            unfold headR at hh
            split at hh
            · rename_i hk1
              cases hh
              refine ⟨fun l hl => ?_, hga, .inr (.inl ⟨by omega, rfl, rfl, rfl, ?_⟩)⟩
              · simp only [List.mem_singleton] at hl; subst hl; exact level_shape _ h2.2
              · rw [hk1] at hpl; exact List.length_eq_zero_iff.1 hpl
            · split at hh
              · rename_i hk1 hk2
                cases hh
                have h6 := nameR_le (s := s) h2.2
                refine ⟨levels_shape _ h6.2, hga, .inr (.inr (.inl ⟨by omega, rfl, nameR_shape h2.2 (levels_f hf3), ?_⟩))⟩
                rw [hk2] at hpl; exact List.length_eq_zero_iff.1 hpl
              · rename_i hk1 hk2
                cases hh
                refine ⟨fun l hl => (by cases hl), hga, ?_⟩
                unfold partsOf at hpl
                rw [if_neg (by omega)] at hpl
                split at hpl
                · exact .inr (.inr (.inr (.inr ⟨by omega, rfl, rfl, rfl, hpl⟩)))
                · exact .inr (.inr (.inr (.inl ⟨by omega, rfl, rfl, rfl, hpl⟩)))
        · rw [termR_num c1 c2]
          have h3 := num_ok hp c1 c2
          exact ⟨fun l hl => (by cases hl), trivial, .inl ⟨rfl, h3.1, h3.2, rfl, rfl, rfl⟩⟩
      · rw [termR_bad c1] at hf; exact absurd hf (fail_f _ _)

/-! numbers -/
theorem numR_pre {u v : ByteArray} : ∀ k : Nat, k ≤ u.size → numR (u ++ v) k = numR u k
  | 0, _ => rfl
  | k + 1, h => by simp only [numR]; rw [numR_pre k (by omega), byteAt_append, if_pos (by omega)]
theorem digR_digit (m i : Nat) (h : i < 10) : byteAt ⟨#[UInt8.ofNat (48 + i)]⟩ 0 = 48 + i := by
  show ((UInt8.ofNat (48 + i)).toNat : Int) = _
  rw [UInt8.toNat_ofNat']; omega
theorem digR_facts (m : Nat) : 0 < (digR m).size ∧ (∀ i : Nat, i < (digR m).size → 48 ≤ byteAt (digR m) i ∧ byteAt (digR m) i ≤ 57) ∧ numR (digR m) (digR m).size = m ∧ (0 < m → ¬ byteAt (digR m) 0 = 48) ∧ (1 < (digR m).size → 0 < m) := by
  have s1 : ∀ c : UInt8, (ByteArray.mk #[c]).size = 1 := fun _ => rfl
  induction m using Nat.strongRecOn with
  | _ m ih =>
    by_cases h : m < 10
    · rw [digR_one h, Nat.mod_eq_of_lt h, s1]
      have hd := digR_digit m m h
      refine ⟨by omega, fun i hi => ?_, ?_, fun h0 => by rw [hd]; omega, fun h1 => by omega⟩
      · obtain rfl : i = 0 := by omega
        rw [hd]; omega
      · simp only [numR]; rw [hd]; omega
    · obtain ⟨i1, i2, i3, i4, i5⟩ := ih (m / 10) (by omega)
      have hd := digR_digit m (m % 10) (by omega)
      rw [digR_more h]
      have hsz : (digR (m / 10) ++ ⟨#[UInt8.ofNat (48 + m % 10)]⟩ : ByteArray).size = (digR (m / 10)).size + 1 := by rw [ByteArray.size_append, s1]
      have hb : ∀ i, byteAt (digR (m / 10) ++ ⟨#[UInt8.ofNat (48 + m % 10)]⟩) i = if i < (digR (m / 10)).size then byteAt (digR (m / 10)) i else byteAt ⟨#[UInt8.ofNat (48 + m % 10)]⟩ (i - (digR (m / 10)).size) := fun i => byteAt_append _ _ _
      refine ⟨by omega, fun i hi => ?_, ?_, fun h0 => ?_, fun _ => by omega⟩
      · rw [hb]
        split
        · exact i2 i (by omega)
        · rw [show i - (digR (m / 10)).size = 0 by omega, hd]; omega
      · rw [hsz]
        simp only [numR]
        rw [numR_pre _ (Nat.le_refl _), i3, hb, if_neg (by omega), Nat.sub_self, hd]; omega
      · rw [hb, if_pos i1]; exact i4 (by omega)
theorem tok_nl {T : ByteArray} {p : Nat} (hp : p < T.size) (h : byteAt T p = 10) : tokR T p = tokR T (p + 1) := tok_same (spanB_step hp (by rw [h]; decide))
theorem dig_end {T : ByteArray} {p q : Nat} {m : Nat} (h : At T p (digR m)) (hd : Dl T (p + (digR m).size)) (hq : q = p ∨ q = p + 1) : spanB digB T q = p + (digR m).size := by
  obtain ⟨f1, f2, _⟩ := digR_facts m
  refine spanB_to (by omega) h.le (fun j h1 h2 => ?_) (hd.imp (fun h => h) fun ⟨_, h⟩ => by rcases h with h | h <;> rw [h] <;> decide)
  have h3 := h.eq (j - p) (by omega)
  rw [show p + (j - p) = j by omega] at h3
  have h4 := f2 (j - p) (by omega)
  unfold digB
  rw [h3]; simpa using h4
theorem at_num {T : ByteArray} {p m : Nat} (hm : m ≤ 99999) (h : At T p (digR m)) (hd : Dl T (p + (digR m).size)) : tokR T p = (digR m, p, true) := by
  obtain ⟨f1, f2, f3, f4, f5⟩ := digR_facts m
  have h5 := digR_size5 hm
  have hle := h.le
  have hb0 := h.eq 0 f1
  rw [Nat.add_zero] at hb0
  have hb := f2 0 f1
  have hsp : spanB wsB T p = p := spanB_end (by rintro ⟨_, h4⟩; simp [wsB] at h4; omega)
  have hq := dig_end h hd (q := p + 1) (.inr rfl)
  rw [tok_num (d := p) hsp (by omega) (by omega) (by simp [nameB]; omega) (by omega) hq (if_neg (by omega)) (by
    rintro (h6 | h6 | ⟨h6, h7⟩)
    · omega
    · omega
    · exact f4 (f5 (by omega)) (by rw [← hb0]; exact h7)), h.extract]
theorem at_hash {T : ByteArray} {p m : Nat} (hm : m ≤ 99999) (h : At T p (⟨#[35]⟩ ++ digR m)) (hd : Dl T (p + (1 + (digR m).size))) : tokR T p = (⟨#[35]⟩ ++ digR m, p, true) := by
  obtain ⟨f1, f2, f3, f4, f5⟩ := digR_facts m
  have s1 : (ByteArray.mk #[35]).size = 1 := rfl
  have h5 := digR_size5 hm
  have a1 := h.left.one
  have a2 := h.right
  rw [s1] at a2
  have hle := a2.le
  have h35 : byteAt T p = 35 := a1.2
  have hb0 := a2.eq 0 f1
  rw [Nat.add_zero] at hb0
  have hsp : spanB wsB T p = p := spanB_end (by rintro ⟨_, h4⟩; simp [wsB] at h4; omega)
  have hq := dig_end a2 (by rw [Nat.add_assoc]; exact hd) (q := p + 1) (.inl rfl)
  rw [tok_num (d := p + 1) hsp a1.1 (by omega) (by simp [nameB]; omega) (by omega) hq (if_pos h35) (by
    rintro (h6 | h6 | ⟨h6, h7⟩)
    · omega
    · omega
    · exact f4 (f5 (by omega)) (by rw [← hb0]; exact h7))]
  have he := h.extract
  rw [ByteArray.size_append, s1] at he
  rw [show p + 1 + (digR m).size = p + (1 + (digR m).size) by omega, he]

/-! terms -/
theorem lev_ge {l : Lvl} (h : goodL l) : l.size ≤ (wr l).size := by
  obtain ⟨x, rfl, _, hw⟩ := h
  rw [wr_lev, x.size_toLvl]; exact print_ge x hw
theorem levs_ge : ∀ {ls : List Lvl}, (∀ l ∈ ls, goodL l) → sizes ls ≤ (wrL ls).size ∧ ls.length ≤ (wrL ls).size
  | [], _ => by simp [sizes]
  | l :: r, h => by
    have h1 := lev_ge (h l (by simp))
    have h2 := levs_ge (ls := r) fun x hx => h x (by simp [hx])
    simp only [sizes, wrL, ByteArray.size_append, size_mk, List.size_toArray, List.length_cons, List.length_nil]; omega
mutual
theorem trm_ge : ∀ t : Trm, goodT t → t.size ≤ (wrT t).size
  | .mk k n s ls args, h => by
    obtain ⟨h1, h2, h3⟩ := h
    have h4 := (levs_ge h1).1
    have h5 := trms_ge args h2
    simp only [Trm.size, wrT]
    rcases h3 with ⟨rfl, _, _, _, rfl, rfl⟩ | h3
    · rw [if_pos rfl, ByteArray.size_append]
      have := (digR_facts n.toNat).1
      simp only [sizes, sizesT, size_mk, List.size_toArray, List.length_cons, List.length_nil]; omega
    · rw [if_neg (by omega)]
      simp only [ByteArray.size_append, size_mk, List.size_toArray, List.length_cons, List.length_nil]; omega
theorem trms_ge : ∀ l : List Trm, goodTs l → sizesT l ≤ (wrTs l).size
  | [], _ => by simp [sizesT]
  | t :: r, h => by
    have h1 := trm_ge t h.1
    have h2 := trms_ge r h.2
    simp only [sizesT, wrTs, ByteArray.size_append, size_mk, List.size_toArray, List.length_cons, List.length_nil]; omega
end
theorem peek_of {T : ByteArray} {p' p : Nat} {w : ByteArray} (h : tokR T p' = (w, p, true)) : peekR T ⟨p', none⟩ = w := by
  unfold peekR; dsimp only; rw [h]; simp
/-- a level's first token is not the closing one -/
theorem lev_first {T : ByteArray} (x : Lev) (hw : ∀ w, x.has w → okName w) {p : Nat} (h : At T p x.print) (hd : Dl T (p + x.print.size)) : ∃ w, tokR T p = (w, p, true) ∧ w ≠ ⟨#[41]⟩ := by
  cases x with
  | zero => exact ⟨_, at_zero h hd, by decide⟩
  | param s => exact ⟨_, at_name h (hw s rfl) hd, (hw s rfl).ne_of (by decide +kernel)⟩
  | succ a => exact ⟨_, at_paren (c := 40) (show At T p (⟨#[40]⟩ ++ (⟨#[115, 32]⟩ ++ a.print ++ ⟨#[41]⟩)) by have h' := h; simp only [Lev.print] at h'; rw [show (⟨#[40, 115, 32]⟩ : ByteArray) = ⟨#[40]⟩ ++ ⟨#[115, 32]⟩ from rfl] at h'; simpa only [ByteArray.append_assoc] using h').left (.inl rfl), by decide⟩
  | max a b => exact ⟨_, at_paren (c := 40) (show At T p (⟨#[40]⟩ ++ (⟨#[109, 97, 120]⟩ ++ (⟨#[32]⟩ ++ (a.print ++ (⟨#[32]⟩ ++ (b.print ++ ⟨#[41]⟩)))))) by simpa only [Lev.print, ByteArray.append_assoc] using h).left (.inl rfl), by decide⟩
  | imax a b => exact ⟨_, at_paren (c := 40) (show At T p (⟨#[40]⟩ ++ (⟨#[105, 109, 97, 120]⟩ ++ (⟨#[32]⟩ ++ (a.print ++ (⟨#[32]⟩ ++ (b.print ++ ⟨#[41]⟩)))))) by simpa only [Lev.print, ByteArray.append_assoc] using h).left (.inl rfl), by decide⟩
theorem at_assoc {T w : ByteArray} {p q : Nat} (h : At T p w) (e : p = q) : At T q w := e ▸ h
/-- levels, each behind a blank, up to the closing token -/
theorem levels_print {T : ByteArray} : ∀ (ls : List Lvl) (m p : Nat), (∀ l ∈ ls, goodL l) → ls.length < m → At T p (wrL ls) → At T (p + (wrL ls).size) ⟨#[41]⟩ → levelsR m T ⟨p, none⟩ = (ls, ⟨p + (wrL ls).size, none⟩)
  | [], m, p, _, hm, _, hc => by
    obtain ⟨m, rfl⟩ : ∃ k, m = k + 1 := ⟨m - 1, by omega⟩
    have hp : At T p ⟨#[41]⟩ := by have e : (wrL []).size = 0 := rfl; rw [e, Nat.add_zero] at hc; exact hc
    have hpk := peek_of (at_paren hp (.inr rfl))
    simp only [levelsR]
    rw [if_neg (by rintro ⟨_, h⟩; exact h hpk)]
    rfl
  | l :: r, m, p, hg, hm, h, hc => by
    obtain ⟨m, rfl⟩ : ∃ k, m = k + 1 := ⟨m - 1, by omega⟩
    have s1 : (ByteArray.mk #[32]).size = 1 := rfl
    obtain ⟨x, hx, _, hw⟩ := hg l (by simp)
    have h0 : At T p (⟨#[32]⟩ ++ x.print ++ wrL r) := by have h' := h; simp only [wrL] at h'; rw [hx, wr_lev] at h'; exact h'
    have hs : (wrL (l :: r)).size = 1 + x.print.size + (wrL r).size := by simp only [wrL, hx, wr_lev, ByteArray.size_append, s1]
    have a1 := h0.left.left
    have a2 := h0.left.right
    have a3 := h0.right
    rw [ByteArray.size_append, s1] at a3
    rw [s1] at a2
    rw [hs] at hc ⊢
    have hdl : Dl T (p + 1 + x.print.size) := by
      cases r with
      | nil =>
        have e : (wrL []).size = 0 := rfl
        rw [e] at hc
        exact dl_close (at_assoc hc (by omega))
      | cons l2 r2 =>
        have a4 : At T (p + (1 + x.print.size)) (⟨#[32]⟩ ++ (wr l2 ++ wrL r2)) := by have a3' := a3; simp only [wrL] at a3'; simpa only [ByteArray.append_assoc] using a3'
        exact dl_space (at_assoc a4.left (by omega))
    have ht := tok_space a1.one.1 a1.one.2
    obtain ⟨w, hw1, hw2⟩ := lev_first x hw a2 hdl
    have hpk := peek_of (ht.trans hw1)
    have hlev := levelR_print x hw (T.size + 1) (p + 1) p (by have := print_ge x hw; have := a2.le; omega) ht a2 hdl
    simp only [levelsR]
    rw [if_pos ⟨by trivial, by rw [hpk]; exact hw2⟩, hlev]
    simp only
    have ih := levels_print r m (p + 1 + x.print.size) (fun y hy => hg y (by simp [hy])) (by simpa using hm) (at_assoc a3 (by omega)) (at_assoc hc (by omega))
    rw [ih, ← hx]
    simp only
    congr 2
    omega
theorem kindT_wordT {k : Nat} (h1 : 1 ≤ k) (h6 : k ≤ 6) : kindT (wordT k) = k ∧ okName (wordT k) := by
  have : k = 1 ∨ k = 2 ∨ k = 3 ∨ k = 4 ∨ k = 5 ∨ k = 6 := by omega
  rcases this with rfl | rfl | rfl | rfl | rfl | rfl <;> exact ⟨by decide, okName_lit (by decide +kernel)⟩
/-- parts, each behind a blank -/
theorem parts_print {T : ByteArray} {n : Nat} (ih : ∀ (t : Trm) (p p' : Nat), goodT t → t.size < n → tokR T p' = tokR T p → At T p (wrT t) → Dl T (p + (wrT t).size) → termR n T ⟨p', none⟩ = (t, ⟨p + (wrT t).size, none⟩))
    {args : List Trm} {p : Nat} (hg : goodTs args) (hs : sizesT args < n) (h : At T p (wrTs args)) (hc : At T (p + (wrTs args).size) ⟨#[41]⟩) : ∀ i : Nat, i ≤ args.length → partsR (termR n T) i ⟨p, none⟩ = (args.take i, ⟨p + (wrTs (args.take i)).size, none⟩) := by
  have s1 : (ByteArray.mk #[32]).size = 1 := rfl
  intro i
  induction i with
  | zero => intro _; rw [List.take_zero]; rfl
  | succ i ihi =>
    intro hi
    have hget : args[i]? = some args[i] := List.getElem?_eq_getElem (by omega)
    have hsz := sizeT_get hget
    have h1 := ihi (by omega)
    have e1 : wrTs args = wrTs (args.take i) ++ (⟨#[32]⟩ ++ wrT args[i]) ++ wrTs (args.drop (i + 1)) := by
      rw [← ByteArray.append_assoc, ← wrTs_take hget, ← wrTs_append, List.take_append_drop]
    have h' := h
    rw [e1] at h'
    have a1 := h'.left.right.left
    have a2 := h'.left.right.right
    have a3 := h'.right
    rw [s1] at a2
    have hdl : Dl T (p + (wrTs (args.take i)).size + 1 + (wrT args[i]).size) := by
      cases hr : args.drop (i + 1) with
      | nil =>
        have e2 := congrArg ByteArray.size e1
        rw [hr] at e2
        simp only [ByteArray.size_append, wrTs, s1, ByteArray.size_empty] at e2
        exact dl_close (at_assoc hc (by omega))
      | cons t r =>
        rw [hr] at a3
        have a4 : At T (p + (wrTs (args.take i) ++ (⟨#[32]⟩ ++ wrT args[i])).size) (⟨#[32]⟩ ++ (wrT t ++ wrTs r)) := by simpa only [wrTs, ByteArray.append_assoc] using a3
        have a5 := dl_space a4.left
        simp only [ByteArray.size_append, s1] at a5
        rwa [show p + (wrTs (args.take i)).size + 1 + (wrT args[i]).size = p + ((wrTs (args.take i)).size + (1 + (wrT args[i]).size)) by omega]
    have ht := tok_space a1.one.1 a1.one.2
    have h2 := ih args[i] (p + (wrTs (args.take i)).size + 1) (p + (wrTs (args.take i)).size) (goodTs_get hg hget) (by omega) ht a2 hdl
    simp only [partsR]
    rw [h1]
    simp only
    rw [h2, List.take_add_one, hget, wrTs_append]
    simp only [Option.toList, wrTs, ByteArray.size_append, s1, ByteArray.size_empty]
    congr 2
    omega
theorem term_print {T : ByteArray} : ∀ (n : Nat) (t : Trm) (p p' : Nat), goodT t → t.size < n → tokR T p' = tokR T p → At T p (wrT t) → Dl T (p + (wrT t).size) → termR n T ⟨p', none⟩ = (t, ⟨p + (wrT t).size, none⟩) := by
  have s40 : (ByteArray.mk #[40]).size = 1 := rfl
  have s32 : (ByteArray.mk #[32]).size = 1 := rfl
  have s41 : (ByteArray.mk #[41]).size = 1 := rfl
  intro n
  induction n with
  | zero => intro t p p' _ h; omega
  | succ n ih =>
    intro t p p' hg hn ht h hd
    obtain ⟨k, m, s, ls, args⟩ := t
    obtain ⟨hgl, hga, hsh⟩ := hg
    simp only [Trm.size] at hn
    by_cases hk0 : k = 0
    · rcases hsh with ⟨_, hm0, hm, rfl, rfl, rfl⟩ | hsh
      · subst hk0
        obtain ⟨m, rfl⟩ := Int.eq_ofNat_of_zero_le hm0
        rw [wrT_var] at h hd ⊢
        simp only [Int.toNat_natCast] at h hd ⊢
        have s35 : (ByteArray.mk #[35]).size = 1 := rfl
        rw [ByteArray.size_append, s35] at hd ⊢
        have hp := ht.trans (at_hash (by omega) h hd)
        have f := digR_facts m
        have hsz : (⟨#[35]⟩ ++ digR m : ByteArray).size = 1 + (digR m).size := by rw [ByteArray.size_append, s35]
        have h35 : byteAt (⟨#[35]⟩ ++ digR m) 0 = 35 := by rw [byteAt_append, if_pos (by decide)]; rfl
        have hne : (⟨#[35]⟩ ++ digR m : ByteArray) ≠ .empty := ne_of_size (by omega)
        have hn40 : (⟨#[35]⟩ ++ digR m : ByteArray) ≠ ⟨#[40]⟩ := fun e => by rw [e] at h35; exact absurd h35 (by decide)
        have hex : (⟨#[35]⟩ ++ digR m : ByteArray).extract 1 (⟨#[35]⟩ ++ digR m : ByteArray).size = digR m := by
          have a : At (⟨#[35]⟩ ++ digR m) 0 (⟨#[35]⟩ ++ digR m) := At.self _
          have b := a.right.extract
          rw [s35, Nat.zero_add] at b
          rw [hsz]; exact b
        rw [termR_num (by rw [hp]; exact ⟨hne, .inl h35⟩) (by rw [hp]; exact hn40), next_at hp (by omega), hp]
        simp only
        rw [hex, hsz, show 1 + (digR m).size - 1 = (digR m).size by omega, f.2.2.1]
      · exfalso; omega
    · obtain ⟨k, rfl⟩ : ∃ j : Nat, k = j := ⟨k.toNat, by omega⟩
      have hk1 : 1 ≤ k ∧ k ≤ 6 := by omega
      have hm0 : m = 0 := by
        rcases hsh with ⟨h0, _⟩ | ⟨_, h0, _⟩ | ⟨_, h0, _⟩ | ⟨_, h0, _⟩ | ⟨_, h0, _⟩
        · exact absurd h0 hk0
        all_goals exact h0
      subst hm0
      obtain ⟨hkw, hkn⟩ := kindT_wordT hk1.1 hk1.2
      have hargs : args.length = partsOf k := by
        unfold partsOf
        rcases hsh with ⟨h0, _⟩ | ⟨h0, _, _, _, rfl⟩ | ⟨h0, _, _, rfl⟩ | ⟨h0, _, _, _, h1⟩ | ⟨h0, _, _, _, h1⟩
        · exact absurd h0 hk0
        · rw [if_pos (by omega)]; rfl
        · rw [if_pos (by omega)]; rfl
        · rw [if_neg (by omega), if_neg (by omega)]; exact h1
        · rw [if_neg (by omega), if_pos (by omega)]; exact h1
      rw [wrT_hd hk0] at h hd ⊢
      have a1 := h.left.left.left
      have a2 := h.left.left.right
      have a3 := h.left.right
      have a4 := h.right
      simp only [ByteArray.size_append] at a3 a4
      -- '(' and the word
      have b0 : At T p (⟨#[40]⟩ ++ wordT k) := by
        unfold hdT at a1
        split at a1
        · exact a1.left.left
        · exact a1
      have b1 := b0.left
      have b2 := b0.right
      rw [s40] at b2
      have hp : tokR T p' = (⟨#[40]⟩, p, true) := ht.trans (at_paren b1 (.inl rfl))
      have e1 : (nextR T ⟨p', none⟩).2 = ⟨p + 1, none⟩ := by rw [next_at hp (by decide)]; rfl
      -- behind the word
      have hhs : (hdT k s).size = if k = 2 then 1 + (wordT k).size + 1 + s.size else 1 + (wordT k).size := by
        unfold hdT
        by_cases hk2 : k = 2
        · rw [if_pos (by omega), if_pos hk2]; simp only [ByteArray.size_append, s40, s32]
        · rw [if_neg (by omega), if_neg hk2]; simp only [ByteArray.size_append, s40]
      have hnext : ∀ q, q = p + (hdT k s).size → Dl T q := by
        rintro q rfl
        cases ls with
        | nil =>
          cases args with
          | nil =>
            simp only [wrL, wrTs, ByteArray.size_empty, Nat.add_zero] at a4
            exact dl_close (at_assoc a4 (by omega))
          | cons t r =>
            simp only [wrL, wrTs, ByteArray.size_empty, Nat.add_zero, ByteArray.append_assoc] at a3
            exact dl_space (at_assoc a3.left (by omega))
        | cons l r =>
          simp only [wrL, ByteArray.append_assoc] at a2
          exact dl_space a2.left
      have hdw : Dl T (p + 1 + (wordT k).size) := by
        by_cases hk2 : k = 2
        · unfold hdT at a1
          rw [if_pos (by omega)] at a1
          have := a1.left.right
          rw [ByteArray.size_append, s40] at this
          exact dl_space (at_assoc this (by omega))
        · exact hnext _ (by rw [hhs, if_neg hk2]; omega)
      have t2 := at_name b2 hkn hdw
      have e2 : (nextR T ⟨p + 1, none⟩).2 = ⟨p + 1 + (wordT k).size, none⟩ := by rw [next_at t2 hkn.ne]
      have c2 : (tokR T p').1 = ⟨#[40]⟩ := by rw [hp]
      have hkk : kindT (tokR T (nextR T ⟨p', none⟩).2.p).1 = k := by rw [e1]; simp only; rw [t2]; exact hkw
      have hcl : At T (p + (hdT k s).size + (wrL ls).size + (wrTs args).size) ⟨#[41]⟩ := at_assoc a4 (by omega)
      have hga3 : At T (p + (hdT k s).size + (wrL ls).size) (wrTs args) := at_assoc a3 (by omega)
      have hhead : headR T k (nextR T (nextR T ⟨p', none⟩).2).2 = (s, ls, ⟨p + (hdT k s).size + (wrL ls).size, none⟩) := by
        rw [e1, e2]
        rcases hsh with ⟨h0, _⟩ | ⟨h0, _, rfl, h1, rfl⟩ | ⟨h0, _, hs, rfl⟩ | ⟨h0, _, rfl, rfl, _⟩ | ⟨h0, _, rfl, rfl, _⟩
        · exact absurd h0 hk0
        · match ls, h1, hgl, a2, a3, hcl, hn with
          | [l], _, hgl, a2, a3, hcl, hn =>
            obtain ⟨x, rfl, _, hw⟩ := hgl l (by simp)
            have hk2 : ¬ k = 2 := by omega
            rw [hhs, if_neg hk2] at a2 hcl ⊢
            simp only [wrL, wrTs, wr_lev, ByteArray.append_empty, ByteArray.size_append, s32, ByteArray.size_empty, Nat.add_zero] at a2 hcl ⊢
            have x1 := a2.left
            have x2 := a2.right
            rw [s32] at x2
            have htk : tokR T (p + 1 + (wordT k).size) = tokR T (p + (1 + (wordT k).size) + 1) := by
              have := tok_space x1.one.1 x1.one.2
              rw [show p + 1 + (wordT k).size = p + (1 + (wordT k).size) by omega]; exact this
            have hlev := levelR_print x hw (T.size + 1) (p + (1 + (wordT k).size) + 1) (p + 1 + (wordT k).size) (by have := print_ge x hw; have := x2.le; omega) htk x2 (dl_close (at_assoc hcl (by omega)))
            unfold headR
            rw [if_pos (by omega), hlev]
            simp only
            congr 3
            omega
        · have hk2 : k = 2 := by omega
          rw [hhs, if_pos hk2] at a2 hcl ⊢
          unfold hdT at a1
          rw [if_pos (by omega)] at a1
          have x1 := a1.left.right
          have x2 := a1.right
          simp only [ByteArray.size_append, s40, s32] at x1 x2
          have htk : tokR T (p + 1 + (wordT k).size) = tokR T (p + (1 + (wordT k).size + 1)) := by
            have := tok_space x1.one.1 x1.one.2
            rw [show p + 1 + (wordT k).size = p + (1 + (wordT k).size) by omega, this]
            rfl
          have hdn : Dl T (p + (1 + (wordT k).size + 1) + s.size) := hnext _ (by rw [hhs, if_pos hk2]; omega)
          have tn := htk.trans (at_name x2 hs hdn)
          have hnm : nameR T ⟨p + 1 + (wordT k).size, none⟩ = (s, ⟨p + (1 + (wordT k).size + 1 + s.size), none⟩) := by
            unfold nameR
            dsimp only
            rw [tn, if_neg (by simp [hs.isName])]
            simp only
            congr 2
            omega
          have hlv := levels_print ls (T.size + 2) (p + (1 + (wordT k).size + 1 + s.size)) hgl (by have := (levs_ge hgl).2; have := a2.le; omega) a2 (by
            simp only [wrTs, ByteArray.size_empty, Nat.add_zero] at hcl
            exact hcl)
          unfold headR
          rw [if_neg (by omega), if_pos hk2, hnm]
          simp only
          rw [hlv]
        all_goals (
          have hk2 : ¬ k = 2 := by omega
          rw [hhs, if_neg hk2]
          unfold headR
          rw [if_neg (by omega), if_neg hk2]
          have e : (wrL []).size = 0 := rfl
          rw [e]
          try simp only
          congr 3
          omega)
      have hpp := parts_print (n := n) (T := T) (fun t p p' h1 h2 h3 h4 h5 => ih t p p' h1 h2 h3 h4 h5) hga (by omega) hga3 hcl args.length (Nat.le_refl _)
      rw [List.take_length] at hpp
      rw [termR_node c2 hkk (by omega) hhead, ← hargs, hpp]
      simp only
      rw [take_at hcl]
      simp only [ByteArray.size_append, s41]
      congr 2
      omega
end Go.Proofs.YtneaancanfpdhaaDoor
namespace Go.Proofs.YtneaancanfpdhaaDoor
open Go.Shelf
def laysM246_ren : Go.Shelf.Ren := ⟨fun | 246 => 80 | 283 => 88 | 284 => 89 | 285 => 90 | 286 => 91 | 129 => 97 | 317 => 96 | 318 => 98 | 319 => 99 | 320 => 100 | 337 => 103 | 338 => 104 | n => n, fun | 2 => 2 | 3 => 3 | 9 => 9 | 4 => 4 | 171 => 125 | 0 => 0 | 53 => 126 | 37 => 59 | 5 => 5 | 173 => 129 | 212 => 140 | 51 => 141 | 20 => 20 | 213 => 142 | 46 => 133 | 232 => 150 | 233 => 151 | n => n, fun | 17 => 5 | 18 => 7 | 19 => 8 | n => n⟩
theorem laysM246 : Go.Proofs.LaysM.n246 Tryd.prog laysM246_ren := {
  mixed := by kernel_rfl
  f129 := Tryd.func97.trans (congrArg some (by kernel_rfl))
  f246 := Tryd.func80.trans (congrArg some (by kernel_rfl))
  f283 := Tryd.func88.trans (congrArg some (by kernel_rfl))
  f284 := Tryd.func89.trans (congrArg some (by kernel_rfl))
  f285 := Tryd.func90.trans (congrArg some (by kernel_rfl))
  f286 := Tryd.func91.trans (congrArg some (by kernel_rfl))
  f317 := Tryd.func96.trans (congrArg some (by kernel_rfl))
  f318 := Tryd.func98.trans (congrArg some (by kernel_rfl))
  f319 := Tryd.func99.trans (congrArg some (by kernel_rfl))
  f320 := Tryd.func100.trans (congrArg some (by kernel_rfl))
  f337 := Tryd.func103.trans (congrArg some (by kernel_rfl))
  f338 := Tryd.func104.trans (congrArg some (by kernel_rfl))
  t0 := Tryd.underlying0
  a0 := Tryd.isAgg0
  z0 := Tryd.sizeOf0
  v0 := Tryd.zeroValue0
  t2 := Tryd.underlying2
  a2 := Tryd.isAgg2
  z2 := Tryd.sizeOf2
  v2 := Tryd.zeroValue2
  t3 := Tryd.underlying3
  a3 := Tryd.isAgg3
  z3 := Tryd.sizeOf3
  v3 := Tryd.zeroValue3
  t4 := Tryd.underlying4
  a4 := Tryd.isAgg4
  z4 := Tryd.sizeOf4
  v4 := Tryd.zeroValue4
  t5 := Tryd.underlying5
  a5 := Tryd.isAgg5
  z5 := Tryd.sizeOf5
  v5 := Tryd.zeroValue5
  t9 := Tryd.underlying9
  a9 := Tryd.isAgg9
  z9 := Tryd.sizeOf9
  v9 := Tryd.zeroValue9
  t20 := Tryd.underlying20
  a20 := Tryd.isAgg20
  z20 := Tryd.sizeOf20
  v20 := Tryd.zeroValue20
  t37 := Tryd.underlying59
  a37 := Tryd.isAgg59
  z37 := Tryd.sizeOf59
  v37 := Tryd.zeroValue59
  t46 := Tryd.underlying133
  a46 := Tryd.isAgg133
  z46 := Tryd.sizeOf133
  v46 := Tryd.zeroValue133
  t51 := Tryd.underlying141
  a51 := Tryd.isAgg141
  z51 := Tryd.sizeOf141
  v51 := Tryd.zeroValue141
  t53 := Tryd.underlying126
  a53 := Tryd.isAgg126
  z53 := Tryd.sizeOf126
  v53 := Tryd.zeroValue126
  t171 := Tryd.underlying125
  a171 := Tryd.isAgg125
  z171 := Tryd.sizeOf125
  v171 := Tryd.zeroValue125
  t173 := Tryd.underlying129
  a173 := Tryd.isAgg129
  z173 := Tryd.sizeOf129
  v173 := Tryd.zeroValue129
  t212 := Tryd.underlying140
  a212 := Tryd.isAgg140
  z212 := Tryd.sizeOf140
  v212 := Tryd.zeroValue140
  t213 := Tryd.underlying142
  a213 := Tryd.isAgg142
  z213 := Tryd.sizeOf142
  t232 := Tryd.underlying150
  a232 := Tryd.isAgg150
  z232 := Tryd.sizeOf150
  v232 := Tryd.zeroValue150
  t233 := Tryd.underlying151
  a233 := Tryd.isAgg151
  z233 := Tryd.sizeOf151
  v233 := Tryd.zeroValue151
  g17 := by kernel_rfl
  g18 := by kernel_rfl
  g19 := by kernel_rfl
  i0 := by kernel_rfl
  i2 := by kernel_rfl
  i3 := by kernel_rfl
  i4 := by kernel_rfl
  i5 := by kernel_rfl
  i9 := by kernel_rfl
  i20 := by kernel_rfl
  i37 := by kernel_rfl
  i46 := by kernel_rfl
  i51 := by kernel_rfl
  i53 := by kernel_rfl
  i171 := by kernel_rfl
  i173 := by kernel_rfl
  i212 := by kernel_rfl
  i232 := by kernel_rfl
  i233 := by kernel_rfl
  m17 := by kernel_rfl
  m18 := by kernel_rfl
  m19 := by kernel_rfl }
def lays156_ren : Go.Shelf.Ren := ⟨fun | 156 => 65 | 165 => 79 | 166 => 38 | 169 => 23 | 240 => 64 | 241 => 87 | 276 => 78 | 277 => 95 | n => n, fun | 31 => 77 | 9 => 9 | 3 => 3 | 4 => 4 | 0 => 0 | 20 => 20 | 72 => 61 | 76 => 82 | 70 => 58 | 37 => 59 | 75 => 40 | 127 => 98 | 164 => 114 | 5 => 5 | 80 => 63 | n => n, fun | n => n⟩
theorem lays156 : Go.Proofs.Lays.n156 Tryd.prog lays156_ren := {
  mixed := by kernel_rfl
  f156 := Tryd.func65.trans (congrArg some (by kernel_rfl))
  f165 := Tryd.func79.trans (congrArg some (by kernel_rfl))
  f166 := Tryd.func38.trans (congrArg some (by kernel_rfl))
  f169 := Tryd.func23.trans (congrArg some (by kernel_rfl))
  f240 := Tryd.func64.trans (congrArg some (by kernel_rfl))
  f241 := Tryd.func87.trans (congrArg some (by kernel_rfl))
  f276 := Tryd.func78.trans (congrArg some (by kernel_rfl))
  f277 := Tryd.func95.trans (congrArg some (by kernel_rfl))
  t0 := Tryd.underlying0
  a0 := Tryd.isAgg0
  z0 := Tryd.sizeOf0
  v0 := Tryd.zeroValue0
  t3 := Tryd.underlying3
  a3 := Tryd.isAgg3
  z3 := Tryd.sizeOf3
  v3 := Tryd.zeroValue3
  t4 := Tryd.underlying4
  a4 := Tryd.isAgg4
  z4 := Tryd.sizeOf4
  v4 := Tryd.zeroValue4
  t9 := Tryd.underlying9
  a9 := Tryd.isAgg9
  z9 := Tryd.sizeOf9
  v9 := Tryd.zeroValue9
  t20 := Tryd.underlying20
  a20 := Tryd.isAgg20
  z20 := Tryd.sizeOf20
  v20 := Tryd.zeroValue20
  t31 := Tryd.underlying77
  a31 := Tryd.isAgg77
  z31 := Tryd.sizeOf77
  v31 := Tryd.zeroValue77
  t37 := Tryd.underlying59
  a37 := Tryd.isAgg59
  z37 := Tryd.sizeOf59
  v37 := Tryd.zeroValue59
  t70 := Tryd.underlying58
  a70 := Tryd.isAgg58
  z70 := Tryd.sizeOf58
  v70 := Tryd.zeroValue58
  t72 := Tryd.underlying61
  a72 := Tryd.isAgg61
  z72 := Tryd.sizeOf61
  v72 := Tryd.zeroValue61
  t75 := Tryd.underlying40
  a75 := Tryd.isAgg40
  z75 := Tryd.sizeOf40
  v75 := Tryd.zeroValue40
  t76 := Tryd.underlying82
  a76 := Tryd.isAgg82
  z76 := Tryd.sizeOf82
  v76 := Tryd.zeroValue82
  t127 := Tryd.underlying98
  a127 := Tryd.isAgg98
  z127 := Tryd.sizeOf98
  v127 := Tryd.zeroValue98
  t164 := Tryd.underlying114
  a164 := Tryd.isAgg114
  z164 := Tryd.sizeOf114
  v164 := Tryd.zeroValue114 }
theorem Builder_Extra_156 : Builder.Extra Tryd.prog lays156_ren := {
  sizeBuilder := by kernel_rfl
  liesBuilder := by kernel_rfl
  t5 := Tryd.underlying5
  a5 := Tryd.isAgg5
  z5 := Tryd.sizeOf5
  v5 := Tryd.zeroValue5
  infoByte := by kernel_rfl
  cellsByte := by kernel_rfl
  sizeByte := by kernel_rfl
  neB5 := by decide }
def laysC172_ren : Go.Shelf.Ren := ⟨fun | 172 => 57 | 244 => 76 | 245 => 77 | 247 => 82 | 279 => 83 | 280 => 84 | 281 => 85 | 282 => 86 | 287 => 92 | 316 => 93 | 171 => 50 | 205 => 94 | 321 => 101 | 322 => 102 | 243 => 68 | 246 => 80 | 283 => 88 | 284 => 89 | 285 => 90 | 286 => 91 | 129 => 97 | 317 => 96 | 318 => 98 | 319 => 99 | 320 => 100 | 337 => 103 | 338 => 104 | n => n, fun | 9 => 9 | 3 => 3 | 75 => 40 | 76 => 82 | 4 => 4 | 5 => 5 | 167 => 119 | 37 => 59 | 0 => 0 | 85 => 120 | 2 => 2 | 168 => 122 | 53 => 126 | 175 => 131 | 46 => 133 | 210 => 136 | 127 => 98 | 145 => 148 | 143 => 146 | 21 => 21 | 171 => 125 | 173 => 129 | 212 => 140 | 51 => 141 | 20 => 20 | 213 => 142 | 232 => 150 | 233 => 151 | 80 => 63 | n => n, fun | 15 => 3 | 16 => 4 | 17 => 5 | 18 => 7 | 19 => 8 | n => n⟩
theorem laysC172 : Go.Proofs.LaysC.n172 Tryd.prog laysC172_ren := {
  mixed := by kernel_rfl
  f129 := Tryd.func97.trans (congrArg some (by kernel_rfl))
  f171 := Tryd.func50.trans (congrArg some (by kernel_rfl))
  f172 := Tryd.func57.trans (congrArg some (by kernel_rfl))
  f205 := Tryd.func94.trans (congrArg some (by kernel_rfl))
  f243 := Tryd.func68.trans (congrArg some (by kernel_rfl))
  f244 := Tryd.func76.trans (congrArg some (by kernel_rfl))
  f245 := Tryd.func77.trans (congrArg some (by kernel_rfl))
  f246 := Tryd.func80.trans (congrArg some (by kernel_rfl))
  f247 := Tryd.func82.trans (congrArg some (by kernel_rfl))
  f279 := Tryd.func83.trans (congrArg some (by kernel_rfl))
  f280 := Tryd.func84.trans (congrArg some (by kernel_rfl))
  f281 := Tryd.func85.trans (congrArg some (by kernel_rfl))
  f282 := Tryd.func86.trans (congrArg some (by kernel_rfl))
  f283 := Tryd.func88.trans (congrArg some (by kernel_rfl))
  f284 := Tryd.func89.trans (congrArg some (by kernel_rfl))
  f285 := Tryd.func90.trans (congrArg some (by kernel_rfl))
  f286 := Tryd.func91.trans (congrArg some (by kernel_rfl))
  f287 := Tryd.func92.trans (congrArg some (by kernel_rfl))
  f316 := Tryd.func93.trans (congrArg some (by kernel_rfl))
  f317 := Tryd.func96.trans (congrArg some (by kernel_rfl))
  f318 := Tryd.func98.trans (congrArg some (by kernel_rfl))
  f319 := Tryd.func99.trans (congrArg some (by kernel_rfl))
  f320 := Tryd.func100.trans (congrArg some (by kernel_rfl))
  f321 := Tryd.func101.trans (congrArg some (by kernel_rfl))
  f322 := Tryd.func102.trans (congrArg some (by kernel_rfl))
  f337 := Tryd.func103.trans (congrArg some (by kernel_rfl))
  f338 := Tryd.func104.trans (congrArg some (by kernel_rfl))
  t0 := Tryd.underlying0
  a0 := Tryd.isAgg0
  z0 := Tryd.sizeOf0
  v0 := Tryd.zeroValue0
  t2 := Tryd.underlying2
  a2 := Tryd.isAgg2
  z2 := Tryd.sizeOf2
  v2 := Tryd.zeroValue2
  t3 := Tryd.underlying3
  a3 := Tryd.isAgg3
  z3 := Tryd.sizeOf3
  v3 := Tryd.zeroValue3
  t4 := Tryd.underlying4
  a4 := Tryd.isAgg4
  z4 := Tryd.sizeOf4
  v4 := Tryd.zeroValue4
  t5 := Tryd.underlying5
  a5 := Tryd.isAgg5
  z5 := Tryd.sizeOf5
  v5 := Tryd.zeroValue5
  t9 := Tryd.underlying9
  a9 := Tryd.isAgg9
  z9 := Tryd.sizeOf9
  v9 := Tryd.zeroValue9
  t20 := Tryd.underlying20
  a20 := Tryd.isAgg20
  z20 := Tryd.sizeOf20
  v20 := Tryd.zeroValue20
  t21 := Tryd.underlying21
  a21 := Tryd.isAgg21
  z21 := Tryd.sizeOf21
  v21 := Tryd.zeroValue21
  t37 := Tryd.underlying59
  a37 := Tryd.isAgg59
  z37 := Tryd.sizeOf59
  v37 := Tryd.zeroValue59
  t46 := Tryd.underlying133
  a46 := Tryd.isAgg133
  z46 := Tryd.sizeOf133
  v46 := Tryd.zeroValue133
  t51 := Tryd.underlying141
  a51 := Tryd.isAgg141
  z51 := Tryd.sizeOf141
  v51 := Tryd.zeroValue141
  t53 := Tryd.underlying126
  a53 := Tryd.isAgg126
  z53 := Tryd.sizeOf126
  v53 := Tryd.zeroValue126
  t75 := Tryd.underlying40
  a75 := Tryd.isAgg40
  z75 := Tryd.sizeOf40
  v75 := Tryd.zeroValue40
  t76 := Tryd.underlying82
  a76 := Tryd.isAgg82
  z76 := Tryd.sizeOf82
  v76 := Tryd.zeroValue82
  t85 := Tryd.underlying120
  a85 := Tryd.isAgg120
  z85 := Tryd.sizeOf120
  v85 := Tryd.zeroValue120
  t127 := Tryd.underlying98
  a127 := Tryd.isAgg98
  z127 := Tryd.sizeOf98
  v127 := Tryd.zeroValue98
  t143 := Tryd.underlying146
  a143 := Tryd.isAgg146
  z143 := Tryd.sizeOf146
  v143 := Tryd.zeroValue146
  t145 := Tryd.underlying148
  a145 := Tryd.isAgg148
  z145 := Tryd.sizeOf148
  v145 := Tryd.zeroValue148
  t167 := Tryd.underlying119
  a167 := Tryd.isAgg119
  z167 := Tryd.sizeOf119
  v167 := Tryd.zeroValue119
  t168 := Tryd.underlying122
  a168 := Tryd.isAgg122
  z168 := Tryd.sizeOf122
  v168 := Tryd.zeroValue122
  t171 := Tryd.underlying125
  a171 := Tryd.isAgg125
  z171 := Tryd.sizeOf125
  v171 := Tryd.zeroValue125
  t173 := Tryd.underlying129
  a173 := Tryd.isAgg129
  z173 := Tryd.sizeOf129
  v173 := Tryd.zeroValue129
  t175 := Tryd.underlying131
  a175 := Tryd.isAgg131
  z175 := Tryd.sizeOf131
  v175 := Tryd.zeroValue131
  t210 := Tryd.underlying136
  a210 := Tryd.isAgg136
  z210 := Tryd.sizeOf136
  v210 := Tryd.zeroValue136
  t212 := Tryd.underlying140
  a212 := Tryd.isAgg140
  z212 := Tryd.sizeOf140
  v212 := Tryd.zeroValue140
  t213 := Tryd.underlying142
  a213 := Tryd.isAgg142
  z213 := Tryd.sizeOf142
  t232 := Tryd.underlying150
  a232 := Tryd.isAgg150
  z232 := Tryd.sizeOf150
  v232 := Tryd.zeroValue150
  t233 := Tryd.underlying151
  a233 := Tryd.isAgg151
  z233 := Tryd.sizeOf151
  v233 := Tryd.zeroValue151
  g15 := by kernel_rfl
  g16 := by kernel_rfl
  g17 := by kernel_rfl
  g18 := by kernel_rfl
  g19 := by kernel_rfl
  t80 := Tryd.underlying63
  a80 := Tryd.isAgg63
  z80 := Tryd.sizeOf63
  v80 := Tryd.zeroValue63
  i0 := by kernel_rfl
  i2 := by kernel_rfl
  i3 := by kernel_rfl
  i4 := by kernel_rfl
  i5 := by kernel_rfl
  i9 := by kernel_rfl
  i20 := by kernel_rfl
  i21 := by kernel_rfl
  i37 := by kernel_rfl
  i46 := by kernel_rfl
  i51 := by kernel_rfl
  i53 := by kernel_rfl
  i75 := by kernel_rfl
  i76 := by kernel_rfl
  i80 := by kernel_rfl
  i85 := by kernel_rfl
  i127 := by kernel_rfl
  i143 := by kernel_rfl
  i145 := by kernel_rfl
  i167 := by kernel_rfl
  i168 := by kernel_rfl
  i171 := by kernel_rfl
  i173 := by kernel_rfl
  i175 := by kernel_rfl
  i210 := by kernel_rfl
  i212 := by kernel_rfl
  i232 := by kernel_rfl
  i233 := by kernel_rfl
  m15 := by kernel_rfl
  m16 := by kernel_rfl
  m17 := by kernel_rfl
  m18 := by kernel_rfl
  m19 := by kernel_rfl
  c0 := by kernel_rfl
  c2 := by kernel_rfl
  c3 := by kernel_rfl
  c4 := by kernel_rfl
  c5 := by kernel_rfl
  c9 := by kernel_rfl
  c20 := by kernel_rfl
  c21 := by kernel_rfl
  c37 := by kernel_rfl
  c46 := by kernel_rfl
  c51 := by kernel_rfl
  c53 := by kernel_rfl
  c75 := by kernel_rfl
  c76 := by kernel_rfl
  c80 := by kernel_rfl
  c85 := by kernel_rfl
  c127 := by kernel_rfl
  c143 := by kernel_rfl
  c145 := by kernel_rfl
  c167 := by kernel_rfl
  c168 := by kernel_rfl
  c171 := by kernel_rfl
  c173 := by kernel_rfl
  c175 := by kernel_rfl
  c210 := by kernel_rfl
  c212 := by kernel_rfl
  c213 := by kernel_rfl
  c232 := by kernel_rfl
  c233 := by kernel_rfl }
end Go.Proofs.YtneaancanfpdhaaDoor
namespace Go.Proofs.YtneaancanfpdhaaDoor
open Go Go.Vd Go.RowKit Go.Shelf Go.Sort Go.Lib
variable {g gl : Nat → List D}

/-- a library contract that returns a text, over worlds, is one of data -/
theorem triD_of_calls {P : Program} {GL : Nat → List D} {f : FuncId} {args : List D} {s : ByteArray}
    (h : ∀ (m : Mem) (w : World) (vs : List Value), (∀ b o x, m b o = some x → w.cell? ⟨b, o, none⟩ = some x) → (∀ b, DenC m b 0 (GL b)) → SDenL ⟨m, []⟩ (args.map .d) vs → Calls P f ⟨vs⟩ w fun e w' => e = .returned (.string s) ∧ Below w.heap.size w w') :
    TriD P GL f args (· = .v (.string s)) := fun g w vs hs hd => by
  have hgs : g.gs = [] := List.length_eq_zero_iff.1 (hs.len ▸ rfl)
  obtain ⟨m, gs⟩ := g
  simp only at hgs
  subst hgs
  refine (h m w vs (fun b o x e => (hs.sat b o x e).1) hs.glob hd).mono fun e w' he => ?_
  obtain ⟨rfl, hb⟩ := he
  have hkeep : ∀ b o x, m b o = some x → w'.cell? ⟨b, o, none⟩ = some x := fun b o x e => by
    have h1 := (hs.sat b o x e).1
    have hlt : b < w.heap.size := by
      unfold World.cell? at h1
      rcases hh : w.heap[b]? with _ | ob
      · rw [hh] at h1; cases h1
      · exact (Array.getElem?_eq_some_iff.1 hh).1
    unfold World.cell? at h1 ⊢
    rw [hb.block b hlt]; exact h1
  refine ⟨⟨m, []⟩, [], ⟨rfl, by simp, by simp, by simp, fun b o x e => ⟨hkeep b o x e, (hs.sat b o x e).2⟩, hs.glob⟩,
    ⟨⟨hb.os, hb.tape, hb.output, hb.size, fun c hc _ => hb.block c hc⟩, Mle.refl _, fun b o x e1 e2 => ?_, by simp, fun i b hi => ?_⟩, by simp, rfl, .d (.v (.string s)), rfl, rfl, _, rfl, rfl⟩
  · simp only at e1 e2; rw [e1] at e2; cases e2
  · simp at hi

theorem digR_lib (n : Nat) : digR n = ⟨(decDigits n).toArray⟩ := by
  induction n using Nat.strongRecOn with
  | _ n ih =>
    rw [decDigits]
    by_cases h : n < 10
    · rw [digR_one h, dif_pos h, Nat.mod_eq_of_lt h]
    · rw [digR_more h, dif_neg h, ih (n / 10) (by omega)]
      apply ByteArray.ext
      simp
def p10D : List D := pow10Tab.map fun z => .v (.int .u64 z)
theorem p10_cell {m : Mem} {w : World} {b : Nat} (hm : ∀ b o x, m b o = some x → w.cell? ⟨b, o, none⟩ = some x) (h : DenC m b 0 p10D) {i : Nat} (hi : i < 20) : w.cell? ⟨b, i, none⟩ = some (.int .u64 ((10 ^ i : Nat) : Int)) := by
  have hl : pow10Tab[i]? = some ((10 ^ i : Nat) : Int) := by
    have := pow10Tab_at i hi
    rw [List.getD_eq_getElem?_getD] at this
    rw [List.getElem?_eq_getElem (by rw [pow10Tab_length]; exact hi)] at this ⊢
    simpa using this
  obtain ⟨x, h1, h2⟩ := DenC.get h (i := i) (d := .v (.int .u64 ((10 ^ i : Nat) : Int))) (by simp [p10D, hl])
  rw [Nat.zero_add] at h1
  rw [hm _ _ _ h1]
  exact congrArg some h2

section
variable {P : Program} {ρ : Ren}
set_option maxHeartbeats 2000000 in
set_option maxRecDepth 100000 in
theorem nd_calls (L : LaysM.n284 P ρ) (u : Nat) (h1 : 1 ≤ u) (h2 : u < 18446744073709551616) (w : World) (hc : w.cell? ⟨ρ.g 17, l10 (Lib.bitLen u), none⟩ = some (.int .u64 ((10 ^ l10 (Lib.bitLen u) : Nat) : Int))) :
    Calls P (ρ.f 284) #[.int .u64 u] w fun e w' => e = .returned (.int .i64 (nDigits u)) ∧ w' = w := by
  have mixed := L.mixed
  have t53 := L.t53; have a53 := L.a53; have z53 := L.z53; have v53 := L.v53
  have t3 := L.t3; have a3 := L.a3; have z3 := L.z3; have v3 := L.v3
  have t212 := L.t212; have a212 := L.a212; have z212 := L.z212; have v212 := L.v212
  have t0 := L.t0; have a0 := L.a0; have z0 := L.z0; have v0 := L.v0
  have t4 := L.t4; have a4 := L.a4; have z4 := L.z4; have v4 := L.v4
  have e129 : ∀ args w, (callFunc (ρ.f 129) args).run P w = .ok (.enter (ρ.f 129) args) w := enters_of L.f129 (by kernel_rfl) rfl
  have e317 : ∀ args w, (callFunc (ρ.f 317) args).run P w = .ok (.enter (ρ.f 317) args) w := enters_of L.f317 (by kernel_rfl) rfl
  have e318 : ∀ args w, (callFunc (ρ.f 318) args).run P w = .ok (.enter (ρ.f 318) args) w := enters_of L.f318 (by kernel_rfl) rfl
  obtain ⟨hnd, h19⟩ := numDigits_eq u h1 h2
  have hL : Lib.bitLen u ≤ 64 := Lib.bitLen_le u 64 (Nat.le_refl _) h2
  have hto : ((u : Int)).toNat = u := by omega
  generalize hq : l10 (Lib.bitLen u) = q at hnd h19 hc
  generalize hT : 10 ^ q = T at hnd hc
  have h20 : q < 20 := by omega
  have Hnd := Lib.hid hnd
  clear hnd
  go_enter L.f284, Body.n284_ntmps ρ
  go_wp2_with (first
    | (go_at_fn (ρ.f 129); refine (Any.bits_Len64 { L with } _ _ (by omega) (by omega)).mono ?_; rintro e w' ⟨rfl, rfl⟩)
    | (go_at_fn (ρ.f 317); refine (Any.internal_strconv_log10Pow2 { L with } _ (by first | exact hL | (rw [hto]; exact hL)) _).mono ?_; rintro e w' ⟨rfl, rfl⟩)
    | (go_at_fn (ρ.f 318); refine (Any.internal_strconv_bool2_int { L with } _ _).mono ?_; rintro e w' ⟨rfl, rfl⟩))
  all_goals go_ret
  all_goals (
    refine ⟨?_, rfl⟩
    have hnd := Hnd.out
    congr 2
    split at hnd <;> simp_all <;> omega)
set_option maxHeartbeats 6400000 in
set_option maxRecDepth 100000 in
theorem fmt_calls (L : LaysM.n246 P ρ) (u : Nat) (hu : u ≤ 99999) (w : World) (hc : ∀ i, i < 20 → w.cell? ⟨ρ.g 17, i, none⟩ = some (.int .u64 ((10 ^ i : Nat) : Int))) :
    Calls P (ρ.f 246) #[.int .i64 u, .int .i64 10] w fun e w' => e = .returned (.string (digR u)) ∧ Below w.heap.size w w' := by
  by_cases hs : u < 100
  · refine (Any.internal_strconv_FormatInt_10_small { L with } u hs w).mono ?_
    rintro e w' ⟨rfl, rfl⟩
    exact ⟨by rw [digR_lib], Below.refl _ _⟩
  have mixed := L.mixed
  have t2 := L.t2; have a2 := L.a2; have z2 := L.z2; have v2 := L.v2
  have t3 := L.t3; have a3 := L.a3; have z3 := L.z3; have v3 := L.v3
  have t9 := L.t9; have a9 := L.a9; have z9 := L.z9; have v9 := L.v9
  have t4 := L.t4; have a4 := L.a4; have z4 := L.z4; have v4 := L.v4
  have t171 := L.t171; have a171 := L.a171; have z171 := L.z171; have v171 := L.v171
  have t0 := L.t0; have a0 := L.a0; have z0 := L.z0; have v0 := L.v0
  have t53 := L.t53; have a53 := L.a53; have z53 := L.z53; have v53 := L.v53
  have t37 := L.t37; have a37 := L.a37; have z37 := L.z37; have v37 := L.v37
  have t5 := L.t5; have a5 := L.a5; have z5 := L.z5; have v5 := L.v5
  have t173 := L.t173; have a173 := L.a173; have z173 := L.z173; have v173 := L.v173
  have e283 : ∀ args w, (callFunc (ρ.f 283) args).run P w = .ok (.enter (ρ.f 283) args) w := enters_of L.f283 (by kernel_rfl) rfl
  have e284 : ∀ args w, (callFunc (ρ.f 284) args).run P w = .ok (.enter (ρ.f 284) args) w := enters_of L.f284 (by kernel_rfl) rfl
  have e285 : ∀ args w, (callFunc (ρ.f 285) args).run P w = .ok (.enter (ρ.f 285) args) w := enters_of L.f285 (by kernel_rfl) rfl
  have hu1 : 1 ≤ u := by omega
  have hu64 : u < 18446744073709551616 := by omega
  have h19 := (numDigits_eq u hu1 hu64).2
  have hnd20 : nDigits u ≤ 20 := by have := numDigits_eq u hu1 hu64; split at this <;> omega
  have hb3 : nDigits u ≤ 23 := by omega
  have hal : P.arrayLen (ρ.t 171) = 24 := by simp [Program.arrayLen, L.t171]
  have hsl1 : ∀ W, (Instr.sliceAt (ρ.t 171) (.pointer (some ⟨w.heap.size, 0, none⟩)) (some (.int .i64 1)) (some (.int .i64 (1 + (nDigits u : Int)))) none).run P W = .ok (.slice (some ⟨w.heap.size, 1, none⟩) (nDigits u) 23) W := fun W => by
    rw [run_sliceAt_array_lh W (ρ.t 171) ⟨w.heap.size, 0, none⟩ (by simp [Program.arrayLen, Program.elem, L.t171]) .i64 .i64 1 (1 + (nDigits u : Int)) (by omega) (by omega) (by rw [hal]; omega)]
    go_simp
    omega
  have hH0 := holds_zero w (ρ.t 171) (nDigits u) (by omega)
  have hfmt := Any.internal_strconv_formatBase10 { L with } w.heap.size 1 23 u (Array.replicate (nDigits u) 0) (w.alloc (.cells zeros24 (ρ.t 171))) hH0 (by rw [Array.size_replicate]; exact lt_pow_nDigits u) hu64 (by rw [Array.size_replicate]; omega)
  rw [Array.size_replicate] at hfmt
  have hcell : (w.alloc (.cells zeros24 (ρ.t 171))).cell? ⟨ρ.g 17, l10 (Lib.bitLen u), none⟩ = some (.int .u64 ((10 ^ l10 (Lib.bitLen u) : Nat) : Int)) := by
    have h := hc (l10 (Lib.bitLen u)) (by omega)
    have hlt : ρ.g 17 < w.heap.size := by
      unfold World.cell? at h
      rcases hh : w.heap[ρ.g 17]? with _ | ob
      · rw [hh] at h; cases h
      · exact (Array.getElem?_eq_some_iff.1 hh).1
    unfold World.cell? at h ⊢
    rw [Below.heap_alloc w _ _ hlt]; exact h
  have HH0 := Lib.hid hH0
  have Hc := Lib.hid hc
  clear hH0 hal hc
  go_enter L.f246, Body.n246_ntmps ρ
  go_wp2_with (first
    | (go_at_fn (ρ.f 284); refine (nd_calls { L with } u hu1 hu64 _ hcell).mono ?_; rintro e w' ⟨rfl, rfl⟩))
  go_at_fn (ρ.f 285)
  refine hfmt.mono ?_
  rintro e w' ⟨rfl, k, v', dk, rfl, hF⟩
  have hcv : (convert (ρ.t 37) (ρ.t 9) (.slice (some ⟨w.heap.size, 1, none⟩) (nDigits u) 23)).run P ((putRow (fun (b : UInt8) => Value.int .u8 (b.toNat : Int)) (w.alloc (.cells zeros24 (ρ.t 171))) w.heap.size 1 dk).drewN k) = .ok (.string ⟨(decDigits u).toArray⟩) ((putRow (fun (b : UInt8) => Value.int .u8 (b.toNat : Int)) (w.alloc (.cells zeros24 (ρ.t 171))) w.heap.size 1 dk).drewN k) := by
    have h := run_convert_bytes_back (P := P) ((putRow (fun (b : UInt8) => Value.int .u8 (b.toNat : Int)) (w.alloc (.cells zeros24 (ρ.t 171))) w.heap.size 1 dk).drewN k) (ρ.t 37) (ρ.t 9) (ρ.t 5) ⟨w.heap.size, 1, none⟩ 23 (decDigits u) L.t37 L.t5 L.t9 (fun j hj => by
      rw [row_is_numeral hF j hj, Lib.add_plain, World.cell?_drewN]
      exact cell?_putRow (fun (b : UInt8) => Value.int .u8 (b.toNat : Int)) _ w.heap.size 1 _ dk HH0.out (by rw [hF.size, Array.size_replicate]) j (by rw [hF.size]; rw [decDigits_length] at hj; exact hj))
    rw [decDigits_length] at h
    exact h
  go_wp2
  go_ret
  obtain ⟨os, eo⟩ := fin_pos w (.cells zeros24 (ρ.t 171)) dk k
  refine ⟨by rw [digR_lib]; rfl, ?_⟩
  rw [eo]
  exact ⟨rfl, rfl, rfl, (by simp [grow]), fun c hc => (by show (w.heap ++ os)[c]? = w.heap[c]?; rw [Array.getElem?_append_left hc])⟩
end

theorem formatInt_spec (hg : gl (laysM246_ren.g 17) = p10D) (n : Nat) (hn : n ≤ 99999) : TriD Tryd.prog gl 80 [.v (.int .i64 n), .v (.int .i64 10)] (· = .v (.string (digR n))) :=
  triD_of_calls fun m w vs hm hG hd => by
    obtain ⟨x, l, rfl, hx, y, l2, rfl, hy, rfl⟩ := hd
    cases hx
    cases hy
    exact fmt_calls laysM246 n hn w fun i hi => p10_cell hm (hg ▸ hG (laysM246_ren.g 17)) hi
end Go.Proofs.YtneaancanfpdhaaDoor
namespace Go.Proofs.YtneaancanfpdhaaDoor
open Go Go.Vd Go.RowKit Go.Shelf Go.Sort Go.Lib
variable {g gl : Nat → List D}

def joinB (l : List ByteArray) (sep : ByteArray) : ByteArray := ⟨(Lib.join (l.map (·.data.toList)) sep.data.toList).toArray⟩
theorem joinB_nil (sep : ByteArray) : joinB [] sep = .empty := rfl
theorem joinB_one (x sep : ByteArray) : joinB [x] sep = x := by
  unfold joinB; rw [List.map_cons, List.map_nil, Lib.join_one]
theorem toB (l : List UInt8) (m : List UInt8) : (⟨(l ++ m).toArray⟩ : ByteArray) = ⟨l.toArray⟩ ++ ⟨m.toArray⟩ := by
  apply ByteArray.ext; simp
theorem toB_self (s : ByteArray) : (⟨s.data.toList.toArray⟩ : ByteArray) = s := by
  apply ByteArray.ext; simp
def tailB (sep : ByteArray) : List ByteArray → ByteArray
  | [] => .empty
  | x :: r => sep ++ x ++ tailB sep r
theorem tailB_lib (sep : ByteArray) : ∀ l : List ByteArray, (⟨(Lib.joinTail sep.data.toList (l.map (·.data.toList))).toArray⟩ : ByteArray) = tailB sep l
  | [] => rfl
  | x :: r => by
    have h := tailB_lib sep r
    simp only [tailB, ← h]
    unfold Lib.joinTail
    simp only [List.map_cons, List.flatten_cons]
    rw [toB, toB, toB_self, toB_self]
theorem joinB_cons (x : ByteArray) (r : List ByteArray) (sep : ByteArray) : joinB (x :: r) sep = x ++ tailB sep r := by
  unfold joinB
  rw [List.map_cons, Lib.join_cons, toB, toB_self, tailB_lib]
theorem tailB_app (sep : ByteArray) (l m : List ByteArray) : tailB sep (l ++ m) = tailB sep l ++ tailB sep m := by
  induction l with
  | nil => simp [tailB]
  | cons a r ih => simp only [List.cons_append, tailB, ih, ByteArray.append_assoc]

theorem joinLib_spec (l : List ByteArray) (sep : ByteArray) (hn : l.length ≤ 140737488355328) (hb : (joinB l sep).size ≤ 140737488355328) :
    TriD Tryd.prog gl 65 [.sl 1 (strs l), .v (.string sep)] (· = .v (.string (joinB l sep))) :=
  triD_of_calls fun m w vs hm hG hd => by
    obtain ⟨x, l1, rfl, hx, y, l2, rfl, hy, rfl⟩ := hd
    cases hy
    obtain ⟨a, cap, rfl, hcap, hel⟩ := hx
    rw [strs_len] at hcap ⊢
    by_cases hl : l = []
    · subst hl
      refine (Any.strings_Join_none lays156 Builder_Extra_156 a cap sep w).mono ?_
      rintro e w' ⟨rfl, rfl⟩
      exact ⟨rfl, Below.refl _ _⟩
    · obtain ⟨b, off, rfl, hr⟩ := hel (by intro e; apply hl; have := congrArg List.length e; rw [strs_len] at this; exact List.length_eq_zero_iff.1 this)
      have hcells : ∀ (j : Nat) x, l[j]? = some x → w.cell? ⟨b, off + j, none⟩ = some (.string x) := fun j x h => by
        obtain ⟨_, h2⟩ := DenR.get hr (i := j) (e := [.v (.string x)]) (by simp [strs, h])
        obtain ⟨⟨v, h3, h4⟩, _⟩ := h2
        rw [Nat.mul_one] at h3
        cases h4
        exact hm _ _ _ h3
      have hbk : b < w.heap.size := by
        have h0 : l[0]? = some l[0]! := by
          cases l with
          | nil => exact absurd rfl hl
          | cons a r => rfl
        have h := hcells 0 _ h0
        unfold World.cell? at h
        rcases hh : w.heap[b]? with _ | ob
        · rw [hh] at h; cases h
        · exact (Array.getElem?_eq_some_iff.1 hh).1
      have hlen : (Lib.join (l.map (·.data.toList)) sep.data.toList).length = (joinB l sep).size := by
        unfold joinB; simp [ByteArray.size]
      exact Any.strings_Join lays156 Builder_Extra_156 b off cap l sep w hcells hbk hn hcap (by rw [hlen]; exact hb)

/-- no number -/
def badNum (t : ByteArray) : Prop := Lib.atoiAll t.data.toList = Lib.atoiAll []
def ifcD (d : D) : Prop := ∀ (m : Mem) (v : Value), d.Den m v → (v = .nilIface ∨ ∃ te pe, v = .iface te pe)
def numErrD (t : ByteArray) (e : D) : D := .ifc 122 (.cp [.v (.string ⟨#[65, 116, 111, 105]⟩), .v (.string t), e])
theorem atoiBad_spec (t : ByteArray) (e : D) (hg : gl (laysC172_ren.g 15) = [e]) (he : ifcD e) (ht : t.size ≤ 281474976710656) (h : badNum t) :
    TriD Tryd.prog gl 57 [.v (.string t)] (· = .tup [.v (.int .i64 0), numErrD t e]) := fun g w vs hs hd => by
  obtain ⟨x, l1, rfl, hx, rfl⟩ := hd
  cases hx
  have hgs : g.gs = [] := List.length_eq_zero_iff.1 (hs.len ▸ rfl)
  obtain ⟨m, gs⟩ := g
  simp only at hgs
  subst hgs
  have hG := hs.glob (laysC172_ren.g 15)
  rw [hg] at hG
  obtain ⟨⟨ev, h1, h2⟩, _⟩ := hG
  have hev := (hs.sat _ _ _ h1)
  have hltm : ∀ b o x, m b o = some x → b < w.heap.size := fun b o x e => by
    have h := (hs.sat b o x e).1
    unfold World.cell? at h
    rcases hh : w.heap[b]? with _ | ob
    · rw [hh] at h; cases h
    · exact (Array.getElem?_eq_some_iff.1 hh).1
  refine (Any.strconv_Atoi_syntax laysC172 t ht h ev w hev.1 (he _ _ h2)).mono fun e' w' hq => ?_
  obtain ⟨N, rfl, hN, hcell, hb⟩ := hq
  let cs : List Value := [.string ⟨#[65, 116, 111, 105]⟩, .string t, ev]
  let m' : Mem := fun b o => if b = N then cs[o]? else m b o
  have hmm : Mle m m' := fun b o x e => by
    have := hltm b o x e
    show (if b = N then _ else _) = _
    rw [if_neg (by omega)]; exact e
  have hkeep : ∀ b o x, m b o = some x → w'.cell? ⟨b, o, none⟩ = some x := fun b o x e => by
    have h1 := (hs.sat b o x e).1
    unfold World.cell? at h1 ⊢
    rw [hb.block b (hltm b o x e)]; exact h1
  have hsat : ∀ b o x, m' b o = some x → w'.cell? ⟨b, o, none⟩ = some x ∧ x.oneCell' = true := fun b o x e => by
    by_cases hbN : b = N
    · have e2 : cs[o]? = some x := by
        have : m' b o = cs[o]? := if_pos hbN
        rw [this] at e; exact e
      subst hbN
      constructor
      · unfold World.cell?
        rw [hcell]
        simpa [cs] using e2
      · rcases o with _ | _ | _ | o
        · simp [cs] at e2; subst e2; rfl
        · simp [cs] at e2; subst e2; rfl
        · simp [cs] at e2; subst e2; exact hev.2
        · simp [cs] at e2
    · have e2 : m b o = some x := by
        have : m' b o = m b o := if_neg hbN
        rw [this] at e; exact e
      exact ⟨hkeep b o x e2, (hs.sat b o x e2).2⟩
  have hm3 : ∀ o, m' N o = cs[o]? := fun o => if_pos rfl
  refine ⟨⟨m', []⟩, [], ⟨rfl, by simp, by simp, by simp, hsat, fun b => DenC.mono hmm _ (hs.glob b)⟩,
    ⟨⟨hb.os, hb.tape, hb.output, hb.size, fun c hc _ => hb.block c hc⟩, hmm, fun b o x e1 e2 => ?_, by simp, fun i b hi => ?_⟩, by simp, rfl, .d (.tup [.v (.int .i64 0), numErrD t e]), ?_, rfl, _, rfl, rfl⟩
  · by_cases hbN : b = N
    · subst hbN; exact .inr hN
    · have e3 : m' b o = m b o := if_neg hbN
      simp only at e1 e2
      rw [e3, e2] at e1; cases e1
  · simp at hi
  · refine ⟨_, rfl, _, _, rfl, rfl, _, _, rfl, ⟨_, rfl, N, 0, rfl, ?_⟩, rfl⟩
    exact ⟨⟨_, hm3 0, rfl⟩, ⟨_, hm3 1, rfl⟩, ⟨_, hm3 2, D.Den.mono hmm _ h2⟩, trivial⟩
end Go.Proofs.YtneaancanfpdhaaDoor
namespace Go.Proofs.YtneaancanfpdhaaDoor
open Go Go.Vd Go.RowKit

def sp : ByteArray := ⟨#[32]⟩
def kwF (k : Int) : ByteArray := if k = 1 then ⟨#[97, 120, 105, 111, 109]⟩ else if k = 2 then ⟨#[100, 101, 102]⟩ else ⟨#[105, 110, 100, 117, 99, 116, 105, 118, 101]⟩
theorem kwF_size (k : Int) : (kwF k).size ≤ 9 := by unfold kwF; split; decide; split <;> decide
def ctorT (c : ByteArray × Trm) : ByteArray := ⟨#[40, 99, 116, 111, 114, 32]⟩ ++ c.1 ++ ⟨#[32]⟩ ++ wrT c.2 ++ ⟨#[41]⟩
def paramT (ps : List ByteArray) : ByteArray := ⟨#[40]⟩ ++ joinB ps sp ++ ⟨#[41]⟩
def headF (k : Int) (nm : ByteArray) (ps : List ByteArray) : List ByteArray := [kwF k, nm, paramT ps]
def arF (k a : Int) : List ByteArray := if k = 3 then [digR a.toNat] else []
def valF (k : Int) (v : Trm) : List ByteArray := if k = 2 then [wrT v] else []
def partsF : Dec → List ByteArray
  | .mk k nm ps t v a cs => headF k nm ps ++ arF k a ++ [wrT t] ++ valF k v ++ cs.map ctorT
/-- the text of a declaration -/
def wrD (d : Dec) : ByteArray := ⟨#[40]⟩ ++ joinB (partsF d) sp ++ ⟨#[41]⟩
/-- declarations that can be printed -/
def okD : Dec → Prop
  | .mk k _ _ t v a cs => (k = 1 ∨ k = 2 ∨ k = 3) ∧ 0 ≤ a ∧ a ≤ 99 ∧ okT t ∧ okT v ∧ ∀ c ∈ cs, okT c.2
def wtS : List ByteArray → Nat
  | [] => 0
  | s :: r => 1 + s.size + wtS r
def wtC : List (ByteArray × Trm) → Nat
  | [] => 0
  | c :: r => 10 + c.1.size + wtT c.2 + wtC r
def wtD : Dec → Nat
  | .mk _ nm ps t v _ cs => 40 + nm.size + wtS ps + wtT t + wtT v + wtC cs
theorem wtS_app (l m : List ByteArray) : wtS (l ++ m) = wtS l + wtS m := by
  induction l with
  | nil => simp [wtS]
  | cons a r ih => simp [wtS, ih]; omega
theorem wtC_app (l m : List (ByteArray × Trm)) : wtC (l ++ m) = wtC l + wtC m := by
  induction l with
  | nil => simp [wtC]
  | cons a r ih => simp [wtC, ih]; omega
theorem wtS_len (l : List ByteArray) : l.length ≤ wtS l := by
  induction l with
  | nil => simp
  | cons a r ih => simp [wtS]; omega
theorem wtC_len (l : List (ByteArray × Trm)) : l.length ≤ wtC l := by
  induction l with
  | nil => simp
  | cons a r ih => simp [wtC]; omega
theorem tailB_size (l : List ByteArray) : (tailB sp l).size = wtS l := by
  have h1 : sp.size = 1 := rfl
  induction l with
  | nil => rfl
  | cons a r ih => simp only [tailB, wtS, ByteArray.size_append, ih, h1]
theorem joinB_size (l : List ByteArray) : (joinB l sp).size ≤ wtS l := by
  cases l with
  | nil => rw [joinB_nil]; simp [wtS]
  | cons a r => rw [joinB_cons, ByteArray.size_append, tailB_size]; simp only [wtS]; omega
theorem ctorT_size {c : ByteArray × Trm} (h : okT c.2) : (ctorT c).size + 1 ≤ 10 + c.1.size + wtT c.2 := by
  have := wrT_size _ h
  simp only [ctorT, ByteArray.size_append, size_mk, List.size_toArray, List.length_cons, List.length_nil]; omega
theorem ctors_size {cs : List (ByteArray × Trm)} (h : ∀ c ∈ cs, okT c.2) : wtS (cs.map ctorT) ≤ wtC cs := by
  induction cs with
  | nil => simp [wtS]
  | cons c r ih =>
    have h1 := ctorT_size (h c (by simp))
    have h2 := ih fun x hx => h x (by simp [hx])
    simp only [List.map_cons, wtS, wtC]; omega
theorem arF_size {k a : Int} (h0 : 0 ≤ a) (h1 : a ≤ 99) : wtS (arF k a) ≤ 6 ∧ (arF k a).length ≤ 1 := by
  have h5 := digR_size5 (n := a.toNat) (by omega)
  unfold arF; split
  · simp only [wtS, List.length_cons, List.length_nil]; omega
  · simp [wtS]
theorem valF_size {k : Int} {v : Trm} (h : okT v) : wtS (valF k v) ≤ 1 + wtT v ∧ (valF k v).length ≤ 1 := by
  have := wrT_size _ h
  unfold valF; split
  · simp only [wtS, List.length_cons, List.length_nil]; omega
  · simp [wtS]
theorem headF_size (k : Int) (nm : ByteArray) (ps : List ByteArray) : wtS (headF k nm ps) ≤ 14 + nm.size + wtS ps := by
  have h1 := kwF_size k
  have h2 := joinB_size ps
  simp only [headF, wtS, paramT, ByteArray.size_append, size_mk, List.size_toArray, List.length_cons, List.length_nil]; omega
theorem parts_size {d : Dec} (h : okD d) : wtS (partsF d) + 2 ≤ wtD d := by
  obtain ⟨k, nm, ps, t, v, a, cs⟩ := d
  obtain ⟨_, h0, h1, h2, h3, h4⟩ := h
  have e1 := headF_size k nm ps
  have e2 := (arF_size (k := k) h0 h1).1
  have e3 := wrT_size _ h2
  have e4 := (valF_size (k := k) h3).1
  have e5 := ctors_size h4
  simp only [partsF, wtS_app, wtS, wtD]; omega
theorem wrD_size {d : Dec} (h : okD d) : (wrD d).size ≤ wtD d := by
  have h1 := parts_size h
  have h2 := joinB_size (partsF d)
  simp only [wrD, ByteArray.size_append, size_mk, List.size_toArray, List.length_cons, List.length_nil]; omega

/-! the reference's way -/
theorem joinB_take_succ {ps : List ByteArray} {i : Nat} (h : i < ps.length) : joinB (ps.take (i + 1)) sp = if 0 < i then joinB (ps.take i) sp ++ sp ++ ps[i] else ps[i] := by
  cases ps with
  | nil => simp at h
  | cons x r =>
    cases i with
    | zero => rw [if_neg (by omega), List.take_succ_cons, List.take_zero, joinB_one]; rfl
    | succ i =>
      rw [if_pos (by omega), List.take_succ_cons, List.take_succ_cons, joinB_cons, joinB_cons, List.take_add_one]
      have hr : i < r.length := by simpa using h
      have h2 : r[i]? = some r[i] := List.getElem?_eq_getElem hr
      rw [h2, tailB_app]
      simp only [Option.toList, tailB, ByteArray.append_assoc, ByteArray.append_empty, List.getElem_cons_succ]
theorem joinB_take_le (ps : List ByteArray) (i : Nat) : (joinB (ps.take i) sp).size ≤ wtS ps := by
  have h1 := joinB_size (ps.take i)
  have h2 : wtS ps = wtS (ps.take i) + wtS (ps.drop i) := by rw [← wtS_app, List.take_append_drop]
  omega
/-- what PrintDecl has behind the parameters, the type, the value -/
def r0 (k : Int) (nm : ByteArray) : ByteArray := ⟨#[40]⟩ ++ kwF k ++ ⟨#[32]⟩ ++ nm ++ ⟨#[32, 40]⟩
def r1 (k : Int) (nm : ByteArray) (ps : List ByteArray) : ByteArray := r0 k nm ++ joinB ps sp ++ ⟨#[41, 32]⟩
def r2 (k : Int) (nm : ByteArray) (ps : List ByteArray) (a : Int) : ByteArray := if k = 3 then r1 k nm ps ++ digR a.toNat ++ ⟨#[32]⟩ else r1 k nm ps
def r3 (k : Int) (nm : ByteArray) (ps : List ByteArray) (a : Int) (t v : Trm) : ByteArray := if k = 2 then r2 k nm ps a ++ wrT t ++ ⟨#[32]⟩ ++ wrT v else r2 k nm ps a ++ wrT t
theorem r2_eq (k : Int) (nm : ByteArray) (ps : List ByteArray) (a : Int) : r2 k nm ps a = ⟨#[40]⟩ ++ joinB (headF k nm ps ++ arF k a) sp ++ sp := by
  have h1 : (⟨#[32, 40]⟩ : ByteArray) = sp ++ ⟨#[40]⟩ := rfl
  have h2 : (⟨#[41, 32]⟩ : ByteArray) = ⟨#[41]⟩ ++ sp := rfl
  have h3 : (⟨#[32]⟩ : ByteArray) = sp := rfl
  unfold r2 arF r1 r0 headF paramT
  split
  · simp only [List.cons_append, List.nil_append, joinB_cons, tailB, ByteArray.append_empty, h1, h2, h3, ByteArray.append_assoc]
  · simp only [List.append_nil, joinB_cons, tailB, ByteArray.append_empty, h1, h2, h3, ByteArray.append_assoc]
theorem joinB_app {l : List ByteArray} (h : l ≠ []) (m : List ByteArray) : joinB (l ++ m) sp = joinB l sp ++ tailB sp m := by
  cases l with
  | nil => exact absurd rfl h
  | cons x r => rw [List.cons_append, joinB_cons, joinB_cons, tailB_app, ByteArray.append_assoc]
theorem r3_eq (k : Int) (nm : ByteArray) (ps : List ByteArray) (a : Int) (t v : Trm) : r3 k nm ps a t v = ⟨#[40]⟩ ++ joinB (headF k nm ps ++ arF k a ++ [wrT t] ++ valF k v) sp := by
  have h3 : (⟨#[32]⟩ : ByteArray) = sp := rfl
  have hne : headF k nm ps ++ arF k a ≠ [] := by simp [headF]
  have hne2 : headF k nm ps ++ arF k a ++ [wrT t] ≠ [] := by simp [headF]
  unfold r3 valF
  split
  · rw [r2_eq, joinB_app hne2, joinB_app hne]
    simp only [tailB, ByteArray.append_empty, h3, ByteArray.append_assoc]
  · rw [r2_eq, List.append_nil, joinB_app hne]
    simp only [tailB, ByteArray.append_empty, h3, ByteArray.append_assoc]
theorem wrD_eq (k : Int) (nm : ByteArray) (ps : List ByteArray) (a : Int) (t v : Trm) (cs : List (ByteArray × Trm)) : wrD (.mk k nm ps t v a cs) = r3 k nm ps a t v ++ tailB sp (cs.map ctorT) ++ ⟨#[41]⟩ := by
  have hne : headF k nm ps ++ arF k a ++ [wrT t] ++ valF k v ≠ [] := by simp [headF]
  rw [r3_eq]
  unfold wrD partsF
  rw [joinB_app hne]
  simp only [ByteArray.append_assoc]
theorem ctorTail_take {cs : List (ByteArray × Trm)} {i : Nat} {nm : ByteArray} {t : Trm} (h : cs[i]? = some (nm, t)) : tailB sp ((cs.take (i + 1)).map ctorT) = tailB sp ((cs.take i).map ctorT) ++ ⟨#[32, 40, 99, 116, 111, 114, 32]⟩ ++ nm ++ ⟨#[32]⟩ ++ wrT t ++ ⟨#[41]⟩ := by
  have h1 : (⟨#[32, 40, 99, 116, 111, 114, 32]⟩ : ByteArray) = sp ++ ⟨#[40, 99, 116, 111, 114, 32]⟩ := rfl
  rw [List.take_add_one, h, List.map_append, tailB_app]
  simp only [Option.toList, List.map_cons, List.map_nil, tailB, ctorT, ByteArray.append_empty, h1, ByteArray.append_assoc]
theorem ctorTail_le {cs : List (ByteArray × Trm)} (h : ∀ c ∈ cs, okT c.2) (i : Nat) : (tailB sp ((cs.take i).map ctorT)).size ≤ wtC cs := by
  rw [tailB_size]
  have h1 := ctors_size h
  have h2 : wtS (cs.map ctorT) = wtS ((cs.take i).map ctorT) + wtS ((cs.drop i).map ctorT) := by rw [← wtS_app, ← List.map_append, List.take_append_drop]
  omega
theorem wtC_get : ∀ {cs : List (ByteArray × Trm)} {i : Nat} {c : ByteArray × Trm}, cs[i]? = some c → c.1.size + wtT c.2 ≤ wtC cs
  | [], i, c, h => by simp at h
  | a :: r, 0, c, h => by simp at h; subst h; simp [wtC]; omega
  | a :: r, i + 1, c, h => by simp at h; have := wtC_get h; simp [wtC]; omega
end Go.Proofs.YtneaancanfpdhaaDoor
namespace Go.Proofs.YtneaancanfpdhaaDoor
open Go Go.Vd Go.RowKit
attribute [local irreducible] Runs OpsR OpR FloatR AnyR AnyO
variable {g gl : Nat → List D}

theorem itoaIn_spec (hg : gl (laysM246_ren.g 17) = p10D) (n : Nat) (hn : n ≤ 99999) : TriD Tryd.prog gl 68 [.v (.int .i64 n)] (· = .v (.string (digR n))) := by
  refine triD_of_runs Tryd.func68 rfl Tryd.ntmps68 (rs := [.tmp 2]) rfl rfl rfl ?_
  refine sr ?_; refine o1 (asg ?_); refine nx ?_; refine sr ?_; refine o1 (mv ?_); refine oc (cv ca80 rfl rfl (formatInt_spec hg n hn) (fir (fir .nil)) ?_); refine o1 (asg ?_); refine nx ?_; refine runs_ret ?_; refine fin_ret ?_
  refine fin_d1 rfl rfl ?_
  rfl
theorem itoa_spec (hg : gl (laysM246_ren.g 17) = p10D) (n : Nat) (hn : n ≤ 99999) : TriD Tryd.prog gl 50 [.v (.int .i64 n)] (· = .v (.string (digR n))) := by
  refine triD_of_runs Tryd.func50 rfl Tryd.ntmps50 (rs := [.tmp 2]) rfl rfl rfl ?_
  refine sr ?_; refine o1 (asg ?_); refine nx ?_; refine sr ?_; refine o1 (mv ?_); refine oc (cv ca68 rfl rfl (itoaIn_spec hg n hn) (fir .nil) ?_); refine o1 (asg ?_); refine nx ?_; refine runs_ret ?_; refine fin_ret ?_
  refine fin_d1 rfl rfl ?_
  rfl
theorem wordT_drop {k : Int} (h0 : 0 ≤ k) (h6 : k ≤ 6) : ∃ r, dropO (k.toNat * 1) (glQ g 1) = some (.v (.string (wordT k)) :: r) := by
  have : k = 0 ∨ k = 1 ∨ k = 2 ∨ k = 3 ∨ k = 4 ∨ k = 5 ∨ k = 6 := by omega
  rcases this with rfl | rfl | rfl | rfl | rfl | rfl | rfl <;> exact ⟨_, rfl⟩
theorem hdT_2 {s : ByteArray} : hdT 2 s = ⟨#[40]⟩ ++ wordT 2 ++ (⟨#[32]⟩ ++ s) := by unfold hdT; rw [if_pos rfl]; simp only [ByteArray.append_assoc]
theorem hdT_no {k : Int} {s : ByteArray} (h : ¬ k = 2) : hdT k s = ⟨#[40]⟩ ++ wordT k := by unfold hdT; rw [if_neg h]
theorem twrite_spec (h3 : g 2 = wordsD) (h7 : g (laysM246_ren.g 17) = p10D) : ∀ (n : Nat) (k m : Int) (s : ByteArray) (ls : List Lvl) (args : List Trm) (used : Bool) (b : ByteArray), wtT (.mk k m s ls args) ≤ n → wtT (.mk k m s ls args) ≤ 1099511627776 → okT (.mk k m s ls args) → b.size + (wrT (.mk k m s ls args)).size ≤ 35184372088832 →
    Tri Tryd.prog (glQ g) 22 (bldO used b) [.blk 0 0, .d (Trm.mk k m s ls args).d] fun out ob' => out = .ret (.d (.tup [])) ∧ ob' = bldO true (b ++ wrT (.mk k m s ls args)) := by
  intro n
  induction n with
  | zero => intro k m s ls args used b h; simp [wtT] at h
  | succ n ih =>
    intro k m s ls args used b hn hb ho hsize
    have hwt := wrT_size _ ho
    obtain ⟨h0, h6, hm0, hm, hl, ha⟩ := ho
    have hll := wtLs_len ls
    have hlt := wtTs_len args
    simp only [wtT] at hn hb hwt
    have hle1 := lvls_len ls
    have hle2 := trms_len args
    by_cases hk : k = 0
    · subst hk
      obtain ⟨m, rfl⟩ := Int.eq_ofNat_of_zero_le hm0
      have hd5 := digR_size5 (n := m) (by omega)
      rw [wrT_var] at hsize ⊢
      simp only [Int.toNat_natCast] at hsize ⊢
      have hck := ws_spec (gl := glQ g) used b (⟨#[35]⟩ ++ digR m) (ne_of_size (by simp only [ByteArray.size_append, size_mk, List.size_toArray, List.length_cons, List.length_nil]; omega)) (by omega)
      cases used
      all_goals (
        unfold bldO bldA
        dsimp only [cond_true, cond_false]
        refine triS_of_runs Tryd.func22 rfl Tryd.ntmps22 (rs := []) rfl rfl rfl 2 rfl ?_
        refine sr ?_; refine oc (T := fun _ => False) (bx ti29 ?_ (hl := by simp only [List.length_cons, List.length_nil, Nat.reduceAdd]; rfl)); refine nx ?_; refine runs_seq ?_; refine sr ?_; refine o1 (fdb ti29 ?_); refine o1 (ldb ti3 ?_)
        refine o1 (ieq ?_); refine nx ?_; refine cdf (fun h1 => ?_) (fun h1 => ?_)
        · simp only [nrm, Int.reduceEq, Int.reduceNe, Int.reduceLT, Int.reduceLE] at h1
        (try simp only [nrm, Int.reduceEq, Int.reduceNe, Int.reduceLT, Int.reduceLE] at h1); refine kp [3, 0] ?_; refine sr ?_; refine o1 (mv ?_); refine o1 (fdb ti29 ?_); refine o1 (ldb ti3 ?_)
        refine oc (cv ca50 rfl rfl (itoa_spec (gl := glQ g) h7 m (by omega)) (fir .nil) ?_); refine o1 (f_sadd ?_ (hb := by (try simp only [ByteArray.size_append, size_mk, List.size_toArray, List.length_cons, List.length_nil]); omega))
        refine oc (ck ca38 rfl rfl (hck) [0, 1] rfl (boc (bor .nil)) (fir (fir .nil)) ?_); refine nx ?_; refine runs_ret ?_; refine seq_ret ?_; refine fin_ret ?_
        refine fin_od (l := []) rfl rfl ([0, 1]) (bldO true (b ++ (⟨#[35]⟩ ++ digR m))) rfl rfl rfl ?_ ?_
        · repeat (first | exact boz | refine boc ?_ | refine bor ?_)
        · exact ⟨rfl, rfl⟩
      )
    · rw [wrT_hd hk] at hwt hsize ⊢
      simp only [ByteArray.size_append, size_mk, List.size_toArray, List.length_cons, List.length_nil] at hwt hsize
      have hw5 := wordT_size k
      have hh1 : (⟨#[40]⟩ ++ wordT k : ByteArray).size = 1 + (wordT k).size := by simp only [ByteArray.size_append, size_mk, List.size_toArray, List.length_cons, List.length_nil]
      have hh2 : (⟨#[32]⟩ ++ s : ByteArray).size = 1 + s.size := by simp only [ByteArray.size_append, size_mk, List.size_toArray, List.length_cons, List.length_nil]
      obtain ⟨rr, hat⟩ := wordT_drop (g := g) h0 h6
      have hck := ws_spec (gl := glQ g) used b (⟨#[40]⟩ ++ wordT k) (ne_of_size (by omega)) (by omega)
      cases used
      all_goals (
        unfold bldO bldA
        dsimp only [cond_true, cond_false]
        refine triS_of_runs Tryd.func22 rfl Tryd.ntmps22 (rs := []) rfl rfl rfl 2 rfl ?_
        refine sr ?_; refine oc (T := fun _ => False) (bx ti29 ?_ (hl := by simp only [List.length_cons, List.length_nil, Nat.reduceAdd]; rfl)); refine nx ?_; refine runs_seq ?_; refine sr ?_; refine o1 (fdb ti29 ?_); refine o1 (ldb ti3 ?_)
        refine o1 (ieq ?_); refine nx ?_; refine cd (fun h1 => ?_) (fun h1 => ?_)
        · (try simp only [nrm, Int.reduceEq, Int.reduceNe, Int.reduceLT, Int.reduceLE] at h1); contradiction
        (try simp only [nrm, Int.reduceEq, Int.reduceNe, Int.reduceLT, Int.reduceLE] at h1); refine runs_skip ?_; refine seq_normal ?_; refine kp [3, 0] ?_; refine sr ?_; refine o1 (mv ?_); refine o1 (fdb ti29 ?_); refine o1 (ldb ti3 ?_)
        refine o1 (f_index_arr ua95 ti9 ?_ (hl := by exact (hat))); refine o1 (ldc ti9 ?_); refine o1 (f_sadd ?_ (hb := by (try simp only [ByteArray.size_append, size_mk, List.size_toArray, List.length_cons, List.length_nil]); omega))
        refine oc (ck ca38 rfl rfl (hck) [0, 1] rfl (boc (bor .nil)) (fir (fir .nil)) ?_); refine nx ?_; refine runs_seq ?_; refine kp [3, 0] ?_; refine sr ?_; refine o1 (fdb ti29 ?_); refine o1 (ldb ti3 ?_); refine o1 (ieq ?_); refine nx ?_
        refine kp [26, 3, 0] ?_
        apply runs_cut_o (ι := ByteArray) (fun hd => []) (fun hd => [.cells [.blk 0 0, .own 1 1 (bytesD hd)] 61, .row 5 1, .cells [.d (.v (.int .i64 k)), .d (.v (.int .i64 m)), .d (.v (.string s)), .d (.sl 3 (lvls ls)), .d (.sl 5 (trms args))] 29]) [3, 0] (fun hd => hd = b ++ hdT k s)
        case hk => exact rfl
        case h1 =>
          refine cdf (fun h4 => ?_) (fun h4 => ?_)
          · (try simp only [nrm, Int.reduceEq, Int.reduceNe, Int.reduceLT, Int.reduceLE] at h4)
            refine runs_skip ?_; refine seq_back ?_; refine back_c (b ++ (⟨#[40]⟩ ++ wordT k)) rfl ?_ ([0, 1, 2]) ?_
            · rw [hdT_no h4]
            · refine mo ?_ (sly (sly slz))
              repeat (first | exact boz | refine boc ?_ | refine bor ?_)
          (try simp only [nrm, Int.reduceEq, Int.reduceNe, Int.reduceLT, Int.reduceLE] at h4); refine runs_region ?_; refine o1 (mv ?_); refine o1 (fdb ti29 ?_); refine o1 (ldb ti9 ?_)
          refine o1 (f_sadd ?_ (hb := by (try simp only [ByteArray.size_append, size_mk, List.size_toArray, List.length_cons, List.length_nil]); omega))
          refine oc (ck ca38 rfl rfl (ws_spec true (b ++ (⟨#[40]⟩ ++ wordT k)) (⟨#[32]⟩ ++ s) (ne_of_size (by omega)) (by rw [ByteArray.size_append]; omega)) [0, 1] rfl (boc (bor .nil)) (fir (fir .nil)) ?_); refine ops_nil ?_; refine seq_back ?_
          refine back_c (b ++ (⟨#[40]⟩ ++ wordT k) ++ (⟨#[32]⟩ ++ s)) rfl ?_ ([0, 1, 2]) ?_
          · rw [h4, hdT_2]; simp only [ByteArray.append_assoc]
          · refine mo ?_ (sly (sly slz))
            repeat (first | exact boz | refine boc ?_ | refine bor ?_)
        case h2 =>
          rintro hd hcut
          try dsimp only at hcut
          refine kp [3, 0] ?_; refine runs_seq ?_; refine runs_seq ?_
          subst hcut
          refine runs_region ?_; refine o1 (fdb ti29 ?_); refine o1 (ldb ti26 ?_); refine o1 (le1 us26 ?_); refine o1 (mv ?_); refine nx ?_; refine runs_block ?_; refine kp [35, 34, 33, 3, 0] ?_
          rw [show b ++ hdT k s = b ++ hdT k s ++ wrL (ls.take 0) by simp [wrL]]
          apply runs_loop_o (ι := Nat) (fun i => [(35, int i)]) (fun i => [.cells [.blk 0 0, .own 1 1 (bytesD (b ++ hdT k s ++ wrL (ls.take i)))] 61, .row 5 1, .cells [.d (.v (.int .i64 k)), .d (.v (.int .i64 m)), .d (.v (.string s)), .d (.sl 3 (lvls ls)), .d (.sl 5 (trms args))] 29]) [34, 33, 3, 0] (fun i => i ≤ ls.length) (fun i => ls.length - i) (0) ([0, 1, 2])
          case hk => exact rfl
          case hI =>
            exact Nat.zero_le _
          case hm =>
            refine mo ?_ (sly (sly (sly (sly (sly slz)))))
            repeat (first | exact boz | refine boc ?_ | refine bor ?_)
          case h =>
            rintro i hinv
            try dsimp only at hinv
            refine kp [35, 34, 33, 3, 0] ?_; refine sr ?_; refine o1 (ilt ?_); refine nx ?_; refine runs_seq ?_; refine cd (fun h7 => ?_) (fun h7 => ?_)
            · (try simp only [nrm, Int.reduceEq, Int.reduceNe, Int.reduceLT, Int.reduceLE] at h7)
              refine runs_skip ?_; refine seq_normal ?_; refine runs_seq ?_; refine runs_block ?_; refine runs_seq ?_
              have hget : ls[i]? = some ls[i] := by simp
              obtain ⟨x, hx, hfx⟩ := okLs_get hl hget
              rw [hx] at hget
              have hwx := wtL_get hget
              rw [wtL_lev] at hwx
              have hpx := x.print_size
              have hsx := x.size_le_weight
              rw [← x.size_toLvl] at hsx
              have hwl := wr_lev x
              obtain ⟨k1, s1, a1, hX⟩ := Lvl.case x.toLvl
              rw [hX] at hget hfx hwl hsx
              have hst := wrL_take_le ls (i + 1)
              have hnext : b ++ hdT k s ++ wrL (ls.take i) ++ (⟨#[32]⟩ ++ wr (.mk k1 s1 a1)) = b ++ hdT k s ++ wrL (ls.take (i + 1)) := (by rw [wrL_take hget]; simp only [ByteArray.append_assoc])
              rw [wrL_take hget, hwl] at hst
              simp only [ByteArray.size_append, size_mk, List.size_toArray, List.length_cons, List.length_nil] at hst
              have hh3 : (⟨#[32]⟩ ++ wr (.mk k1 s1 a1) : ByteArray).size = 1 + x.print.size := (by rw [hwl]; simp only [ByteArray.size_append, size_mk, List.size_toArray, List.length_cons, List.length_nil])
              have hh4 : (wr (.mk k1 s1 a1)).size = x.print.size := (by rw [hwl])
              refine runs_region ?_; refine o1 (ixs us26 te26 ?_ (he := by exact (lvl_at hget))); refine o1 (ldc ti90 ?_); refine oc (T := fun _ => False) (alc ti90 ?_ (hl := by simp only [List.length_cons, List.length_nil, Nat.reduceAdd]; rfl))
              refine oc (sto ti90 ?_); refine nx ?_; refine runs_region ?_; refine o1 (mv ?_); refine o1 (ldb ti90 ?_); refine oc (cv ca51 rfl rfl (pprint_spec (gl := glQ g) h3 k1 s1 a1 (by omega) hfx (by omega)) (fid .nil) ?_)
              refine o1 (f_sadd ?_ (hb := by (try simp only [ByteArray.size_append, size_mk, List.size_toArray, List.length_cons, List.length_nil]); omega))
              refine oc (ck ca38 rfl rfl (ws_spec true (b ++ hdT k s ++ wrL (ls.take i)) (⟨#[32]⟩ ++ wr (.mk k1 s1 a1)) (ne_of_size (by omega)) (by simp only [ByteArray.size_append] at hh3 hsize ⊢; omega)) [0, 1] rfl (boc (bor .nil)) (fir (fir .nil)) ?_)
              refine ops_nil ?_; refine inb_normal ?_; refine seq_normal ?_; refine kp [35, 34, 33, 3, 0] ?_; refine runs_region ?_; refine o1 (iad ?_); refine o1 (mv ?_); refine ops_nil ?_; refine seq_back ?_
              rw [hnext]
              refine back_c (i + 1) rfl ?_ ([0, 1, 2]) ?_
              · exact ⟨by omega, by omega⟩
              · refine mo ?_ (sly (sly (sly (sly (sly slz)))))
                repeat (first | exact boz | refine boc ?_ | refine bor ?_)
            (try simp only [nrm, Int.reduceEq, Int.reduceNe, Int.reduceLT, Int.reduceLE] at h7); refine runs_exit ?_; refine seq_exit ?_; refine seq_exit ?_; refine inb_exit ?_; refine seq_normal ?_; refine runs_seq ?_; refine runs_seq ?_
            refine kp [3, 0] ?_; obtain rfl : i = ls.length := (by omega)
            rw [List.take_length]
            refine runs_region ?_; refine o1 (fdb ti29 ?_); refine o1 (ldb ti27 ?_); refine o1 (le1 us27 ?_); refine o1 (mv ?_); refine nx ?_; refine runs_block ?_; refine kp [48, 47, 46, 0] ?_
            rw [show b ++ hdT k s ++ wrL ls = b ++ hdT k s ++ wrL ls ++ wrTs (args.take 0) by simp [wrTs]]
            apply runs_loop_o (ι := Nat) (fun j => [(48, int j)]) (fun j => [.cells [.blk 0 0, .own 1 1 (bytesD (b ++ hdT k s ++ wrL ls ++ wrTs (args.take j)))] 61, .row 5 1, .cells [.d (.v (.int .i64 k)), .d (.v (.int .i64 m)), .d (.v (.string s)), .d (.sl 3 (lvls ls)), .d (.sl 5 (trms args))] 29]) [47, 46, 0] (fun j => j ≤ args.length) (fun j => args.length - j) (0) ([0, 1, 2])
            case hk => exact rfl
            case hI =>
              exact Nat.zero_le _
            case hm =>
              refine mo ?_ (sly (sly (sly (sly slz))))
              repeat (first | exact boz | refine boc ?_ | refine bor ?_)
            case h =>
              rintro j hinv
              try dsimp only at hinv
              refine kp [48, 47, 46, 0] ?_; refine sr ?_; refine o1 (ilt ?_); refine nx ?_; refine runs_seq ?_; refine cdf (fun h12 => ?_) (fun h12 => ?_)
              · (try simp only [nrm, Int.reduceEq, Int.reduceNe, Int.reduceLT, Int.reduceLE] at h12)
                refine runs_exit ?_; refine seq_exit ?_; refine seq_exit ?_; refine inb_exit ?_; refine seq_normal ?_; refine kp [0] ?_; obtain rfl : j = args.length := (by omega)
                rw [List.take_length]
                refine runs_region ?_; refine o1 (mv ?_); refine oc (ck ca52 rfl rfl (wb_spec true (b ++ hdT k s ++ wrL ls ++ wrTs args) 41 (by simp only [ByteArray.size_append]; omega)) [0, 1] rfl (boc (bor .nil)) (fir (fir .nil)) ?_); refine ops_nil ?_
                refine fin_normal ?_; refine fin_od (l := []) rfl rfl ([0, 1]) (bldO true (b ++ hdT k s ++ wrL ls ++ wrTs args ++ ⟨#[41]⟩)) rfl rfl rfl ?_ ?_
                · repeat (first | exact boz | refine boc ?_ | refine bor ?_)
                · refine ⟨rfl, ?_⟩; simp only [ByteArray.append_assoc]; rfl
              (try simp only [nrm, Int.reduceEq, Int.reduceNe, Int.reduceLT, Int.reduceLE] at h12); refine runs_skip ?_; refine seq_normal ?_; refine runs_seq ?_; refine runs_block ?_; refine runs_seq ?_
              obtain ⟨k2, n2, s2, l2, a2, hget⟩ := trm_get (show j < args.length by omega)
              have hwx := wtT_get hget
              have hox := okT_get ha hget
              have hst := wrTs_take_le args (j + 1)
              have hnext : b ++ hdT k s ++ wrL ls ++ wrTs (args.take j) ++ ⟨#[32]⟩ ++ wrT (.mk k2 n2 s2 l2 a2) = b ++ hdT k s ++ wrL ls ++ wrTs (args.take (j + 1)) := (by rw [wrTs_take hget]; simp only [ByteArray.append_assoc])
              rw [wrTs_take hget] at hst
              simp only [ByteArray.size_append, size_mk, List.size_toArray, List.length_cons, List.length_nil] at hst
              refine runs_region ?_; refine o1 (ixs us27 te27 ?_ (he := by exact (trm_at hget))); refine o1 (ldc ti29 ?_); refine oc (T := fun _ => False) (alc ti29 ?_ (hl := by simp only [List.length_cons, List.length_nil, Nat.reduceAdd]; rfl))
              refine oc (sto ti29 ?_); refine nx ?_; refine sr ?_; refine o1 (mv ?_)
              refine oc (ck ca52 rfl rfl (wb_spec true (b ++ hdT k s ++ wrL ls ++ wrTs (args.take j)) 32 (by simp only [ByteArray.size_append]; omega)) [0, 1] rfl (boc (bor .nil)) (fir (fir .nil)) ?_); refine nx ?_; refine kp [7, 48, 47, 46, 0] ?_
              refine runs_region ?_; refine o1 (mv ?_); refine o1 (ldb ti29 ?_)
              refine oc (ck ca22 rfl rfl (ih k2 n2 s2 l2 a2 true (b ++ hdT k s ++ wrL ls ++ wrTs (args.take j) ++ ⟨#[32]⟩) (by omega) (by omega) hox (by simp only [ByteArray.size_append, size_mk, List.size_toArray, List.length_cons, List.length_nil]; omega)) [0, 1] rfl (boc (bor .nil)) (fir (fid .nil)) ?_)
              refine ops_nil ?_; refine inb_normal ?_; refine seq_normal ?_; refine kp [48, 47, 46, 0] ?_; refine runs_region ?_; refine o1 (iad ?_); refine o1 (mv ?_); refine ops_nil ?_; refine seq_back ?_
              rw [hnext]
              refine back_c (j + 1) rfl ?_ ([0, 1, 2]) ?_
              · exact ⟨by omega, by omega⟩
              · refine mo ?_ (sly (sly (sly (sly slz))))
                repeat (first | exact boz | refine boc ?_ | refine bor ?_)
      )

theorem tprint_spec (h3 : g 2 = wordsD) (h7 : g (laysM246_ren.g 17) = p10D) (k m : Int) (s : ByteArray) (ls : List Lvl) (args : List Trm) (hb : wtT (.mk k m s ls args) ≤ 1099511627776) (ho : okT (.mk k m s ls args)) :
    TriD Tryd.prog (glQ g) 9 [(Trm.mk k m s ls args).d] (· = .v (.string (wrT (.mk k m s ls args)))) := by
  have hsz := wrT_size _ ho
  have hwe := twrite_spec h3 h7 _ k m s ls args false .empty (Nat.le_refl _) hb ho (by have : ByteArray.empty.size = 0 := rfl; omega)
  rw [ByteArray.empty_append] at hwe
  refine triD_of_runs Tryd.func9 rfl Tryd.ntmps9 (rs := [.tmp 2]) rfl rfl rfl ?_
  refine sr ?_; refine oc (T := fun _ => False) (bx ti29 ?_ (hl := by simp only [List.length_cons, List.length_nil, Nat.reduceAdd]; rfl)); refine o1 (asg ?_); refine nx ?_; refine sr ?_
  refine oc (T := fun _ => False) (alc ti61 ?_ (hl := by simp only [List.length_cons, List.length_nil, Nat.reduceAdd]; rfl)); refine nx ?_; refine runs_seq ?_; refine runs_nilrow 5 1 rfl ?_; refine runs_region ?_; refine o1 (ldb ti29 ?_)
  refine oc (ck ca22 rfl rfl (hwe) [1, 2] rfl (.cons rfl (.cells rfl (by repeat (first | exact fiz | refine fir ?_ | refine .cons (.nil rfl) ?_))) (bon .nil)) (fir (fid .nil)) ?_); refine nx ?_; refine kp [3] ?_; refine sr ?_
  refine oc (ck ca23 rfl rfl (bstr_spec (wrT (.mk k m s ls args)) (wrT_ne _)) [1, 2] rfl (boc (bor .nil)) (fir .nil) ?_); refine o1 (asg ?_); refine nx ?_; refine runs_ret ?_; refine fin_ret ?_; refine fin_d1 rfl rfl ?_
  rfl
end Go.Proofs.YtneaancanfpdhaaDoor
namespace Go.Vd
open Go Go.RowKit

theorem bytes_fold (s : ByteArray) : (s.data.toList.map fun c => (c.toNat : Int)).foldl (fun r n => r.push (UInt8.ofNat n.toNat)) ByteArray.empty = s := by
  have h : ∀ (l : List UInt8) (r : ByteArray), (l.map fun c => (c.toNat : Int)).foldl (fun r n => r.push (UInt8.ofNat n.toNat)) r = ⟨⟨r.data.toList ++ l⟩⟩ := by
    intro l
    induction l with
    | nil => intro r; simp
    | cons c l ih =>
      intro r
      simp only [List.map_cons, List.foldl_cons]
      rw [ih]
      simp [ByteArray.push]
  rw [h]
  rfl
theorem fl_bytes_str {P : Program} {GL : Nat → List D} {o : Oper} {σ : St} {K : SV → List Nat → Prop} {src dst e : TypeId} {x : Operand} {s : ByteArray} {i : Nat} {ls : List (List D)} (hu : P.underlying src = some (.slice e)) (he : P.underlying e = some (.int .u8)) (hd : P.underlying dst = some .string) (ho : o.op = .convert src dst x)
    (hx : evO GL σ.sl x = some (.own i 1 ls)) (hls : ls = bytesD s) (hne : s ≠ .empty) (hK : K (.d (.v (.string s))) []) : FloatR P GL o σ K := fun B g a w hr => by
  subst hls
  obtain ⟨ad, cap, h1, hc, hd'⟩ : (D.sl 1 (bytesD s)).Den g.m (a.eval x) := own_sl (hr.evo hx)
  obtain ⟨b, off, rfl, hd2⟩ := hd' (bytesD_ne hne)
  have hm : ∀ (j : Nat) c, s.data.toList[j]? = some c → g.m b (off + j) = some (.int .u8 c.toNat) := fun j c hj => by
    have hj2 : (bytesD s)[j]? = some [.v (.int .u8 c.toNat)] := by simp only [bytesD, List.getElem?_map, hj, Option.map_some]
    obtain ⟨⟨y, hy, hyd⟩, _⟩ := (hd2.get hj2).2
    rw [Nat.mul_one] at hy
    rw [hy]; exact congrArg some hyd
  refine ⟨s.data.toList.zipIdx.map fun p => (⟨b, off + p.2, none⟩, .int .u8 p.1.toNat), .d (.v (.string s)), .string s, [], fun w' hcw => ?_, fun p hp => ?_, fun p hp => ?_, rfl, hK⟩
  · have hl : (loadCells ⟨b, off, none⟩ (bytesD s).length).run P w' = .ok ((s.data.toList.map fun c => (c.toNat : Int)).map (Value.int .u8)).toArray w' := by
      have := run_loadCells_list (P := P) w' ⟨b, off, none⟩ ((s.data.toList.map fun c => (c.toNat : Int)).map (Value.int .u8)) (fun j v hj => by
        rw [addr_add]
        simp only [List.getElem?_map] at hj
        cases hjc : s.data.toList[j]? with
        | none => rw [hjc] at hj; cases hj
        | some c =>
          rw [hjc] at hj
          simp only [Option.map_some, Option.some.injEq] at hj
          subst hj
          exact hcw _ (List.mem_map.2 ⟨(c, j), List.mem_zipIdx_iff_getElem?.2 hjc, rfl⟩))
      simpa [bytesD] using this
    simp only [execOp, ho, h1, Sem.run_bind, run_convert_bytes_string w' src dst e _ _ _ hu he hd, run_bytesToString w' _ _ _ _ hl, Result.andThen_ok, bytes_fold]
    rfl
  · obtain ⟨⟨c, j⟩, hq, rfl⟩ := List.mem_map.1 hp
    rw [List.mem_zipIdx_iff_getElem?] at hq
    exact (hr.store.sat _ _ _ (hm j c hq)).1
  · obtain ⟨⟨c, j⟩, hq, rfl⟩ := List.mem_map.1 hp
    rw [List.mem_zipIdx_iff_getElem?] at hq
    exact ⟨rfl, .inl (hm j c hq)⟩
end Go.Vd
namespace Go.Vd
open Go Go.RowKit

theorem fl_slice3 {P : Program} {GL : Nat → List D} {o : Oper} {σ : St} {K : SV → List Nat → Prop} {T : TypeId} {x lo hi mx : Operand} {k : Nat} {ls ls' : List (List D)} {l h : Int} {k1 k2 k3 : IntKind} {s : SV} {ti : TI} (hu : P.underlying T = some (.slice (tiOf P T).elem)) (hT : tiOf P (tiOf P T).elem = ti) (hok : ti.ok = true) (hs : ti.size = k)
    (ho : o.op = .slice T x (some lo) (some hi) (some mx)) (hx : evO GL σ.sl x = some s) (hxD : s.toD = some (.sl k ls)) (hl : evO GL σ.sl lo = some (.d (.v (.int k1 l)))) (hh : evO GL σ.sl hi = some (.d (.v (.int k2 h)))) (hm : evO GL σ.sl mx = some (.d (.v (.int k3 h)))) (hb : 0 ≤ l ∧ l < h ∧ h ≤ ls.length)
    (hls : (ls.drop l.toNat).take (h.toNat - l.toNat) = ls') (hK : K (.ful k ls') []) : FloatR P GL o σ K := fl_of fun B g a w hr => by
  obtain ⟨ad, cap, e1, hcap, hden⟩ := SV.Den.toD _ (hr.evo hx) hxD
  have e2 : a.eval lo = .int k1 l := hr.evo hl
  have e3 : a.eval hi = .int k2 h := hr.evo hh
  have e4 : a.eval mx = .int k3 h := hr.evo hm
  obtain ⟨b, off, rfl, hdr⟩ := hden (by intro e; rw [e] at hb; simp at hb; omega)
  rw [← hT] at hok hs
  obtain ⟨inf, d, hi', hd', hs', _⟩ := ti_ok hok
  rw [hs] at hs'
  have hlen : ls'.length = h.toNat - l.toNat := by rw [← hls, List.length_take, List.length_drop]; omega
  have hne : ¬ h.toNat = l.toNat := by omega
  have hadd : (⟨b, off, none⟩ : Addr).add (l.toNat * k) = ⟨b, off + l.toNat * k, none⟩ := by rw [addr_add]
  refine ⟨.ful k ls', .slice (some ⟨b, off + l.toNat * k, none⟩) (h.toNat - l.toNat) (h.toNat - l.toNat), fun w' => ?_, ⟨some ⟨b, off + l.toNat * k, none⟩, by rw [hlen], fun _ => ⟨b, _, rfl, ?_⟩⟩, hK⟩
  · simp only [execOp, ho, e1, e2, e3, e4, Option.map_some, Option.map_none, Sem.run_bind]
    have h1 := run_bound (P := P) (kd := k3) (i := h) (y := cap) (c := .slice3Acap) (by omega) (by omega) w'
    have h2 := run_bound (P := P) (kd := k2) (i := h) (y := h.toNat) (c := .slice3B) (by omega) (by omega) w'
    have h3 := run_bound (P := P) (kd := k1) (i := l) (y := h.toNat) (c := .slice3C) (by omega) (by omega) w'
    simp [Instr.sliceAt, Instr.slice, run_underlying hu, Instr.sliceBounds, h1, h2, h3, sizeOf, typeInfo, hi', ← hs', hne]
    simpa using hadd
  · rw [← hls]; exact (hdr.drop _).take _

theorem op_insert {P : Program} {GL : Nat → List D} {n0 : Nat} {Pn : PnS} {o : Oper} {n : Nat} {sl : List (Nat × SV)} {ob ob' : List Ob} {K : St → Prop} {ty k e : TypeId} {x y z : Operand} {i : Nat} {f : ByteArray → Option Int} {s : ByteArray} {v : Int} (hm : MapTy P ty k e) (ho : o.op = .insert ty x y z) (hd : o.dst = none)
    (hx : evO GL sl x = some (.map i)) (hy : evO GL sl y = some (.d (.v (.string s)))) (hz : evO GL sl z = some (.d (.v (.int .i64 v)))) (hi : nthO i ob = some (.mapI f)) (hno : noItOn i ob = true) (hob : set1 i (.mapI (updM f s v)) ob = some ob') (h : K ⟨n, sl, ob'⟩) : OpR P GL n0 Pn (fun j => j = i) o ⟨n, sl, ob⟩ K := fun B hB g a w hr next Q hK hP => by
  obtain ⟨b, hb, hbe⟩ := hr.evo hx
  have hye : a.eval y = .string s := hr.evo hy
  have hze : a.eval z = .int .i64 v := hr.evo hz
  obtain ⟨hmap, hmn⟩ := hr.store.obs _ _ _ (nthO_eq hi) hb
  obtain ⟨w', hrun, hm', hfr⟩ := hmap.update hm.under hm.key s v
  have hrun2 : (execOp a.eval o).run P w = .ok .skip w' := by simp only [execOp, ho, hbe, hye, hze, Sem.run_bind, hrun, Result.andThen_ok, Sem.run_pure]
  unfold Oper.wp
  rw [hrun2]
  show next (a.put o.dst _) _
  rw [hd]
  obtain ⟨h1, h2⟩ := hr.upd1 (o' := .mapI (updM f s v)) (nthO_eq hi) hb rfl hfr ⟨hm', hmn⟩ (.inl rfl) (noItOn_get hno) (fun k f dn cur h => by cases h) hmn
  rw [← (set1_eq hob).1] at h1
  exact hK _ _ _ _ h1 h2 h
theorem fl_usd_nil {P : Program} {GL : Nat → List D} {o : Oper} {σ : St} {K : SV → List Nat → Prop} {x : Operand} {ts : Array TypeId} (ho : o.op = .call { callee := .builtin .unsafeSliceData, args := #[x], argTypes := ts }) (hx : evO GL σ.sl x = some (.d (.v (.slice none 0 0)))) (hK : K (.d (.v (.pointer none))) []) : FloatR P GL o σ K := fl_of fun B g a w hr => by
  have h2 : a.eval x = .slice none 0 0 := hr.evo hx
  refine ⟨.d (.v (.pointer none)), .pointer none, fun w' => ?_, rfl, hK⟩
  have hrun := Lib.run_unsafeSliceData_nil (P := P) w' ts o.type 0 0
  unfold execOp
  simp only [ho, resolve, invoke, builtin, Sem.run_bind, Sem.run_pure, Result.andThen_ok, List.map_toArray, List.map_cons, List.map_nil, h2, hrun]
theorem fl_ustr_nil {P : Program} {GL : Nat → List D} {o : Oper} {σ : St} {K : SV → List Nat → Prop} {x y : Operand} {t u : TypeId} (ho : o.op = .call { callee := .builtin .unsafeString, args := #[x, y], argTypes := #[t, u] }) (hx : evO GL σ.sl x = some (.d (.v (.pointer none)))) (hy : evO GL σ.sl y = some (.d (.v (.int .i64 0)))) (hK : K (.d (.v (.string .empty))) []) : FloatR P GL o σ K := fl_of fun B g a w hr => by
  have h2 : a.eval x = .pointer none := hr.evo hx
  have h3 : a.eval y = .int .i64 0 := hr.evo hy
  refine ⟨.d (.v (.string .empty)), .string .empty, fun w' => ?_, rfl, hK⟩
  have hrun := Lib.run_unsafeString_none (P := P) (w := w') t u o.type none
  unfold execOp
  simp only [ho, resolve, invoke, builtin, Sem.run_bind, Sem.run_pure, Result.andThen_ok, List.map_toArray, List.map_cons, List.map_nil, h2, h3, hrun]
/-- append to a slice with no room: a new row -/
theorem op_append_ful {P : Program} {GL : Nat → List D} {n0 : Nat} {Pn : PnS} {o : Oper} {n t k : Nat} {sl : List (Nat × SV)} {ob ob' : List Ob} {K : St → Prop} {T : Nat → Prop} {ty e : TypeId} {size bytes : Nat} {s x : Operand} {ls news : List (List D)} {sx : SV} (TS : SlTy P ty e size bytes) (ho : o.op = .call { callee := .builtin .append, args := #[s, x], argTypes := #[ty, ty] })
    (hd : o.dst = some t) (ht : Nat.blt t n = true) (hs : evO GL sl s = some (.ful size ls)) (hl0 : ls ≠ []) (hx : evO GL sl x = some sx) (hxD : sx.toD = some (.sl size news)) (hl : ob.length = k) (hob : appO ob [.row e size] = some ob')
    (hsz : 0 < size) (hne : news ≠ []) (h63 : ls.length + news.length ≤ maxLen ∧ (ls.length + news.length) * bytes ≤ 140737488355328) (h : K ⟨n, (t, .own k size (ls ++ news)) :: sl, ob'⟩) : OpR P GL n0 Pn T o ⟨n, sl, ob⟩ K := fun B hB g a w hr next Q hK hP => by
  subst hl
  rw [appO_eq hob] at h
  obtain ⟨as1, hvs, hds⟩ := hr.evo hs
  obtain ⟨bs, offs, rfl, hdr⟩ := hds hl0
  obtain ⟨ax, capx, hvx, hlx, hdx⟩ := SV.Den.toD _ (hr.evo hx) hxD
  obtain ⟨bx, offx, rfl, hdx2⟩ := hdx hne
  obtain ⟨olds, hol, hov⟩ := denR_len hdr
  obtain ⟨nv, hnl, hnv⟩ := denR_len hdx2
  have hl1 : 0 < ls.length := List.length_pos_iff.2 hl0
  have hl2 : 0 < news.length := List.length_pos_iff.2 hne
  have hocell : ∀ j u, olds[j]? = some u → w.cell? ((⟨bs, offs, none⟩ : Addr).add j) = some u := fun j u hu => by
    rw [addr_add]; exact (hr.store.sat _ _ _ (hov j u hu)).1
  have hncell : ∀ j u, nv[j]? = some u → w.cell? ((⟨bx, offx, none⟩ : Addr).add j) = some u := fun j u hu => by
    rw [addr_add]; exact (hr.store.sat _ _ _ (hnv j u hu)).1
  have hone : ∀ u ∈ olds ++ nv, u.oneCell' = true := fun u hu => by
    rcases List.mem_append.1 hu with hu | hu
    · obtain ⟨j, hj⟩ := List.getElem?_of_mem hu
      exact (hr.store.sat _ _ _ (hov j u hj)).2
    · obtain ⟨j, hj⟩ := List.getElem?_of_mem hu
      exact (hr.store.sat _ _ _ (hnv j u hj)).2
  obtain ⟨h63, hbytes⟩ := h63
  have hinfo := TS.info
  have hzero := TS.zero
  cases hi : P.info? e with
  | none => simp [hi] at hinfo
  | some i =>
    rw [hi] at hinfo hzero
    simp only [Option.map_some, Option.some.injEq, Prod.mk.injEq, Option.bind_some] at hinfo hzero
    cases hz : i.zero with
    | none => simp [hz] at hzero
    | some z =>
      rw [hz] at hzero
      simp only [Option.map_some, Option.some.injEq] at hzero
      obtain ⟨q1, q2⟩ := hinfo
      subst q1
      subst q2
      have hsmall : ls.length + news.length ≤ 9223372036854775807 := by simp only [maxLen] at h63; omega
      have hr0 := run_append_grow (P := P) w ty o.type e i z TS.under hi hz ⟨bs, offs, none⟩ ls.length ls.length olds hol hocell ⟨bx, offx, none⟩ news.length capx nv hnl hncell (by omega) (by omega) (growslice_fits (by omega) hbytes)
      have hge := grownCap_ge w (ls.length + news.length) ls.length e
      have hcm : grownCap w (ls.length + news.length) ls.length e ≤ maxLen := grownCap_le_maxLen w (ls.length + news.length) ls.length e h63
      generalize hcap : grownCap w (ls.length + news.length) ls.length e = cap at hr0 hge hcm
      have hlen : (olds ++ nv).length = (ls.length + news.length) * i.size := by rw [List.length_append, hol, hnl, Nat.add_mul]
      have hcs : (olds.toArray ++ nv.toArray ++ Builtin.zeroCells z.cells (cap - (ls.length + news.length))).size = cap * i.size := by
        simp only [Array.size_append, List.size_toArray, size_zeroCells, hzero, hol, hnl, ← Nat.add_mul]
        congr 1
        omega
      have htk : (olds.toArray ++ nv.toArray ++ Builtin.zeroCells z.cells (cap - (ls.length + news.length))).toList.take ((ls.length + news.length) * i.size) = olds ++ nv := by
        simp only [Array.toList_append, List.append_assoc]
        rw [← List.append_assoc, ← hlen]
        exact List.take_left
      generalize hcells : olds.toArray ++ nv.toArray ++ Builtin.zeroCells z.cells (cap - (ls.length + news.length)) = cs at hr0 hcs htk
      have hrun : (execOp a.eval o).run P w = .ok (.value (.slice (some ⟨w.heap.size, 0, none⟩) (ls.length + news.length) cap)) (w.drew.alloc (.cells cs e)) := by
        unfold execOp
        simp only [ho, resolve, invoke, builtin, Sem.run_bind, Sem.run_pure, Result.andThen_ok, List.map_toArray, List.map_cons, List.map_nil, hvs, hvx, hr0]
      unfold Oper.wp
      rw [hrun]
      show next (a.put o.dst _) _
      rw [hd]
      have hm0 : ∀ o, g.m w.heap.size o = none := fun o => by
        cases hx : g.m w.heap.size o with
        | none => rfl
        | some x => have := hr.store.sat_lt hx; omega
      have hm : Mle g.m (mset g.m w.heap.size (olds ++ nv)) := Mle.set fun o x hx => by rw [hm0] at hx; cases hx
      have hcell : ∀ o x, (olds ++ nv)[o]? = some x → (w.drew.alloc (.cells cs e)).cell? ⟨w.heap.size, o, none⟩ = some x := fun o x hx => by
        have h0 : (w.drew.alloc (.cells cs e)).heap[w.heap.size]? = some (.cells cs e (0, 0)) := heap_alloc_new w.drew _
        unfold World.cell?
        rw [h0]
        have h1 : (cs.toList.take ((ls.length + news.length) * i.size))[o]? = some x := by rw [htk]; exact hx
        have h2 : o < (ls.length + news.length) * i.size := by rw [← hlen]; exact (List.getElem?_eq_some_iff.1 hx).1
        rw [List.getElem?_take, if_pos h2] at h1
        simpa using h1
      have hrow : (w.drew.alloc (.cells cs e)).ownsRow 0 e i.size (.slice (some ⟨w.heap.size, 0, none⟩) (ls.length + news.length) cap) (ls.length + news.length) (olds ++ nv) :=
        ⟨hlen, .inr ⟨w.heap.size, cap, cs, rfl, Nat.zero_le _, heap_alloc_new w.drew _, hge, hcm, hcs, htk⟩⟩
      have hA : ∀ b o x, mset g.m w.heap.size (olds ++ nv) b o = some x → g.m b o = none → w.heap.size ≤ b ∧ (w.drew.alloc (.cells cs e)).cell? ⟨b, o, none⟩ = some x ∧ x.oneCell' = true := fun b o x hx hn => by
        unfold mset at hx
        by_cases e5 : b = w.heap.size
        · subst e5
          rw [if_pos rfl] at hx
          exact ⟨Nat.le_refl _, hcell o x hx, hone x (List.mem_of_getElem? hx)⟩
        · rw [if_neg e5, hn] at hx; cases hx
      have hB' : ∀ c, some w.heap.size = some c → ∀ o, (ls.length + news.length) * i.size ≤ o → mset g.m w.heap.size (olds ++ nv) c o = none := fun c hc o ho => by
        simp only [Option.some.injEq] at hc; subst hc
        unfold mset; rw [if_pos rfl, List.getElem?_eq_none (by omega)]
      obtain ⟨h1, h2⟩ := hr.new1 (w' := w.drew.alloc (.cells cs e)) (((Fr.refl _ w).drew).alloc _) hm hA (o' := .row e i.size) (pl := .row (some w.heap.size) cap (ls.length + news.length)) ⟨⟨olds ++ nv, hrow⟩, hB'⟩ (fun b hb => by simp only [blkOf, Option.some.injEq] at hb; omega) (fun i f dn cur e => by cases e)
      refine hK _ _ _ _ (h1.put' (s := .own ob.length i.size (ls ++ news)) ht ⟨some w.heap.size, cap, ?_, ?_, ?_, fun _ => ⟨w.heap.size, rfl, ?_⟩⟩) ⟨h2.1, fun i b o _ => h2.2 i b o (fun x => x)⟩ h
      · show (g.gs ++ [_])[ob.length]? = _
        have hl2 : ob.length = g.gs.length := hr.store.len
        rw [hl2]; simp
      · simp
      · simpa using hge
      · have hms : ∀ j u, (olds ++ nv)[j]? = some u → mset g.m w.heap.size (olds ++ nv) w.heap.size (0 + j) = some u := fun j u hu => by
          unfold mset; rw [if_pos rfl, Nat.zero_add]; exact hu
        refine DenR.append ?_ ?_
        · refine denR_of_row hm hdr fun j y hj hy => ?_
          have h6 : olds[j]? = some olds[j] := List.getElem?_eq_getElem (by omega)
          have h7 := hov j _ h6
          rw [h7] at hy
          cases hy
          exact hms j _ (by rw [List.getElem?_append_left (by omega)]; exact h6)
        · refine denR_of_row hm hdx2 fun j y hj hy => ?_
          have h6 : nv[j]? = some nv[j] := List.getElem?_eq_getElem (by omega)
          have h7 := hnv j _ h6
          rw [h7] at hy
          cases hy
          have := hms (ls.length * i.size + j) nv[j] (by rw [List.getElem?_append_right (by omega), show ls.length * i.size + j - olds.length = j by omega]; exact h6)
          rwa [show 0 + ls.length * i.size + j = 0 + (ls.length * i.size + j) by omega]
end Go.Vd
namespace Go.Proofs.YtneaancanfpdhaaDoor
open Go Go.Vd Go.RowKit
attribute [local irreducible] Runs OpsR OpR FloatR AnyR AnyO
variable {g gl : Nat → List D}

def kwRow : List (List D) := [[.v (.string .empty)], [.v (.string ⟨#[97, 120, 105, 111, 109]⟩)], [.v (.string ⟨#[100, 101, 102]⟩)], [.v (.string ⟨#[105, 110, 100, 117, 99, 116, 105, 118, 101]⟩)]]
theorem kw_piece {k : Int} (h : k = 1 ∨ k = 2 ∨ k = 3) : (kwRow.drop k.toNat).take ((k + 1).toNat - k.toNat) = [[.v (.string (kwF k))]] := by
  rcases h with rfl | rfl | rfl <;> rfl
theorem kwF_ne (k : Int) : kwF k ≠ .empty := by unfold kwF; split; decide; split <;> decide
theorem strs_cons (s : ByteArray) (l : List ByteArray) : strs (s :: l) = [.v (.string s)] :: strs l := rfl
theorem fprint_spec (hg3 : g 2 = wordsD) (hg7 : g (laysM246_ren.g 17) = p10D) (k : Int) (nm : ByteArray) (ps : List ByteArray) (k1 n1 : Int) (s1 : ByteArray) (l1 : List Lvl) (a1 : List Trm) (k2 n2 : Int) (s2 : ByteArray) (l2 : List Lvl) (a2 : List Trm) (a : Int) (cs : List (ByteArray × Trm))
    (ho : okD (.mk k nm ps (.mk k1 n1 s1 l1 a1) (.mk k2 n2 s2 l2 a2) a cs)) (hb : wtD (.mk k nm ps (.mk k1 n1 s1 l1 a1) (.mk k2 n2 s2 l2 a2) a cs) ≤ 1099511627776) :
    TriD Tryd.prog (glQ g) 39 [(Dec.mk k nm ps (.mk k1 n1 s1 l1 a1) (.mk k2 n2 s2 l2 a2) a cs).d] (· = .v (.string (wrD (.mk k nm ps (.mk k1 n1 s1 l1 a1) (.mk k2 n2 s2 l2 a2) a cs)))) := by
  have hps := parts_size ho
  have hws := wrD_size ho
  have hjs := joinB_size (partsF (.mk k nm ps (.mk k1 n1 s1 l1 a1) (.mk k2 n2 s2 l2 a2) a cs))
  have hpl := wtS_len (partsF (.mk k nm ps (.mk k1 n1 s1 l1 a1) (.mk k2 n2 s2 l2 a2) a cs))
  obtain ⟨hk, ha0, ha1, ht, hv, hc⟩ := ho
  have hkp := kw_piece hk
  simp only [wtD] at hb hps hws
  have hp1 := wtS_len ps
  have hj1 := joinB_size ps
  have hlc := ctrs_len cs
  have hcl := wtC_len cs
  obtain ⟨a, rfl⟩ := Int.eq_ofNat_of_zero_le ha0
  rcases hk with rfl | rfl | rfl
  · refine triD_of_runs Tryd.func39 rfl Tryd.ntmps39 (rs := [.tmp 2]) rfl rfl rfl ?_
    refine sr ?_; refine oc (T := fun _ => False) (bx ti80 ?_ (hl := by simp only [List.length_cons, List.length_nil, Nat.reduceAdd]; rfl)); refine o1 (asg ?_); refine nx ?_; refine sr ?_
    refine oc (T := fun _ => False) (op_lit sl77 [.const _, .const _, .const _, .const _] ti9 rfl rfl rfl rfl rfl rfl rfl (by decide) (by decide) (by decide) (by simp only [List.length_cons, List.length_nil, Nat.reduceAdd]; rfl) rfl ?_)
    refine o1 (fdb ti80 ?_); refine o1 (ldb ti3 ?_); refine o1 (fdb ti80 ?_); refine o1 (ldb ti3 ?_); refine o1 (iad ?_); refine o1 (fdb ti80 ?_); refine o1 (ldb ti3 ?_); refine o1 (iad ?_)
    refine o1 (fl_slice3 us77 te77 rfl rfl rfl rfl rfl rfl rfl rfl (by (refine ⟨by omega, by omega, ?_⟩; decide)) (hkp) ?_); refine o1 (asg ?_); refine nx ?_; refine runs_seq ?_; refine kp [3, 1] ?_; refine a_start ?_ (hm := by exact mixed)
    refine A1 0 rfl (mv ⟨_, rfl, ?_⟩); refine A1 1 rfl (fdb ti80 ⟨_, rfl, ?_⟩); refine A1 2 rfl (ldb ti9 ⟨_, rfl, ?_⟩); refine A1 3 rfl (fdb ti80 ⟨_, rfl, ?_⟩); refine A1 4 rfl (ldb ti77 ⟨_, rfl, ?_⟩)
    refine A2 5 rfl (cv ca65 rfl rfl (joinLib_spec ps sp (by omega) (by omega)) (fir (fir .nil)) ?_)
    refine A1 6 rfl (f_sadd ⟨_, rfl, ?_⟩ (hb := by (try simp only [ByteArray.size_append, size_mk, List.size_toArray, List.length_cons, List.length_nil]); omega))
    refine A1 7 rfl (f_sadd ⟨_, rfl, ?_⟩ (hb := by (try simp only [ByteArray.size_append, size_mk, List.size_toArray, List.length_cons, List.length_nil]); omega))
    refine A2 (T := fun _ => False) 8 rfl (op_lit sl77 [.tmp 18, .tmp 23] ti9 rfl rfl rfl rfl rfl rfl rfl (by decide) (by decide) (by decide) (by simp only [List.length_cons, List.length_nil, Nat.reduceAdd]; rfl) rfl ?_)
    refine A2 (T := fun _ => False) 9 rfl (op_append_ful sl77 rfl rfl rfl rfl (by simp) rfl rfl (by simp only [List.length_cons, List.length_nil, Nat.reduceAdd]; rfl) rfl (by decide) (by simp) (by first | decide | (simp only [maxLen, List.length_cons, List.length_nil, List.length_append, List.length_map]; omega) | omega) ?_)
    refine A1 10 rfl (asg ⟨_, rfl, ?_⟩); refine a_end ?_; refine seq_normal ?_; refine runs_seq ?_; refine kp [3, 1] ?_; refine sr ?_; refine o1 (fdb ti80 ?_); refine o1 (ldb ti3 ?_); refine o1 (ieq ?_); refine nx ?_
    refine cd (fun h3 => ?_) (fun h3 => ?_)
    · simp only [nrm, Int.reduceEq, Int.reduceNe, Int.reduceLT, Int.reduceLE] at h3
    (try simp only [nrm, Int.reduceEq, Int.reduceNe, Int.reduceLT, Int.reduceLE] at h3); refine runs_skip ?_; refine seq_normal ?_; refine sr ?_; refine o1 (mv ?_); refine o1 (fdb ti80 ?_); refine o1 (ldb ti29 ?_)
    refine oc (cv ca9 rfl rfl (tprint_spec hg3 hg7 k1 n1 s1 l1 a1 (by omega) ht) (fid .nil) ?_)
    refine oc (T := fun _ => False) (op_lit sl77 [.tmp 38] ti9 rfl rfl rfl rfl rfl rfl rfl (by decide) (by decide) (by decide) (by simp only [List.length_cons, List.length_nil, Nat.reduceAdd]; rfl) rfl ?_)
    refine oc (op_append sl77 rfl rfl rfl rfl rfl rfl rfl (.inl rfl) (by decide) (by simp) (by first | decide | (simp only [maxLen, List.length_cons, List.length_nil, List.length_append, List.length_map]; omega) | omega) rfl rfl rfl ?_)
    refine o1 (asg ?_); refine nx ?_; refine runs_seq ?_; refine kp [3, 1] ?_; refine sr ?_; refine o1 (fdb ti80 ?_); refine o1 (ldb ti3 ?_); refine o1 (ieq ?_); refine nx ?_; refine cd (fun h6 => ?_) (fun h6 => ?_)
    · simp only [nrm, Int.reduceEq, Int.reduceNe, Int.reduceLT, Int.reduceLE] at h6
    (try simp only [nrm, Int.reduceEq, Int.reduceNe, Int.reduceLT, Int.reduceLE] at h6); refine runs_skip ?_; refine seq_normal ?_; refine runs_seq ?_; refine sr ?_; refine o1 (fdb ti80 ?_); refine o1 (ldb ti78 ?_); refine o1 (le1 us78 ?_)
    refine o1 (mv ?_); refine nx ?_; refine runs_block ?_; refine kp [53, 52, 51, 3] ?_
    apply runs_loop_o (ι := Nat) (fun i => [(53, int i), (3, .own 1 1 (strs ((headF 1 nm ps ++ arF 1 a ++ [wrT (.mk k1 n1 s1 l1 a1)] ++ valF 1 (.mk k2 n2 s2 l2 a2)) ++ (cs.take i).map ctorT)))]) (fun i => [.cells [.d (.v (.int .i64 1)), .d (.v (.string nm)), .d (.sl 1 (strs ps)), .d (.v (.int .i64 k1)), .d (.v (.int .i64 n1)), .d (.v (.string s1)), .d (.sl 3 (lvls l1)), .d (.sl 5 (trms a1)), .d (.v (.int .i64 k2)), .d (.v (.int .i64 n2)), .d (.v (.string s2)), .d (.sl 3 (lvls l2)), .d (.sl 5 (trms a2)), .d (.v (.int .i64 a)), .d (.sl 6 (ctrs cs))] 80, .row 9 1]) [52, 51] (fun i => i ≤ cs.length) (fun i => cs.length - i) (0) ([0, 3])
    case hk => exact rfl
    case hI =>
      exact Nat.zero_le _
    case hm =>
      refine mo ?_ (sly (slx rfl (by exact Fit.of_eq (by rfl)) (sly (sly slz))))
      repeat (first | exact boz | refine boc ?_ | refine bor ?_)
    case h =>
      rintro i hinv
      try dsimp only at hinv
      refine kp [53, 3, 52, 51] ?_; refine sr ?_; refine o1 (ilt ?_); refine nx ?_; refine runs_seq ?_; refine cdf (fun h9 => ?_) (fun h9 => ?_)
      · (try simp only [nrm, Int.reduceEq, Int.reduceNe, Int.reduceLT, Int.reduceLE] at h9)
        refine runs_exit ?_; refine seq_exit ?_; refine seq_exit ?_; refine inb_exit ?_; refine seq_normal ?_; refine runs_seq ?_; refine kp [3] ?_; obtain rfl : i = cs.length := (by omega)
        rw [List.take_length]
        refine runs_region ?_; refine o1 (mv ?_); refine oc (cv ca65 rfl rfl (joinLib_spec (partsF (.mk 1 nm ps (.mk k1 n1 s1 l1 a1) (.mk k2 n2 s2 l2 a2) a cs)) sp (by omega) (by omega)) (fid (fir .nil)) ?_)
        refine o1 (f_sadd ?_ (hb := by (try simp only [ByteArray.size_append, size_mk, List.size_toArray, List.length_cons, List.length_nil]); omega))
        refine o1 (f_sadd ?_ (hb := by (try simp only [ByteArray.size_append, size_mk, List.size_toArray, List.length_cons, List.length_nil]); omega)); refine o1 (asg ?_); refine nx ?_; refine runs_ret ?_; refine fin_ret ?_; refine fin_d1 rfl rfl ?_
        rfl
      (try simp only [nrm, Int.reduceEq, Int.reduceNe, Int.reduceLT, Int.reduceLE] at h9); refine runs_skip ?_; refine seq_normal ?_; refine runs_seq ?_; refine runs_block ?_; refine runs_seq ?_
      obtain ⟨cn, k3, n3, s3, l3, a3, hget⟩ := ctr_get (show i < cs.length by omega)
      have hoc := hc _ (List.mem_of_getElem? hget)
      have hwc := wtC_get hget
      have hw3 := wrT_size _ hoc
      simp only at hwc hw3
      have hln : (strs ((headF 1 nm ps ++ arF 1 a ++ [wrT (.mk k1 n1 s1 l1 a1)] ++ valF 1 (.mk k2 n2 s2 l2 a2)) ++ (cs.take i).map ctorT)).length ≤ 6 + i := (by rw [strs_len, List.length_append, List.length_map, List.length_take]; have : ((headF 1 nm ps ++ arF 1 a ++ [wrT (.mk k1 n1 s1 l1 a1)] ++ valF 1 (.mk k2 n2 s2 l2 a2))).length ≤ 6 := (by simp [headF, arF, valF]); omega)
      refine runs_region ?_; refine o1 (ixs us78 te78 ?_ (he := by exact (ctr_at hget))); refine o1 (ldc ti106 ?_); refine oc (T := fun _ => False) (alc ti106 ?_ (hl := by simp only [List.length_cons, List.length_nil, Nat.reduceAdd]; rfl))
      refine oc (sto ti106 ?_); refine nx ?_; refine a_start ?_ (hm := by exact mixed); refine A1 0 rfl (mv ⟨_, rfl, ?_⟩); refine A1 1 rfl (fdb ti106 ⟨_, rfl, ?_⟩); refine A1 2 rfl (ldb ti9 ⟨_, rfl, ?_⟩)
      refine A1 3 rfl (f_sadd ⟨_, rfl, ?_⟩ (hb := by (try simp only [ByteArray.size_append, size_mk, List.size_toArray, List.length_cons, List.length_nil]); omega))
      refine A1 4 rfl (f_sadd ⟨_, rfl, ?_⟩ (hb := by (try simp only [ByteArray.size_append, size_mk, List.size_toArray, List.length_cons, List.length_nil]); omega)); refine A1 5 rfl (fdb ti106 ⟨_, rfl, ?_⟩); refine A1 6 rfl (ldb ti29 ⟨_, rfl, ?_⟩)
      refine A2 7 rfl (cv ca9 rfl rfl (tprint_spec hg3 hg7 k3 n3 s3 l3 a3 (by omega) hoc) (fid .nil) ?_)
      refine A1 8 rfl (f_sadd ⟨_, rfl, ?_⟩ (hb := by (try simp only [ByteArray.size_append, size_mk, List.size_toArray, List.length_cons, List.length_nil]); omega))
      refine A1 9 rfl (f_sadd ⟨_, rfl, ?_⟩ (hb := by (try simp only [ByteArray.size_append, size_mk, List.size_toArray, List.length_cons, List.length_nil]); omega))
      refine A2 (T := fun _ => False) 10 rfl (op_lit sl77 [.tmp 66] ti9 rfl rfl rfl rfl rfl rfl rfl (by decide) (by decide) (by decide) (by simp only [List.length_cons, List.length_nil, Nat.reduceAdd]; rfl) rfl ?_)
      refine A2 11 rfl (op_append sl77 rfl rfl rfl rfl rfl rfl rfl (.inl rfl) (by decide) (by simp) (by first | decide | (simp only [maxLen, List.length_cons, List.length_nil, List.length_append, List.length_map]; omega) | omega) rfl rfl rfl ?_)
      refine A1 12 rfl (asg ⟨_, rfl, ?_⟩); refine a_end ?_; refine inb_normal ?_; refine seq_normal ?_; refine kp [3, 53, 52, 51] ?_; refine runs_region ?_; refine o1 (iad ?_); refine o1 (mv ?_); refine ops_nil ?_; refine seq_back ?_
      refine back_c (i + 1) rfl ?_ ([0, 1]) ?_
      · exact ⟨by omega, by omega⟩
      · refine mo ?_ (sly (slx rfl (by exact Fit.of_eq (by rw [List.take_add_one, hget, List.map_append, ← List.append_assoc, strs_app]; rfl)) (sly (sly slz))))
        repeat (first | exact boz | refine boc ?_ | refine bor ?_)
  · refine triD_of_runs Tryd.func39 rfl Tryd.ntmps39 (rs := [.tmp 2]) rfl rfl rfl ?_
    refine sr ?_; refine oc (T := fun _ => False) (bx ti80 ?_ (hl := by simp only [List.length_cons, List.length_nil, Nat.reduceAdd]; rfl)); refine o1 (asg ?_); refine nx ?_; refine sr ?_
    refine oc (T := fun _ => False) (op_lit sl77 [.const _, .const _, .const _, .const _] ti9 rfl rfl rfl rfl rfl rfl rfl (by decide) (by decide) (by decide) (by simp only [List.length_cons, List.length_nil, Nat.reduceAdd]; rfl) rfl ?_)
    refine o1 (fdb ti80 ?_); refine o1 (ldb ti3 ?_); refine o1 (fdb ti80 ?_); refine o1 (ldb ti3 ?_); refine o1 (iad ?_); refine o1 (fdb ti80 ?_); refine o1 (ldb ti3 ?_); refine o1 (iad ?_)
    refine o1 (fl_slice3 us77 te77 rfl rfl rfl rfl rfl rfl rfl rfl (by (refine ⟨by omega, by omega, ?_⟩; decide)) (hkp) ?_); refine o1 (asg ?_); refine nx ?_; refine runs_seq ?_; refine kp [3, 1] ?_; refine a_start ?_ (hm := by exact mixed)
    refine A1 0 rfl (mv ⟨_, rfl, ?_⟩); refine A1 1 rfl (fdb ti80 ⟨_, rfl, ?_⟩); refine A1 2 rfl (ldb ti9 ⟨_, rfl, ?_⟩); refine A1 3 rfl (fdb ti80 ⟨_, rfl, ?_⟩); refine A1 4 rfl (ldb ti77 ⟨_, rfl, ?_⟩)
    refine A2 5 rfl (cv ca65 rfl rfl (joinLib_spec ps sp (by omega) (by omega)) (fir (fir .nil)) ?_)
    refine A1 6 rfl (f_sadd ⟨_, rfl, ?_⟩ (hb := by (try simp only [ByteArray.size_append, size_mk, List.size_toArray, List.length_cons, List.length_nil]); omega))
    refine A1 7 rfl (f_sadd ⟨_, rfl, ?_⟩ (hb := by (try simp only [ByteArray.size_append, size_mk, List.size_toArray, List.length_cons, List.length_nil]); omega))
    refine A2 (T := fun _ => False) 8 rfl (op_lit sl77 [.tmp 18, .tmp 23] ti9 rfl rfl rfl rfl rfl rfl rfl (by decide) (by decide) (by decide) (by simp only [List.length_cons, List.length_nil, Nat.reduceAdd]; rfl) rfl ?_)
    refine A2 (T := fun _ => False) 9 rfl (op_append_ful sl77 rfl rfl rfl rfl (by simp) rfl rfl (by simp only [List.length_cons, List.length_nil, Nat.reduceAdd]; rfl) rfl (by decide) (by simp) (by first | decide | (simp only [maxLen, List.length_cons, List.length_nil, List.length_append, List.length_map]; omega) | omega) ?_)
    refine A1 10 rfl (asg ⟨_, rfl, ?_⟩); refine a_end ?_; refine seq_normal ?_; refine runs_seq ?_; refine kp [3, 1] ?_; refine sr ?_; refine o1 (fdb ti80 ?_); refine o1 (ldb ti3 ?_); refine o1 (ieq ?_); refine nx ?_
    refine cd (fun h3 => ?_) (fun h3 => ?_)
    · simp only [nrm, Int.reduceEq, Int.reduceNe, Int.reduceLT, Int.reduceLE] at h3
    (try simp only [nrm, Int.reduceEq, Int.reduceNe, Int.reduceLT, Int.reduceLE] at h3); refine runs_skip ?_; refine seq_normal ?_; refine sr ?_; refine o1 (mv ?_); refine o1 (fdb ti80 ?_); refine o1 (ldb ti29 ?_)
    refine oc (cv ca9 rfl rfl (tprint_spec hg3 hg7 k1 n1 s1 l1 a1 (by omega) ht) (fid .nil) ?_)
    refine oc (T := fun _ => False) (op_lit sl77 [.tmp 38] ti9 rfl rfl rfl rfl rfl rfl rfl (by decide) (by decide) (by decide) (by simp only [List.length_cons, List.length_nil, Nat.reduceAdd]; rfl) rfl ?_)
    refine oc (op_append sl77 rfl rfl rfl rfl rfl rfl rfl (.inl rfl) (by decide) (by simp) (by first | decide | (simp only [maxLen, List.length_cons, List.length_nil, List.length_append, List.length_map]; omega) | omega) rfl rfl rfl ?_)
    refine o1 (asg ?_); refine nx ?_; refine runs_seq ?_; refine kp [3, 1] ?_; refine sr ?_; refine o1 (fdb ti80 ?_); refine o1 (ldb ti3 ?_); refine o1 (ieq ?_); refine nx ?_; refine cdf (fun h6 => ?_) (fun h6 => ?_)
    · simp only [nrm, Int.reduceEq, Int.reduceNe, Int.reduceLT, Int.reduceLE] at h6
    (try simp only [nrm, Int.reduceEq, Int.reduceNe, Int.reduceLT, Int.reduceLE] at h6); refine runs_region ?_; refine o1 (mv ?_); refine o1 (fdb ti80 ?_); refine o1 (ldb ti29 ?_)
    refine oc (cv ca9 rfl rfl (tprint_spec hg3 hg7 k2 n2 s2 l2 a2 (by omega) hv) (fid .nil) ?_)
    refine oc (T := fun _ => False) (op_lit sl77 [.tmp 47] ti9 rfl rfl rfl rfl rfl rfl rfl (by decide) (by decide) (by decide) (by simp only [List.length_cons, List.length_nil, Nat.reduceAdd]; rfl) rfl ?_)
    refine oc (op_append sl77 rfl rfl rfl rfl rfl rfl rfl (.inl rfl) (by decide) (by simp) (by first | decide | (simp only [maxLen, List.length_cons, List.length_nil, List.length_append, List.length_map]; omega) | omega) rfl rfl rfl ?_)
    refine o1 (asg ?_); refine nx ?_; refine runs_seq ?_; refine kp [3, 1] ?_; refine sr ?_; refine o1 (fdb ti80 ?_); refine o1 (ldb ti78 ?_); refine o1 (le1 us78 ?_); refine o1 (mv ?_); refine nx ?_; refine runs_block ?_
    refine kp [53, 52, 51, 3] ?_
    apply runs_loop_o (ι := Nat) (fun i => [(53, int i), (3, .own 1 1 (strs ((headF 2 nm ps ++ arF 2 a ++ [wrT (.mk k1 n1 s1 l1 a1)] ++ valF 2 (.mk k2 n2 s2 l2 a2)) ++ (cs.take i).map ctorT)))]) (fun i => [.cells [.d (.v (.int .i64 2)), .d (.v (.string nm)), .d (.sl 1 (strs ps)), .d (.v (.int .i64 k1)), .d (.v (.int .i64 n1)), .d (.v (.string s1)), .d (.sl 3 (lvls l1)), .d (.sl 5 (trms a1)), .d (.v (.int .i64 k2)), .d (.v (.int .i64 n2)), .d (.v (.string s2)), .d (.sl 3 (lvls l2)), .d (.sl 5 (trms a2)), .d (.v (.int .i64 a)), .d (.sl 6 (ctrs cs))] 80, .row 9 1]) [52, 51] (fun i => i ≤ cs.length) (fun i => cs.length - i) (0) ([0, 3])
    case hk => exact rfl
    case hI =>
      exact Nat.zero_le _
    case hm =>
      refine mo ?_ (sly (slx rfl (by exact Fit.of_eq (by rfl)) (sly (sly slz))))
      repeat (first | exact boz | refine boc ?_ | refine bor ?_)
    case h =>
      rintro i hinv
      try dsimp only at hinv
      refine kp [53, 3, 52, 51] ?_; refine sr ?_; refine o1 (ilt ?_); refine nx ?_; refine runs_seq ?_; refine cdf (fun h9 => ?_) (fun h9 => ?_)
      · (try simp only [nrm, Int.reduceEq, Int.reduceNe, Int.reduceLT, Int.reduceLE] at h9)
        refine runs_exit ?_; refine seq_exit ?_; refine seq_exit ?_; refine inb_exit ?_; refine seq_normal ?_; refine runs_seq ?_; refine kp [3] ?_; obtain rfl : i = cs.length := (by omega)
        rw [List.take_length]
        refine runs_region ?_; refine o1 (mv ?_); refine oc (cv ca65 rfl rfl (joinLib_spec (partsF (.mk 2 nm ps (.mk k1 n1 s1 l1 a1) (.mk k2 n2 s2 l2 a2) a cs)) sp (by omega) (by omega)) (fid (fir .nil)) ?_)
        refine o1 (f_sadd ?_ (hb := by (try simp only [ByteArray.size_append, size_mk, List.size_toArray, List.length_cons, List.length_nil]); omega))
        refine o1 (f_sadd ?_ (hb := by (try simp only [ByteArray.size_append, size_mk, List.size_toArray, List.length_cons, List.length_nil]); omega)); refine o1 (asg ?_); refine nx ?_; refine runs_ret ?_; refine fin_ret ?_; refine fin_d1 rfl rfl ?_
        rfl
      (try simp only [nrm, Int.reduceEq, Int.reduceNe, Int.reduceLT, Int.reduceLE] at h9); refine runs_skip ?_; refine seq_normal ?_; refine runs_seq ?_; refine runs_block ?_; refine runs_seq ?_
      obtain ⟨cn, k3, n3, s3, l3, a3, hget⟩ := ctr_get (show i < cs.length by omega)
      have hoc := hc _ (List.mem_of_getElem? hget)
      have hwc := wtC_get hget
      have hw3 := wrT_size _ hoc
      simp only at hwc hw3
      have hln : (strs ((headF 2 nm ps ++ arF 2 a ++ [wrT (.mk k1 n1 s1 l1 a1)] ++ valF 2 (.mk k2 n2 s2 l2 a2)) ++ (cs.take i).map ctorT)).length ≤ 6 + i := (by rw [strs_len, List.length_append, List.length_map, List.length_take]; have : ((headF 2 nm ps ++ arF 2 a ++ [wrT (.mk k1 n1 s1 l1 a1)] ++ valF 2 (.mk k2 n2 s2 l2 a2))).length ≤ 6 := (by simp [headF, arF, valF]); omega)
      refine runs_region ?_; refine o1 (ixs us78 te78 ?_ (he := by exact (ctr_at hget))); refine o1 (ldc ti106 ?_); refine oc (T := fun _ => False) (alc ti106 ?_ (hl := by simp only [List.length_cons, List.length_nil, Nat.reduceAdd]; rfl))
      refine oc (sto ti106 ?_); refine nx ?_; refine a_start ?_ (hm := by exact mixed); refine A1 0 rfl (mv ⟨_, rfl, ?_⟩); refine A1 1 rfl (fdb ti106 ⟨_, rfl, ?_⟩); refine A1 2 rfl (ldb ti9 ⟨_, rfl, ?_⟩)
      refine A1 3 rfl (f_sadd ⟨_, rfl, ?_⟩ (hb := by (try simp only [ByteArray.size_append, size_mk, List.size_toArray, List.length_cons, List.length_nil]); omega))
      refine A1 4 rfl (f_sadd ⟨_, rfl, ?_⟩ (hb := by (try simp only [ByteArray.size_append, size_mk, List.size_toArray, List.length_cons, List.length_nil]); omega)); refine A1 5 rfl (fdb ti106 ⟨_, rfl, ?_⟩); refine A1 6 rfl (ldb ti29 ⟨_, rfl, ?_⟩)
      refine A2 7 rfl (cv ca9 rfl rfl (tprint_spec hg3 hg7 k3 n3 s3 l3 a3 (by omega) hoc) (fid .nil) ?_)
      refine A1 8 rfl (f_sadd ⟨_, rfl, ?_⟩ (hb := by (try simp only [ByteArray.size_append, size_mk, List.size_toArray, List.length_cons, List.length_nil]); omega))
      refine A1 9 rfl (f_sadd ⟨_, rfl, ?_⟩ (hb := by (try simp only [ByteArray.size_append, size_mk, List.size_toArray, List.length_cons, List.length_nil]); omega))
      refine A2 (T := fun _ => False) 10 rfl (op_lit sl77 [.tmp 66] ti9 rfl rfl rfl rfl rfl rfl rfl (by decide) (by decide) (by decide) (by simp only [List.length_cons, List.length_nil, Nat.reduceAdd]; rfl) rfl ?_)
      refine A2 11 rfl (op_append sl77 rfl rfl rfl rfl rfl rfl rfl (.inl rfl) (by decide) (by simp) (by first | decide | (simp only [maxLen, List.length_cons, List.length_nil, List.length_append, List.length_map]; omega) | omega) rfl rfl rfl ?_)
      refine A1 12 rfl (asg ⟨_, rfl, ?_⟩); refine a_end ?_; refine inb_normal ?_; refine seq_normal ?_; refine kp [3, 53, 52, 51] ?_; refine runs_region ?_; refine o1 (iad ?_); refine o1 (mv ?_); refine ops_nil ?_; refine seq_back ?_
      refine back_c (i + 1) rfl ?_ ([0, 1]) ?_
      · exact ⟨by omega, by omega⟩
      · refine mo ?_ (sly (slx rfl (by exact Fit.of_eq (by rw [List.take_add_one, hget, List.map_append, ← List.append_assoc, strs_app]; rfl)) (sly (sly slz))))
        repeat (first | exact boz | refine boc ?_ | refine bor ?_)
  · refine triD_of_runs Tryd.func39 rfl Tryd.ntmps39 (rs := [.tmp 2]) rfl rfl rfl ?_
    refine sr ?_; refine oc (T := fun _ => False) (bx ti80 ?_ (hl := by simp only [List.length_cons, List.length_nil, Nat.reduceAdd]; rfl)); refine o1 (asg ?_); refine nx ?_; refine sr ?_
    refine oc (T := fun _ => False) (op_lit sl77 [.const _, .const _, .const _, .const _] ti9 rfl rfl rfl rfl rfl rfl rfl (by decide) (by decide) (by decide) (by simp only [List.length_cons, List.length_nil, Nat.reduceAdd]; rfl) rfl ?_)
    refine o1 (fdb ti80 ?_); refine o1 (ldb ti3 ?_); refine o1 (fdb ti80 ?_); refine o1 (ldb ti3 ?_); refine o1 (iad ?_); refine o1 (fdb ti80 ?_); refine o1 (ldb ti3 ?_); refine o1 (iad ?_)
    refine o1 (fl_slice3 us77 te77 rfl rfl rfl rfl rfl rfl rfl rfl (by (refine ⟨by omega, by omega, ?_⟩; decide)) (hkp) ?_); refine o1 (asg ?_); refine nx ?_; refine runs_seq ?_; refine kp [3, 1] ?_; refine a_start ?_ (hm := by exact mixed)
    refine A1 0 rfl (mv ⟨_, rfl, ?_⟩); refine A1 1 rfl (fdb ti80 ⟨_, rfl, ?_⟩); refine A1 2 rfl (ldb ti9 ⟨_, rfl, ?_⟩); refine A1 3 rfl (fdb ti80 ⟨_, rfl, ?_⟩); refine A1 4 rfl (ldb ti77 ⟨_, rfl, ?_⟩)
    refine A2 5 rfl (cv ca65 rfl rfl (joinLib_spec ps sp (by omega) (by omega)) (fir (fir .nil)) ?_)
    refine A1 6 rfl (f_sadd ⟨_, rfl, ?_⟩ (hb := by (try simp only [ByteArray.size_append, size_mk, List.size_toArray, List.length_cons, List.length_nil]); omega))
    refine A1 7 rfl (f_sadd ⟨_, rfl, ?_⟩ (hb := by (try simp only [ByteArray.size_append, size_mk, List.size_toArray, List.length_cons, List.length_nil]); omega))
    refine A2 (T := fun _ => False) 8 rfl (op_lit sl77 [.tmp 18, .tmp 23] ti9 rfl rfl rfl rfl rfl rfl rfl (by decide) (by decide) (by decide) (by simp only [List.length_cons, List.length_nil, Nat.reduceAdd]; rfl) rfl ?_)
    refine A2 (T := fun _ => False) 9 rfl (op_append_ful sl77 rfl rfl rfl rfl (by simp) rfl rfl (by simp only [List.length_cons, List.length_nil, Nat.reduceAdd]; rfl) rfl (by decide) (by simp) (by first | decide | (simp only [maxLen, List.length_cons, List.length_nil, List.length_append, List.length_map]; omega) | omega) ?_)
    refine A1 10 rfl (asg ⟨_, rfl, ?_⟩); refine a_end ?_; refine seq_normal ?_; refine runs_seq ?_; refine kp [3, 1] ?_; refine sr ?_; refine o1 (fdb ti80 ?_); refine o1 (ldb ti3 ?_); refine o1 (ieq ?_); refine nx ?_
    refine cdf (fun h3 => ?_) (fun h3 => ?_)
    · simp only [nrm, Int.reduceEq, Int.reduceNe, Int.reduceLT, Int.reduceLE] at h3
    (try simp only [nrm, Int.reduceEq, Int.reduceNe, Int.reduceLT, Int.reduceLE] at h3); refine runs_region ?_; refine o1 (mv ?_); refine o1 (fdb ti80 ?_); refine o1 (ldb ti3 ?_)
    refine oc (cv ca50 rfl rfl (itoa_spec (gl := glQ g) hg7 a (by omega)) (fir .nil) ?_)
    refine oc (T := fun _ => False) (op_lit sl77 [.tmp 32] ti9 rfl rfl rfl rfl rfl rfl rfl (by decide) (by decide) (by decide) (by simp only [List.length_cons, List.length_nil, Nat.reduceAdd]; rfl) rfl ?_)
    refine oc (op_append sl77 rfl rfl rfl rfl rfl rfl rfl (.inl rfl) (by decide) (by simp) (by first | decide | (simp only [maxLen, List.length_cons, List.length_nil, List.length_append, List.length_map]; omega) | omega) rfl rfl rfl ?_)
    refine o1 (asg ?_); refine nx ?_; refine kp [3, 1] ?_; refine sr ?_; refine o1 (mv ?_); refine o1 (fdb ti80 ?_); refine o1 (ldb ti29 ?_); refine oc (cv ca9 rfl rfl (tprint_spec hg3 hg7 k1 n1 s1 l1 a1 (by omega) ht) (fid .nil) ?_)
    refine oc (T := fun _ => False) (op_lit sl77 [.tmp 38] ti9 rfl rfl rfl rfl rfl rfl rfl (by decide) (by decide) (by decide) (by simp only [List.length_cons, List.length_nil, Nat.reduceAdd]; rfl) rfl ?_)
    refine oc (op_append sl77 rfl rfl rfl rfl rfl rfl rfl (.inl rfl) (by decide) (by simp) (by first | decide | (simp only [maxLen, List.length_cons, List.length_nil, List.length_append, List.length_map]; omega) | omega) rfl rfl rfl ?_)
    refine o1 (asg ?_); refine nx ?_; refine runs_seq ?_; refine kp [3, 1] ?_; refine sr ?_; refine o1 (fdb ti80 ?_); refine o1 (ldb ti3 ?_); refine o1 (ieq ?_); refine nx ?_; refine cd (fun h6 => ?_) (fun h6 => ?_)
    · simp only [nrm, Int.reduceEq, Int.reduceNe, Int.reduceLT, Int.reduceLE] at h6
    (try simp only [nrm, Int.reduceEq, Int.reduceNe, Int.reduceLT, Int.reduceLE] at h6); refine runs_skip ?_; refine seq_normal ?_; refine runs_seq ?_; refine sr ?_; refine o1 (fdb ti80 ?_); refine o1 (ldb ti78 ?_); refine o1 (le1 us78 ?_)
    refine o1 (mv ?_); refine nx ?_; refine runs_block ?_; refine kp [53, 52, 51, 3] ?_
    apply runs_loop_o (ι := Nat) (fun i => [(53, int i), (3, .own 1 1 (strs ((headF 3 nm ps ++ arF 3 a ++ [wrT (.mk k1 n1 s1 l1 a1)] ++ valF 3 (.mk k2 n2 s2 l2 a2)) ++ (cs.take i).map ctorT)))]) (fun i => [.cells [.d (.v (.int .i64 3)), .d (.v (.string nm)), .d (.sl 1 (strs ps)), .d (.v (.int .i64 k1)), .d (.v (.int .i64 n1)), .d (.v (.string s1)), .d (.sl 3 (lvls l1)), .d (.sl 5 (trms a1)), .d (.v (.int .i64 k2)), .d (.v (.int .i64 n2)), .d (.v (.string s2)), .d (.sl 3 (lvls l2)), .d (.sl 5 (trms a2)), .d (.v (.int .i64 a)), .d (.sl 6 (ctrs cs))] 80, .row 9 1]) [52, 51] (fun i => i ≤ cs.length) (fun i => cs.length - i) (0) ([0, 3])
    case hk => exact rfl
    case hI =>
      exact Nat.zero_le _
    case hm =>
      refine mo ?_ (sly (slx rfl (by exact Fit.of_eq (by rfl)) (sly (sly slz))))
      repeat (first | exact boz | refine boc ?_ | refine bor ?_)
    case h =>
      rintro i hinv
      try dsimp only at hinv
      refine kp [53, 3, 52, 51] ?_; refine sr ?_; refine o1 (ilt ?_); refine nx ?_; refine runs_seq ?_; refine cdf (fun h9 => ?_) (fun h9 => ?_)
      · (try simp only [nrm, Int.reduceEq, Int.reduceNe, Int.reduceLT, Int.reduceLE] at h9)
        refine runs_exit ?_; refine seq_exit ?_; refine seq_exit ?_; refine inb_exit ?_; refine seq_normal ?_; refine runs_seq ?_; refine kp [3] ?_; obtain rfl : i = cs.length := (by omega)
        rw [List.take_length]
        refine runs_region ?_; refine o1 (mv ?_); refine oc (cv ca65 rfl rfl (joinLib_spec (partsF (.mk 3 nm ps (.mk k1 n1 s1 l1 a1) (.mk k2 n2 s2 l2 a2) a cs)) sp (by omega) (by omega)) (fid (fir .nil)) ?_)
        refine o1 (f_sadd ?_ (hb := by (try simp only [ByteArray.size_append, size_mk, List.size_toArray, List.length_cons, List.length_nil]); omega))
        refine o1 (f_sadd ?_ (hb := by (try simp only [ByteArray.size_append, size_mk, List.size_toArray, List.length_cons, List.length_nil]); omega)); refine o1 (asg ?_); refine nx ?_; refine runs_ret ?_; refine fin_ret ?_; refine fin_d1 rfl rfl ?_
        rfl
      (try simp only [nrm, Int.reduceEq, Int.reduceNe, Int.reduceLT, Int.reduceLE] at h9); refine runs_skip ?_; refine seq_normal ?_; refine runs_seq ?_; refine runs_block ?_; refine runs_seq ?_
      obtain ⟨cn, k3, n3, s3, l3, a3, hget⟩ := ctr_get (show i < cs.length by omega)
      have hoc := hc _ (List.mem_of_getElem? hget)
      have hwc := wtC_get hget
      have hw3 := wrT_size _ hoc
      simp only at hwc hw3
      have hln : (strs ((headF 3 nm ps ++ arF 3 a ++ [wrT (.mk k1 n1 s1 l1 a1)] ++ valF 3 (.mk k2 n2 s2 l2 a2)) ++ (cs.take i).map ctorT)).length ≤ 6 + i := (by rw [strs_len, List.length_append, List.length_map, List.length_take]; have : ((headF 3 nm ps ++ arF 3 a ++ [wrT (.mk k1 n1 s1 l1 a1)] ++ valF 3 (.mk k2 n2 s2 l2 a2))).length ≤ 6 := (by simp [headF, arF, valF]); omega)
      refine runs_region ?_; refine o1 (ixs us78 te78 ?_ (he := by exact (ctr_at hget))); refine o1 (ldc ti106 ?_); refine oc (T := fun _ => False) (alc ti106 ?_ (hl := by simp only [List.length_cons, List.length_nil, Nat.reduceAdd]; rfl))
      refine oc (sto ti106 ?_); refine nx ?_; refine a_start ?_ (hm := by exact mixed); refine A1 0 rfl (mv ⟨_, rfl, ?_⟩); refine A1 1 rfl (fdb ti106 ⟨_, rfl, ?_⟩); refine A1 2 rfl (ldb ti9 ⟨_, rfl, ?_⟩)
      refine A1 3 rfl (f_sadd ⟨_, rfl, ?_⟩ (hb := by (try simp only [ByteArray.size_append, size_mk, List.size_toArray, List.length_cons, List.length_nil]); omega))
      refine A1 4 rfl (f_sadd ⟨_, rfl, ?_⟩ (hb := by (try simp only [ByteArray.size_append, size_mk, List.size_toArray, List.length_cons, List.length_nil]); omega)); refine A1 5 rfl (fdb ti106 ⟨_, rfl, ?_⟩); refine A1 6 rfl (ldb ti29 ⟨_, rfl, ?_⟩)
      refine A2 7 rfl (cv ca9 rfl rfl (tprint_spec hg3 hg7 k3 n3 s3 l3 a3 (by omega) hoc) (fid .nil) ?_)
      refine A1 8 rfl (f_sadd ⟨_, rfl, ?_⟩ (hb := by (try simp only [ByteArray.size_append, size_mk, List.size_toArray, List.length_cons, List.length_nil]); omega))
      refine A1 9 rfl (f_sadd ⟨_, rfl, ?_⟩ (hb := by (try simp only [ByteArray.size_append, size_mk, List.size_toArray, List.length_cons, List.length_nil]); omega))
      refine A2 (T := fun _ => False) 10 rfl (op_lit sl77 [.tmp 66] ti9 rfl rfl rfl rfl rfl rfl rfl (by decide) (by decide) (by decide) (by simp only [List.length_cons, List.length_nil, Nat.reduceAdd]; rfl) rfl ?_)
      refine A2 11 rfl (op_append sl77 rfl rfl rfl rfl rfl rfl rfl (.inl rfl) (by decide) (by simp) (by first | decide | (simp only [maxLen, List.length_cons, List.length_nil, List.length_append, List.length_map]; omega) | omega) rfl rfl rfl ?_)
      refine A1 12 rfl (asg ⟨_, rfl, ?_⟩); refine a_end ?_; refine inb_normal ?_; refine seq_normal ?_; refine kp [3, 53, 52, 51] ?_; refine runs_region ?_; refine o1 (iad ?_); refine o1 (mv ?_); refine ops_nil ?_; refine seq_back ?_
      refine back_c (i + 1) rfl ?_ ([0, 1]) ?_
      · exact ⟨by omega, by omega⟩
      · refine mo ?_ (sly (slx rfl (by exact Fit.of_eq (by rw [List.take_add_one, hget, List.map_append, ← List.append_assoc, strs_app]; rfl)) (sly (sly slz))))
        repeat (first | exact boz | refine boc ?_ | refine bor ?_)
end Go.Proofs.YtneaancanfpdhaaDoor
namespace Go.Proofs.YtneaancanfpdhaaDoor
open Go Go.Vd Go.RowKit
attribute [local irreducible] Runs OpsR OpR FloatR AnyR AnyO
variable {g gl : Nat → List D}

/-- the text of a file -/
def wrF : List Dec → ByteArray
  | [] => .empty
  | d :: r => wrD d ++ ⟨#[10]⟩ ++ wrF r
def wtF : List Dec → Nat
  | [] => 0
  | d :: r => 1 + wtD d + wtF r
def okF (l : List Dec) : Prop := ∀ d ∈ l, okD d
theorem wrF_append (l m : List Dec) : wrF (l ++ m) = wrF l ++ wrF m := by
  induction l with
  | nil => simp [wrF]
  | cons a r ih => simp only [List.cons_append, wrF, ih, ByteArray.append_assoc]
theorem wrF_take {l : List Dec} {i : Nat} {a : Dec} (h : l[i]? = some a) : wrF (l.take (i + 1)) = wrF (l.take i) ++ (wrD a ++ ⟨#[10]⟩) := by
  rw [List.take_add_one, h]; simp [wrF_append, wrF, ByteArray.append_assoc]
theorem wtF_append (l m : List Dec) : wtF (l ++ m) = wtF l + wtF m := by
  induction l with
  | nil => simp [wtF]
  | cons a r ih => simp [wtF, ih]; omega
theorem wrF_size {l : List Dec} (h : okF l) : (wrF l).size ≤ wtF l := by
  induction l with
  | nil => simp [wrF]
  | cons d r ih =>
    have h1 := wrD_size (h d (by simp))
    have h2 := ih fun x hx => h x (by simp [hx])
    simp only [wrF, wtF, ByteArray.size_append, size_mk, List.size_toArray, List.length_cons, List.length_nil]; omega
theorem wrF_take_le {l : List Dec} (h : okF l) (i : Nat) : (wrF (l.take i)).size ≤ wtF l := by
  have h1 := wrF_size (l := l.take i) fun d hd => h d (List.mem_of_mem_take hd)
  have h2 : wtF l = wtF (l.take i) + wtF (l.drop i) := by rw [← wtF_append, List.take_append_drop]
  omega
theorem wtF_get : ∀ {l : List Dec} {i : Nat} {d : Dec}, l[i]? = some d → wtD d ≤ wtF l
  | [], i, d, h => by simp at h
  | a :: r, 0, d, h => by simp at h; subst h; simp [wtF]; omega
  | a :: r, i + 1, d, h => by simp at h; have := wtF_get h; simp [wtF]; omega
theorem wtF_len (l : List Dec) : l.length ≤ wtF l := by
  induction l with
  | nil => simp
  | cons a r ih => simp [wtF]; omega

theorem bstr_nil : Tri Tryd.prog gl 23 [.cells [.d (.v (.pointer none)), .d (.v (.slice none 0 0))] 61] [.blk 0 0] fun out ob' => out = .ret (.d (.v (.string .empty))) ∧ ob' = [.dead] := by
  refine triS_of_runs Tryd.func23 rfl Tryd.ntmps23 (rs := [.tmp 2]) rfl rfl rfl 1 rfl ?_
  refine sr ?_; refine o1 (asg ?_); refine nx ?_; refine runs_seq ?_; refine a_start ?_ (hm := by exact mixed); refine A1 0 rfl (mv ⟨_, rfl, ?_⟩); refine A1 1 rfl (ncb ⟨_, rfl, ?_⟩); refine A1 2 rfl (fdb ti61 ⟨_, rfl, ?_⟩)
  refine A1 3 rfl (ldb ti59 ⟨_, rfl, ?_⟩); refine A1 4 rfl (fl_usd_nil rfl rfl ⟨_, rfl, ?_⟩); refine A1 5 rfl (mv ⟨_, rfl, ?_⟩); refine A1 6 rfl (ncb ⟨_, rfl, ?_⟩); refine A1 7 rfl (fdb ti61 ⟨_, rfl, ?_⟩)
  refine A1 8 rfl (ldb ti59 ⟨_, rfl, ?_⟩); refine A1 9 rfl (le4 us59 ⟨_, rfl, ?_⟩); refine A2 10 rfl (op_float (T := fun _ => False) rfl rfl (fl_ustr_nil rfl rfl rfl ?_)); refine A1 11 rfl (asg ⟨_, rfl, ?_⟩); refine a_end ?_
  refine seq_normal ?_; refine runs_ret ?_; refine fin_ret ?_; refine fin_od ⟨_, _, rfl, rfl, rfl⟩ rfl ([0]) ([.dead]) rfl rfl rfl ?_ ?_
  · repeat (first | exact boz | refine bod ?_)
  · exact ⟨rfl, rfl⟩
theorem bstr_u {u : Bool} (hu : u = true) (s : ByteArray) (hs : s ≠ .empty) : Tri Tryd.prog gl 23 (bldO u s) [.blk 0 0] fun out ob' => out = .ret (.d (.v (.string s))) ∧ ob' = [.dead, .dead] := by
  subst hu; exact bstr_spec s hs
theorem wrF_ne {ds : List Dec} (h : ds ≠ []) : wrF ds ≠ .empty := by
  cases ds with
  | nil => exact absurd rfl h
  | cons d r =>
    refine ne_of_size ?_
    simp only [wrF, ByteArray.size_append, size_mk, List.size_toArray, List.length_cons, List.length_nil]; omega
theorem printAll_spec (h3g : g 2 = wordsD) (h7g : g (laysM246_ren.g 17) = p10D) (ds : List Dec) (ho : okF ds) (hb : wtF ds ≤ 1099511627776) : TriD Tryd.prog (glQ g) 17 [.sl 15 (decs ds)] (· = .v (.string (wrF ds))) := by
  have hlc := decs_len ds
  have hlf := wtF_len ds
  by_cases hne : ds = []
  · subst hne
    refine triD_of_runs Tryd.func17 rfl Tryd.ntmps17 (rs := [.tmp 2]) rfl rfl rfl ?_
    refine sr ?_; refine o1 (asg ?_); refine nx ?_; refine sr ?_; refine oc (T := fun _ => False) (alc ti61 ?_ (hl := by simp only [List.length_cons, List.length_nil, Nat.reduceAdd]; rfl)); refine nx ?_; refine runs_seq ?_; refine sr ?_
    refine o1 (mv ?_); refine o1 (le1 us48 ?_); refine o1 (mv ?_); refine nx ?_; refine runs_block ?_; refine kp [8, 7, 6, 3] ?_
    apply runs_loop_c (ι := Unit) (fun _ => [(8, int 0)]) [7, 6, 3] (fun _ => True) (fun _ => 0) (())
    case hk => exact rfl
    case hI =>
      trivial
    case hm =>
      refine mo ?_ (sly (sly (sly (sly slz))))
      repeat (first | exact boz | refine boc ?_)
    case h =>
      rintro _ hinv
      try dsimp only at hinv
      refine kp [8, 7, 6, 3] ?_; refine sr ?_; refine o1 (ilt ?_); refine nx ?_; refine runs_seq ?_; refine cd (fun h3 => ?_) (fun h3 => ?_)
      · (try simp only [nrm, Int.reduceEq, Int.reduceNe, Int.reduceLT, Int.reduceLE] at h3); contradiction
      (try simp only [nrm, Int.reduceEq, Int.reduceNe, Int.reduceLT, Int.reduceLE] at h3); refine runs_exit ?_; refine seq_exit ?_; refine seq_exit ?_; refine inb_exit ?_; refine seq_normal ?_; refine kp [3] ?_; refine sr ?_
      refine oc (ck ca23 rfl rfl (bstr_nil) [0] rfl (boc .nil) (fir .nil) ?_); refine o1 (asg ?_); refine nx ?_; refine runs_ret ?_; refine fin_ret ?_; refine fin_d1 rfl rfl ?_
      rfl
  · have hlp := List.length_pos_iff.2 hne
    have hwne := wrF_ne hne
    refine triD_of_runs Tryd.func17 rfl Tryd.ntmps17 (rs := [.tmp 2]) rfl rfl rfl ?_
    refine sr ?_; refine o1 (asg ?_); refine nx ?_; refine sr ?_; refine oc (T := fun _ => False) (alc ti61 ?_ (hl := by simp only [List.length_cons, List.length_nil, Nat.reduceAdd]; rfl)); refine nx ?_; refine runs_seq ?_; refine runs_seq ?_
    refine runs_nilrow 5 1 rfl ?_; refine runs_region ?_; refine o1 (mv ?_); refine o1 (le1 us48 ?_); refine o1 (mv ?_); refine nx ?_; refine runs_block ?_; refine kp [8, 7, 6, 3] ?_
    apply runs_loop_o (ι := Nat × Bool) (fun ⟨i, u⟩ => [(8, int i)]) (fun ⟨i, u⟩ => [.cells [bldA u, .own 1 1 (bytesD (wrF (ds.take i)))] 61, .row 5 1]) [7, 6, 3] (fun ⟨i, u⟩ => i ≤ ds.length ∧ (0 < i → u = true)) (fun ⟨i, u⟩ => ds.length - i) ((0, false)) ([0, 1])
    case hk => exact rfl
    case hI =>
      exact ⟨Nat.zero_le _, fun h => absurd h (Nat.lt_irrefl 0)⟩
    case hm =>
      refine mo ?_ (sly (sly (sly (sly slz))))
      repeat (first | exact boz | exact fiz | refine bon ?_ | refine boe ?_ ?_ | refine fir ?_ | refine .cons (.nil rfl) ?_)
    case h =>
      rintro ⟨i, u⟩ hinv
      try dsimp only at hinv
      have hws := fun (b t : ByteArray) h1 h2 => ws_spec (gl := glQ g) u b t h1 h2
      have hbs := fun (h : u = true) => bstr_u (gl := glQ g) h (wrF ds) hwne
      refine kp [8, 7, 6, 3] ?_; cases u <;> (unfold bldA; dsimp only [cond_true, cond_false])
      all_goals (
        refine sr ?_; refine o1 (ilt ?_); refine nx ?_; refine runs_seq ?_; refine cdf (fun h3 => ?_) (fun h3 => ?_)
        · (try simp only [nrm, Int.reduceEq, Int.reduceNe, Int.reduceLT, Int.reduceLE] at h3)
          refine runs_exit ?_; refine seq_exit ?_; refine seq_exit ?_; refine inb_exit ?_; refine seq_normal ?_; refine runs_seq ?_; refine kp [3] ?_; obtain rfl : i = ds.length := (by omega)
          rw [List.take_length]
          refine runs_region ?_; refine oc (ck ca23 rfl rfl (hbs (hinv.2 (by omega))) [0, 1] rfl (boc (bor .nil)) (fir .nil) ?_); refine o1 (asg ?_); refine nx ?_; refine runs_ret ?_; refine fin_ret ?_; refine fin_d1 rfl rfl ?_
          rfl
        (try simp only [nrm, Int.reduceEq, Int.reduceNe, Int.reduceLT, Int.reduceLE] at h3); refine runs_skip ?_; refine seq_normal ?_; refine runs_seq ?_; refine runs_block ?_; refine runs_seq ?_
        obtain ⟨k, nm, ps, k1, n1, s1, l1, a1, k2, n2, s2, l2, a2, a, cs, hget⟩ := dec_get (show i < ds.length by omega)
        have hod := ho _ (List.mem_of_getElem? hget)
        have hwd := wtF_get hget
        have hwz := wrD_size hod
        have hle := wrF_take_le ho i
        have hnext := (wrF_take hget).symm
        have h10 : (wrD (.mk k nm ps (.mk k1 n1 s1 l1 a1) (.mk k2 n2 s2 l2 a2) a cs) ++ ⟨#[10]⟩ : ByteArray).size = (wrD (.mk k nm ps (.mk k1 n1 s1 l1 a1) (.mk k2 n2 s2 l2 a2) a cs)).size + 1 := (by simp only [ByteArray.size_append, size_mk, List.size_toArray, List.length_cons, List.length_nil])
        refine runs_region ?_; refine o1 (ixs us48 te48 ?_ (he := by exact (dec_at hget))); refine o1 (ldc ti80 ?_); refine oc (T := fun _ => False) (alc ti80 ?_ (hl := by simp only [List.length_cons, List.length_nil, Nat.reduceAdd]; rfl))
        refine oc (sto ti80 ?_); refine nx ?_; refine runs_region ?_; refine o1 (ldb ti80 ?_); refine oc (cv ca39 rfl rfl (fprint_spec h3g h7g k nm ps k1 n1 s1 l1 a1 k2 n2 s2 l2 a2 a cs hod (by omega)) (fid .nil) ?_)
        refine o1 (f_sadd ?_ (hb := by (try simp only [ByteArray.size_append, size_mk, List.size_toArray, List.length_cons, List.length_nil]); omega))
        refine oc (ck ca38 rfl rfl (hws (wrF (ds.take i)) (wrD (.mk k nm ps (.mk k1 n1 s1 l1 a1) (.mk k2 n2 s2 l2 a2) a cs) ++ ⟨#[10]⟩) (ne_of_size (by omega)) (by omega)) [0, 1] rfl (boc (bor .nil)) (fir (fir .nil)) ?_); refine ops_nil ?_
        refine inb_normal ?_; refine seq_normal ?_; refine kp [8, 7, 6, 3] ?_; refine runs_region ?_; refine o1 (iad ?_); refine o1 (mv ?_); refine ops_nil ?_; refine seq_back ?_
        rw [hnext]
        refine back_c ((i + 1, true)) rfl ?_ ([0, 1]) ?_
        · exact ⟨⟨by omega, fun _ => rfl⟩, by omega⟩
        · refine mo ?_ (sly (sly (sly (sly slz))))
          repeat (first | exact boz | refine boc ?_ | refine bor ?_)
      )

end Go.Proofs.YtneaancanfpdhaaDoor
namespace Go.Proofs.YtneaancanfpdhaaDoor
open Go Go.Vd Go.RowKit
attribute [local irreducible] Runs OpsR OpR FloatR AnyR AnyO
variable {gl : Nat → List D}

theorem or8_letter : ∀ c : Nat, c < 256 → ((97 ≤ or8 c 32 ∧ or8 c 32 ≤ 122) ↔ ((97 ≤ c ∧ c ≤ 122) ∨ (65 ≤ c ∧ c ≤ 90))) := by decide +kernel

attribute [local irreducible] or8
theorem digit_spec (c : Int) : TriD Tryd.prog gl 74 [.v (.int .u8 c)] (· = .v (.bool (digB c))) := by
  refine triD_of_runs Tryd.func74 rfl Tryd.ntmps74 (rs := [.tmp 2]) rfl rfl rfl ?_
  refine sr ?_; refine o1 (asg ?_); refine nx ?_; refine sr ?_; refine o1 (mv ?_); refine o1 (ige ?_); refine o1 (mv ?_)
  apply ops_and (yt := 7) (d := 5) 2 rfl rfl rfl (.none rfl) rfl rfl
  case h1 =>
    intro hb5 hK
    have hc := hb5; (try simp only [nrm, Int.reduceEq, Int.reduceNe, Int.reduceLT, Int.reduceLE] at hc)
    refine gye ?_ (hbw := by exact hb5); refine o1 (mv ?_); refine gye ?_ (hbw := by exact hb5); refine o1 (ile ?_); exact hK [_, _] rfl rfl
  case h2 =>
    intro hb5 hK; refine gno ?_ (hbw := by exact hb5); refine gno ?_ (hbw := by exact hb5); exact hK [_, _] rfl
  refine o1 (asg ?_); refine nx ?_; refine runs_ret ?_; refine fin_ret ?_; refine fin_d1 rfl rfl ?_; exact congrArg (fun b => D.v (.bool b)) (by rw [Bool.eq_iff_iff]; simp [digB])

theorem letter_spec (c : Int) (h0 : 0 ≤ c) (h1 : c < 256) : TriD Tryd.prog gl 72 [.v (.int .u8 c)] (· = .v (.bool (nameB c true))) := by
  obtain ⟨k, rfl⟩ : ∃ k : Nat, c = k := ⟨c.toNat, by omega⟩
  have hl := or8_letter k (by omega)
  refine triD_of_runs Tryd.func72 rfl Tryd.ntmps72 (rs := [.tmp 2]) rfl rfl rfl ?_
  refine sr ?_; refine o1 (asg ?_); refine nx ?_; refine sr ?_; refine o1 (mv ?_); refine o1 (f_or8 ?_); refine o1 (ige ?_); refine o1 (mv ?_)
  apply ops_and (yt := 9) (d := 6) 3 rfl rfl rfl (.none rfl) rfl rfl
  case h1 =>
    intro hb7 hK
    have hc := hb7; (try simp only [nrm, Int.reduceEq, Int.reduceNe, Int.reduceLT, Int.reduceLE] at hc)
    refine gye ?_ (hbw := by exact hb7); refine o1 (mv ?_); refine gye ?_ (hbw := by exact hb7); refine o1 (f_or8 ?_); refine gye ?_ (hbw := by exact hb7); refine o1 (ile ?_); exact hK [_, _, _] rfl rfl
  case h2 =>
    intro hb7 hK; refine gno ?_ (hbw := by exact hb7); refine gno ?_ (hbw := by exact hb7); refine gno ?_ (hbw := by exact hb7); exact hK [_, _, _] rfl
  refine o1 (mv ?_)
  apply ops_or (yt := 13) (d := 11) 2 rfl rfl rfl (.none rfl) rfl rfl
  case h1 =>
    intro hb16 hK
    have hc := hb16; (try simp only [nrm, Int.reduceEq, Int.reduceNe, Int.reduceLT, Int.reduceLE] at hc)
    refine gye ?_ (hbw := by exact hb16); refine o1 (mv ?_); refine gye ?_ (hbw := by exact hb16); refine o1 (ieq ?_); exact hK [_, _] rfl rfl
  case h2 =>
    intro hb16 hK; refine gno ?_ (hbw := by exact hb16); refine gno ?_ (hbw := by exact hb16); exact hK [_, _] rfl
  refine o1 (asg ?_); refine nx ?_; refine runs_ret ?_; refine fin_ret ?_; refine fin_d1 rfl rfl ?_; exact congrArg (fun b => D.v (.bool b)) (by rw [Bool.eq_iff_iff]; simp [nameB]; omega)

theorem ws1_spec (c : Int) : TriD Tryd.prog gl 71 [.v (.int .u8 c)] (· = .v (.bool (wsB c))) := by
  refine triD_of_runs Tryd.func71 rfl Tryd.ntmps71 (rs := [.tmp 2]) rfl rfl rfl ?_
  refine sr ?_; refine o1 (asg ?_); refine nx ?_; refine sr ?_; refine o1 (mv ?_); refine o1 (ieq ?_); refine o1 (mv ?_)
  apply ops_or (yt := 7) (d := 5) 2 rfl rfl rfl (.none rfl) rfl rfl
  case h1 =>
    intro hb4 hK
    have hc := hb4; (try simp only [nrm, Int.reduceEq, Int.reduceNe, Int.reduceLT, Int.reduceLE] at hc)
    refine gye ?_ (hbw := by exact hb4); refine o1 (mv ?_); refine gye ?_ (hbw := by exact hb4); refine o1 (ieq ?_); exact hK [_, _] rfl rfl
  case h2 =>
    intro hb4 hK; refine gno ?_ (hbw := by exact hb4); refine gno ?_ (hbw := by exact hb4); exact hK [_, _] rfl
  refine o1 (mv ?_)
  apply ops_or (yt := 11) (d := 9) 2 rfl rfl rfl (.none rfl) rfl rfl
  case h1 =>
    intro hb12 hK
    have hc := hb12; (try simp only [nrm, Int.reduceEq, Int.reduceNe, Int.reduceLT, Int.reduceLE] at hc)
    refine gye ?_ (hbw := by exact hb12); refine o1 (mv ?_); refine gye ?_ (hbw := by exact hb12); refine o1 (ieq ?_); exact hK [_, _] rfl rfl
  case h2 =>
    intro hb12 hK; refine gno ?_ (hbw := by exact hb12); refine gno ?_ (hbw := by exact hb12); exact hK [_, _] rfl
  refine o1 (asg ?_); refine nx ?_; refine runs_ret ?_; refine fin_ret ?_; refine fin_d1 rfl rfl ?_; exact congrArg (fun b => D.v (.bool b)) (by rw [Bool.eq_iff_iff]; simp [wsB, or_assoc])

theorem nb2_spec (c : Int) (h0 : 0 ≤ c) (h1 : c < 256) : TriD Tryd.prog gl 73 [.v (.int .u8 c)] (· = .v (.bool (nameB c false))) := by
  refine triD_of_runs Tryd.func73 rfl Tryd.ntmps73 (rs := [.tmp 2]) rfl rfl rfl ?_
  refine sr ?_; refine o1 (asg ?_); refine nx ?_; refine sr ?_; refine o1 (mv ?_); refine oc (cv ca72 rfl rfl (letter_spec c h0 h1) (fir .nil) ?_); refine o1 (mv ?_)
  apply ops_or (yt := 7) (d := 5) 2 rfl rfl rfl (.none rfl) rfl rfl
  case h1 =>
    intro hb4 hK
    have hc := hb4; (try simp only [nrm, Int.reduceEq, Int.reduceNe, Int.reduceLT, Int.reduceLE] at hc)
    refine gye ?_ (hbw := by exact hb4); refine o1 (mv ?_); refine gye ?_ (hbw := by exact hb4); refine oc (cv ca74 rfl rfl (digit_spec c) (fir .nil) ?_); exact hK [_, _] rfl rfl
  case h2 =>
    intro hb4 hK; refine gno ?_ (hbw := by exact hb4); refine gno ?_ (hbw := by exact hb4); exact hK [_, _] rfl
  refine o1 (mv ?_)
  apply ops_or (yt := 11) (d := 9) 2 rfl rfl rfl (.none rfl) rfl rfl
  case h1 =>
    intro hb12 hK
    have hc := hb12; (try simp only [nrm, Int.reduceEq, Int.reduceNe, Int.reduceLT, Int.reduceLE] at hc)
    refine gye ?_ (hbw := by exact hb12); refine o1 (mv ?_); refine gye ?_ (hbw := by exact hb12); refine o1 (ieq ?_); exact hK [_, _] rfl rfl
  case h2 =>
    intro hb12 hK; refine gno ?_ (hbw := by exact hb12); refine gno ?_ (hbw := by exact hb12); exact hK [_, _] rfl
  refine o1 (mv ?_)
  apply ops_or (yt := 15) (d := 13) 2 rfl rfl rfl (.none rfl) rfl rfl
  case h1 =>
    intro hb20 hK
    have hc := hb20; (try simp only [nrm, Int.reduceEq, Int.reduceNe, Int.reduceLT, Int.reduceLE] at hc)
    refine gye ?_ (hbw := by exact hb20); refine o1 (mv ?_); refine gye ?_ (hbw := by exact hb20); refine o1 (ieq ?_); exact hK [_, _] rfl rfl
  case h2 =>
    intro hb20 hK; refine gno ?_ (hbw := by exact hb20); refine gno ?_ (hbw := by exact hb20); exact hK [_, _] rfl
  refine o1 (asg ?_); refine nx ?_; refine runs_ret ?_; refine fin_ret ?_; refine fin_d1 rfl rfl ?_; exact congrArg (fun b => D.v (.bool b)) (by rw [Bool.eq_iff_iff]; simp [nameB, digB]; omega)

/-- a scanner -/
def scO (s : ByteArray) (at' : Nat) (tok : ByteArray) (pos : Nat) : Ob := .cells [.d (.v (.string s)), .d (.v (.int .i64 at')), .d (.v (.string tok)), .d (.v (.int .i64 pos))] 76

theorem byteAt_bound (s : ByteArray) (i : Nat) : 0 ≤ byteAt s i ∧ byteAt s i < 256 := by
  unfold byteAt
  have := UInt8.toNat_lt (s.data.getD i 0)
  omega

theorem run_spec (f : FuncId) (ofv : SV) (hof : ofv = .fn (.func f) [] [] ∨ ofv = .d (.v (.func (.func f) #[] #[]))) (p : Int → Bool) (hcal : callable Tryd.prog f = true) (hp : ∀ c, 0 ≤ c → c < 256 → TriD Tryd.prog gl f [.v (.int .u8 c)] (· = .v (.bool (p c)))) (s : ByteArray) (hs : s.size ≤ 1099511627776) (a b : Nat) (tok : ByteArray) (pos : Nat) (ha : a ≤ s.size) :
    Tri Tryd.prog gl 70 [scO s b tok pos] [.blk 0 0, .d (.v (.int .i64 a)), ofv] fun out ob' => out = .ret (.d (.v (.int .i64 (spanB p s a)))) ∧ ob' = [scO s b tok pos] := by
  rcases hof with rfl | rfl
  all_goals (
    unfold scO
    refine triS_of_runs Tryd.func70 rfl Tryd.ntmps70 (rs := [.tmp 6]) rfl rfl rfl 1 rfl ?_
    refine sr ?_; refine o1 (asg ?_); refine nx ?_; refine runs_seq ?_; refine runs_block ?_; refine kp [0, 1, 2] ?_
    apply runs_loop_c (ι := Nat) (fun i => [(1, int i)]) [0, 2] (fun i => i ≤ s.size ∧ spanB p s a = spanB p s i) (fun i => s.size - i) (a)
    case hk => exact rfl
    case hI =>
      exact ⟨ha, rfl⟩
    case hm =>
      refine mo ?_ (sly (sly (sly slz)))
      repeat (first | exact boz | refine boc ?_)
    case h =>
      rintro i hinv
      try dsimp only at hinv
      refine kp [1, 0, 2] ?_; refine runs_seq ?_; refine sr ?_; refine o1 (mv ?_); refine o1 (mv ?_); refine o1 (ncb ?_); refine o1 (fdb ti76 ?_); refine o1 (ldb ti9 ?_); refine o1 (le3 ut9 ?_); refine o1 (ilt ?_); refine o1 (mv ?_)
      apply ops_and (yt := 22) (d := 14) 8 rfl rfl rfl (.none rfl) rfl rfl
      case h1 =>
        intro hb15 hK
        have hc := hb15; (try simp only [nrm, Int.reduceEq, Int.reduceNe, Int.reduceLT, Int.reduceLE] at hc)
        refine gye ?_ (hbw := by exact hb15); refine o1 (mv ?_); refine gye ?_ (hbw := by exact hb15); refine o1 (mv ?_); refine gye ?_ (hbw := by exact hb15); refine o1 (ncb ?_); refine gye ?_ (hbw := by exact hb15); refine o1 (fdb ti76 ?_)
        refine gye ?_ (hbw := by exact hb15); refine o1 (ldb ti9 ?_); refine gye ?_ (hbw := by exact hb15); refine o1 (mv ?_); refine gye ?_ (hbw := by exact hb15); refine o1 (byt ut9 ?_); refine gye ?_ (hbw := by exact hb15)
        first | refine oc (T := fun _ => False) (op_callcd hcal rfl rfl rfl rfl rfl rfl rfl rfl (hp (byteAt s i) (byteAt_bound s i).1 (byteAt_bound s i).2) (fir .nil) (fun d hd => ?_)) | refine oc (T := fun _ => False) (op_callfd hcal rfl rfl rfl rfl rfl rfl (hp (byteAt s i) (byteAt_bound s i).1 (byteAt_bound s i).2) (fir .nil) (fun d hd => ?_))
        obtain rfl := hd; exact hK [_, _, _, _, _, _, _, _] rfl rfl
      case h2 =>
        intro hb15 hK; refine gno ?_ (hbw := by exact hb15); refine gno ?_ (hbw := by exact hb15); refine gno ?_ (hbw := by exact hb15); refine gno ?_ (hbw := by exact hb15); refine gno ?_ (hbw := by exact hb15); refine gno ?_ (hbw := by exact hb15)
        refine gno ?_ (hbw := by exact hb15); refine gno ?_ (hbw := by exact hb15); exact hK [_, _, _, _, _, _, _, _] rfl
      refine nx ?_; refine cd (fun h1 => ?_) (fun h1 => ?_)
      · (try simp only [nrm, Int.reduceEq, Int.reduceNe, Int.reduceLT, Int.reduceLE] at h1)
        refine runs_skip ?_; refine seq_normal ?_; refine runs_block ?_; refine kp [1, 0, 2] ?_; refine runs_region ?_; refine o1 (mv ?_); refine o1 (iad ?_); refine o1 (asg ?_); refine ops_nil ?_; refine inb_normal ?_; refine seq_back ?_
        refine back_i (i + 1) rfl ?_ ?_
        · exact ⟨⟨by omega, by rw [hinv.2, spanB_step (by omega) (by simpa using h1.2)]⟩, by omega⟩
        · refine mo ?_ (sly (sly (sly slz)))
          repeat (first | exact boz | refine boc ?_)
      (try simp only [nrm, Int.reduceEq, Int.reduceNe, Int.reduceLT, Int.reduceLE] at h1); refine runs_exit ?_; refine seq_exit ?_; refine seq_exit ?_; refine inb_exit ?_; refine seq_normal ?_; refine kp [1] ?_; refine sr ?_; refine o1 (mv ?_)
      refine o1 (asg ?_); refine nx ?_; refine runs_ret ?_; refine fin_ret ?_; refine fin_od ⟨_, _, rfl, rfl, rfl⟩ rfl ([0]) ([scO s b tok pos]) rfl rfl rfl ?_ ?_
      · repeat (first | exact boz | refine boc ?_)
      · refine ⟨?_, rfl⟩
        rw [hinv.2, spanB_end (p := i) (by rintro ⟨h5, h6⟩; rcases h1 with h1 | h1; omega; rw [h6] at h1; cases h1)]
  )
end Go.Proofs.YtneaancanfpdhaaDoor
namespace Go.Proofs.YtneaancanfpdhaaDoor
open Go Go.Vd Go.RowKit
attribute [local irreducible] Runs OpsR OpR FloatR AnyR AnyO
variable {gl : Nat → List D}

def stepTok (s : ByteArray) (p : Nat) : ByteArray := if (tokR s p).2.2 = true then (tokR s p).1 else ⟨#[0]⟩
def stepAt (s : ByteArray) (p : Nat) : Nat := if (tokR s p).2.2 = true then (tokR s p).2.1 + (tokR s p).1.size else p
theorem step_yes {s : ByteArray} {p : Nat} {t : ByteArray} {i : Nat} (h : tokR s p = (t, i, true)) : stepTok s p = t ∧ stepAt s p = i + t.size ∧ (tokR s p).2.1 = i := by
  unfold stepTok stepAt; rw [h]; exact ⟨rfl, rfl, rfl⟩
theorem step_no {s : ByteArray} {p : Nat} {t : ByteArray} {i : Nat} (h : tokR s p = (t, i, false)) : stepTok s p = ⟨#[0]⟩ ∧ stepAt s p = p ∧ (tokR s p).2.1 = i := by
  unfold stepTok stepAt; rw [h]; exact ⟨rfl, rfl, rfl⟩

theorem nameB_mono {c : Int} (h : nameB c true = true) : nameB c false = true := by
  simp [nameB] at h ⊢
  omega

theorem step_spec (s : ByteArray) (hs : s.size ≤ 1099511627776) (p : Nat) (hp : p ≤ s.size) (tok0 : ByteArray) (pos0 : Nat) :
    Tri Tryd.prog gl 55 [scO s p tok0 pos0] [.blk 0 0] fun out ob' => out = .ret (.d (.tup [])) ∧ ob' = [scO s (stepAt s p) (stepTok s p) (tokR s p).2.1] := by
  obtain ⟨i, hi⟩ : ∃ i, spanB wsB s p = i := ⟨_, rfl⟩
  have hil := spanB_le wsB s p hp
  rw [hi] at hil
  have hba := byteAt_bound s i
  have hw := run_spec (gl := gl) 71 _ (.inr rfl) wsB ca71 (fun c _ _ => ws1_spec c) s hs p p tok0 pos0 hp
  rw [hi] at hw
  unfold scO at hw ⊢
  refine triS_of_runs Tryd.func55 rfl Tryd.ntmps55 (rs := []) rfl rfl rfl 1 rfl ?_
  refine sr ?_; refine o1 (mv ?_); refine o1 (mv ?_); refine o1 (mv ?_); refine o1 (ncb ?_); refine o1 (fdb ti76 ?_); refine o1 (ldb ti3 ?_); refine oc (ck ca70 rfl rfl (hw) [0] rfl (boc .nil) (fir (fir (fir .nil))) ?_); refine o1 (ncb ?_)
  refine o1 (fdb ti76 ?_); refine oc (sto ti3 ?_); refine nx ?_; refine runs_seq ?_; refine runs_seq ?_; refine kp [0] ?_; refine a_start ?_ (hm := by exact mixed); refine A1 0 rfl (mv ⟨_, rfl, ?_⟩); refine A1 1 rfl (ncb ⟨_, rfl, ?_⟩)
  refine A1 2 rfl (fdb ti76 ⟨_, rfl, ?_⟩); refine A1 3 rfl (ldb ti3 ⟨_, rfl, ?_⟩); refine A1 4 rfl (mv ⟨_, rfl, ?_⟩); refine A1 5 rfl (ncb ⟨_, rfl, ?_⟩); refine A1 6 rfl (fdb ti76 ⟨_, rfl, ?_⟩); refine A1 7 rfl (ldb ti9 ⟨_, rfl, ?_⟩)
  refine A1 8 rfl (le3 ut9 ⟨_, rfl, ?_⟩); refine A1 9 rfl (ieq ⟨_, rfl, ?_⟩); refine a_end ?_; refine seq_normal ?_; refine cd (fun h1 => ?_) (fun h1 => ?_)
  · (try simp only [nrm, Int.reduceEq, Int.reduceNe, Int.reduceLT, Int.reduceLE] at h1)
    refine kp [0] ?_; refine sr ?_; refine o1 (mv ?_); refine o1 (mv ?_); refine o1 (mv ?_); refine o1 (ncb ?_); refine o1 (fdb ti76 ?_); refine o1 (ldb ti3 ?_); refine o1 (ncb ?_); refine o1 (fdb ti76 ?_); refine oc (sto ti9 ?_)
    refine o1 (ncb ?_); refine o1 (fdb ti76 ?_); refine oc (sto ti3 ?_); refine nx ?_; refine runs_ret ?_; refine seq_ret ?_; refine fin_ret ?_; refine fin_od (l := []) rfl rfl ([0]) ([scO s i .empty i]) rfl rfl rfl ?_ ?_
    · repeat (first | exact boz | refine boc ?_)
    · have h := step_yes (tok_end (show spanB wsB s p = spanB wsB s i by rw [hi, spanB_end (by omega)]) (by omega))
      refine ⟨rfl, ?_⟩
      rw [h.1, h.2.1, h.2.2]; rfl
  (try simp only [nrm, Int.reduceEq, Int.reduceNe, Int.reduceLT, Int.reduceLE] at h1); refine runs_skip ?_; refine seq_normal ?_; refine kp [0] ?_; refine sr ?_; refine o1 (mv ?_); refine o1 (ncb ?_); refine o1 (fdb ti76 ?_)
  refine o1 (ldb ti3 ?_); refine o1 (iad ?_); refine o1 (asg ?_); refine nx ?_; refine runs_seq ?_; refine runs_seq ?_; refine kp [2, 0] ?_
  have hi1 : i + 1 ≤ s.size := by omega
  have hqd := spanB_le digB s (i + 1) hi1
  have hqe := spanB_le digB s i hil.2
  have hqn := spanB_le (nameB · false) s i hil.2
  refine a_start ?_ (hm := by exact mixed); refine A1 0 rfl (mv ⟨_, rfl, ?_⟩); refine A1 1 rfl (ncb ⟨_, rfl, ?_⟩); refine A1 2 rfl (fdb ti76 ⟨_, rfl, ?_⟩); refine A1 3 rfl (ldb ti9 ⟨_, rfl, ?_⟩); refine A1 4 rfl (mv ⟨_, rfl, ?_⟩)
  refine A1 5 rfl (ncb ⟨_, rfl, ?_⟩); refine A1 6 rfl (fdb ti76 ⟨_, rfl, ?_⟩); refine A1 7 rfl (ldb ti3 ⟨_, rfl, ?_⟩); refine A1 8 rfl (byt ut9 ⟨_, rfl, ?_⟩); refine A1 9 rfl (asg ⟨_, rfl, ?_⟩); refine a_end ?_; refine seq_normal ?_
  refine runs_block ?_; refine kp [3, 2, 0] ?_; refine sr ?_; refine o1 (mv ?_); refine o1 (ieq ?_); refine o1 (mv ?_)
  apply ops_or (yt := 54) (d := 52) 2 rfl rfl rfl (.none rfl) rfl rfl
  case h1 =>
    intro hb4 hK
    have hc := hb4; (try simp only [nrm, Int.reduceEq, Int.reduceNe, Int.reduceLT, Int.reduceLE] at hc)
    refine gye ?_ (hbw := by exact hb4); refine o1 (mv ?_); refine gye ?_ (hbw := by exact hb4); refine o1 (ieq ?_); exact hK [_, _] rfl rfl
  case h2 =>
    intro hb4 hK; refine gno ?_ (hbw := by exact hb4); refine gno ?_ (hbw := by exact hb4); exact hK [_, _] rfl
  refine o1 (asg ?_); refine nx ?_; refine cd (fun h6 => ?_) (fun h6 => ?_)
  · (try simp only [nrm, Int.reduceEq, Int.reduceNe, Int.reduceLT, Int.reduceLE] at h6)
    refine runs_skip ?_; refine inb_normal ?_; refine seq_normal ?_; refine runs_seq ?_; refine kp [2, 0] ?_; refine sr ?_; refine o1 (mv ?_); refine o1 (ilt ?_); refine nx ?_; refine cd (fun h19 => ?_) (fun h19 => ?_)
    · (try simp only [nrm, Int.reduceEq, Int.reduceNe, Int.reduceLT, Int.reduceLE] at h19); contradiction
    (try simp only [nrm, Int.reduceEq, Int.reduceNe, Int.reduceLT, Int.reduceLE] at h19); refine runs_skip ?_; refine seq_normal ?_; refine a_start ?_ (hm := by exact mixed); refine A1 0 rfl (mv ⟨_, rfl, ?_⟩); refine A1 1 rfl (mv ⟨_, rfl, ?_⟩)
    refine A1 2 rfl (mv ⟨_, rfl, ?_⟩); refine A1 3 rfl (ncb ⟨_, rfl, ?_⟩); refine A1 4 rfl (fdb ti76 ⟨_, rfl, ?_⟩); refine A1 5 rfl (ldb ti9 ⟨_, rfl, ?_⟩); refine A1 6 rfl (mv ⟨_, rfl, ?_⟩); refine A1 7 rfl (ncb ⟨_, rfl, ?_⟩)
    refine A1 8 rfl (fdb ti76 ⟨_, rfl, ?_⟩); refine A1 9 rfl (ldb ti3 ⟨_, rfl, ?_⟩); refine A1 10 rfl (mv ⟨_, rfl, ?_⟩); refine A1 11 rfl (f_sub_lh ut9 ⟨_, rfl, ?_⟩); refine A1 12 rfl (mv ⟨_, rfl, ?_⟩); refine A1 13 rfl (ncb ⟨_, rfl, ?_⟩)
    refine A1 14 rfl (fdb ti76 ⟨_, rfl, ?_⟩); refine A2 15 rfl (sto ti9 ?_); refine A1 16 rfl (ncb ⟨_, rfl, ?_⟩); refine A1 17 rfl (fdb ti76 ⟨_, rfl, ?_⟩); refine A2 18 rfl (sto ti3 ?_); refine a_end ?_; refine fin_normal ?_
    refine fin_od (l := []) rfl rfl ([0]) ([scO s (i + 1) (s.extract i (i + 1)) i]) rfl rfl rfl ?_ ?_
    · repeat (first | exact boz | refine boc ?_)
    · have h := step_yes (tok_par hi hi1 h6)
      refine ⟨rfl, ?_⟩
      rw [h.1, h.2.1, h.2.2, show i + (s.extract i (i + 1)).size = (i + 1) by rw [ByteArray.size_extract]; omega]; rfl
  (try simp only [nrm, Int.reduceEq, Int.reduceNe, Int.reduceLT, Int.reduceLE] at h6); refine kp [3, 0] ?_; refine sr ?_; refine o1 (mv ?_); refine oc (cv ca72 rfl rfl (letter_spec (byteAt s i) hba.1 hba.2) (fir .nil) ?_); refine o1 (asg ?_)
  refine nx ?_; refine cd (fun h7 => ?_) (fun h7 => ?_)
  · (try simp only [nrm, Int.reduceEq, Int.reduceNe, Int.reduceLT, Int.reduceLE] at h7)
    refine kp [0] ?_; refine sr ?_; refine o1 (mv ?_); refine o1 (mv ?_); refine o1 (ncb ?_); refine o1 (fdb ti76 ?_); refine o1 (ldb ti3 ?_)
    refine oc (ck ca70 rfl rfl (run_spec 73 _ (.inr rfl) (nameB · false) ca73 (fun c h0 h1 => nb2_spec c h0 h1) s hs i p tok0 i hil.2) [0] rfl (boc .nil) (fir (fir (fir .nil))) ?_); refine o1 (asg ?_); refine nx ?_; refine kp [2, 0] ?_
    refine sr ?_; refine o1 (mv ?_); refine o1 (mv ?_); refine o1 (ncb ?_); refine o1 (fdb ti76 ?_); refine o1 (ldb ti3 ?_); refine o1 (isu ?_); refine o1 (igt ?_); refine nx ?_; refine cd (fun h9 => ?_) (fun h9 => ?_)
    · (try simp only [nrm, Int.reduceEq, Int.reduceNe, Int.reduceLT, Int.reduceLE] at h9)
      refine kp [0] ?_; refine runs_region ?_; refine o1 (asg ?_); refine ops_nil ?_; refine inb_normal ?_; refine seq_normal ?_; refine runs_seq ?_; refine sr ?_; refine o1 (mv ?_); refine o1 (ilt ?_); refine nx ?_
      refine cdf (fun h19 => ?_) (fun h19 => ?_)
      · simp only [nrm, Int.reduceEq, Int.reduceNe, Int.reduceLT, Int.reduceLE] at h19
      (try simp only [nrm, Int.reduceEq, Int.reduceNe, Int.reduceLT, Int.reduceLE] at h19); refine sr ?_; refine o1 (mv ?_); refine o1 (ncb ?_); refine o1 (fdb ti76 ?_); refine oc (sto ti9 ?_); refine nx ?_; refine runs_ret ?_; refine seq_ret ?_
      refine fin_ret ?_; refine fin_od (l := []) rfl rfl ([0]) ([scO s p ⟨#[0]⟩ i]) rfl rfl rfl ?_ ?_
      · repeat (first | exact boz | refine boc ?_)
      · have h := step_no (tok_nameNo hi hi1 (by omega) h7 (spanB_step hi1 (nameB_mono h7)).symm (by omega))
        refine ⟨rfl, ?_⟩
        rw [h.1, h.2.1, h.2.2]; rfl
    (try simp only [nrm, Int.reduceEq, Int.reduceNe, Int.reduceLT, Int.reduceLE] at h9); refine runs_skip ?_; refine inb_normal ?_; refine seq_normal ?_; refine runs_seq ?_; refine kp [2, 0] ?_; refine sr ?_; refine o1 (mv ?_)
    refine o1 (ilt ?_); refine nx ?_; refine cd (fun h19 => ?_) (fun h19 => ?_)
    · (try simp only [nrm, Int.reduceEq, Int.reduceNe, Int.reduceLT, Int.reduceLE] at h19); contradiction
    (try simp only [nrm, Int.reduceEq, Int.reduceNe, Int.reduceLT, Int.reduceLE] at h19); refine runs_skip ?_; refine seq_normal ?_; refine a_start ?_ (hm := by exact mixed); refine A1 0 rfl (mv ⟨_, rfl, ?_⟩); refine A1 1 rfl (mv ⟨_, rfl, ?_⟩)
    refine A1 2 rfl (mv ⟨_, rfl, ?_⟩); refine A1 3 rfl (ncb ⟨_, rfl, ?_⟩); refine A1 4 rfl (fdb ti76 ⟨_, rfl, ?_⟩); refine A1 5 rfl (ldb ti9 ⟨_, rfl, ?_⟩); refine A1 6 rfl (mv ⟨_, rfl, ?_⟩); refine A1 7 rfl (ncb ⟨_, rfl, ?_⟩)
    refine A1 8 rfl (fdb ti76 ⟨_, rfl, ?_⟩); refine A1 9 rfl (ldb ti3 ⟨_, rfl, ?_⟩); refine A1 10 rfl (mv ⟨_, rfl, ?_⟩); refine A1 11 rfl (f_sub_lh ut9 ⟨_, rfl, ?_⟩); refine A1 12 rfl (mv ⟨_, rfl, ?_⟩); refine A1 13 rfl (ncb ⟨_, rfl, ?_⟩)
    refine A1 14 rfl (fdb ti76 ⟨_, rfl, ?_⟩); refine A2 15 rfl (sto ti9 ?_); refine A1 16 rfl (ncb ⟨_, rfl, ?_⟩); refine A1 17 rfl (fdb ti76 ⟨_, rfl, ?_⟩); refine A2 18 rfl (sto ti3 ?_); refine a_end ?_; refine fin_normal ?_
    refine fin_od (l := []) rfl rfl ([0]) ([scO s (spanB (fun x => nameB x false) s i) (s.extract i (spanB (fun x => nameB x false) s i)) i]) rfl rfl rfl ?_ ?_
    · repeat (first | exact boz | refine boc ?_)
    · have h := step_yes (tok_name hi hi1 (by omega) h7 (spanB_step hi1 (nameB_mono h7)).symm (by omega))
      refine ⟨rfl, ?_⟩
      rw [h.1, h.2.1, h.2.2, show i + (s.extract i (spanB (fun x => nameB x false) s i)).size = (spanB (fun x => nameB x false) s i) by rw [ByteArray.size_extract]; omega]; rfl
  (try simp only [nrm, Int.reduceEq, Int.reduceNe, Int.reduceLT, Int.reduceLE] at h7); refine sr ?_; refine o1 (mv ?_); refine o1 (ieq ?_); refine o1 (mv ?_)
  apply ops_or (yt := 77) (d := 75) 2 rfl rfl rfl (.none rfl) rfl rfl
  case h1 =>
    intro hb4 hK
    have hc := hb4; (try simp only [nrm, Int.reduceEq, Int.reduceNe, Int.reduceLT, Int.reduceLE] at hc)
    refine gye ?_ (hbw := by exact hb4); refine o1 (mv ?_); refine gye ?_ (hbw := by exact hb4); refine oc (cv ca74 rfl rfl (digit_spec (byteAt s i)) (fir .nil) ?_); exact hK [_, _] rfl rfl
  case h2 =>
    intro hb4 hK; refine gno ?_ (hbw := by exact hb4); refine gno ?_ (hbw := by exact hb4); exact hK [_, _] rfl
  refine o1 (asg ?_); refine nx ?_; refine cdf (fun h11 => ?_) (fun h11 => ?_)
  · (try simp only [nrm, Int.reduceEq, Int.reduceNe, Int.reduceLT, Int.reduceLE] at h11)
    refine kp [0] ?_; refine runs_region ?_; refine o1 (asg ?_); refine ops_nil ?_; refine inb_normal ?_; refine seq_normal ?_; refine runs_seq ?_; refine sr ?_; refine o1 (mv ?_); refine o1 (ilt ?_); refine nx ?_
    refine cdf (fun h19 => ?_) (fun h19 => ?_)
    · simp only [nrm, Int.reduceEq, Int.reduceNe, Int.reduceLT, Int.reduceLE] at h19
    (try simp only [nrm, Int.reduceEq, Int.reduceNe, Int.reduceLT, Int.reduceLE] at h19); refine sr ?_; refine o1 (mv ?_); refine o1 (ncb ?_); refine o1 (fdb ti76 ?_); refine oc (sto ti9 ?_); refine nx ?_; refine runs_ret ?_; refine seq_ret ?_
    refine fin_ret ?_; refine fin_od (l := []) rfl rfl ([0]) ([scO s p ⟨#[0]⟩ i]) rfl rfl rfl ?_ ?_
    · repeat (first | exact boz | refine boc ?_)
    · have h := step_no (tok_none hi hi1 (by omega) h7 (by simp only [digB, decide_eq_false_iff_not] at h11; omega))
      refine ⟨rfl, ?_⟩
      rw [h.1, h.2.1, h.2.2]; rfl
  (try simp only [nrm, Int.reduceEq, Int.reduceNe, Int.reduceLT, Int.reduceLE] at h11); refine kp [3, 0] ?_; refine sr ?_; refine o1 (mv ?_); refine o1 (ncb ?_); refine o1 (fdb ti76 ?_); refine o1 (ldb ti3 ?_); refine o1 (asg ?_); refine nx ?_
  refine runs_seq ?_; refine kp [4, 3, 0] ?_; refine sr ?_; refine o1 (mv ?_); refine o1 (ieq ?_); refine nx ?_; refine cdf (fun h13 => ?_) (fun h13 => ?_)
  · (try simp only [nrm, Int.reduceEq, Int.reduceNe, Int.reduceLT, Int.reduceLE] at h13)
    refine runs_skip ?_; refine seq_normal ?_; refine sr ?_; refine o1 (mv ?_); refine o1 (mv ?_)
    refine oc (ck ca70 rfl rfl (run_spec 74 _ (.inr rfl) digB ca74 (fun c _ _ => digit_spec c) s hs i p tok0 i hil.2) [0] rfl (boc .nil) (fir (fir (fir .nil))) ?_); refine o1 (asg ?_); refine nx ?_; refine kp [2, 4, 0] ?_; refine sr ?_
    refine o1 (mv ?_); refine o1 (mv ?_); refine o1 (isu ?_); refine o1 (asg ?_); refine nx ?_; refine sr ?_; refine o1 (mv ?_); refine o1 (ieq ?_); refine o1 (mv ?_)
    apply ops_or (yt := 97) (d := 95) 2 rfl rfl rfl (.none rfl) rfl rfl
    case h1 =>
      intro hb4 hK
      have hc := hb4; (try simp only [nrm, Int.reduceEq, Int.reduceNe, Int.reduceLT, Int.reduceLE] at hc)
      refine gye ?_ (hbw := by exact hb4); refine o1 (mv ?_); refine gye ?_ (hbw := by exact hb4); refine o1 (igt ?_); exact hK [_, _] rfl rfl
    case h2 =>
      intro hb4 hK; refine gno ?_ (hbw := by exact hb4); refine gno ?_ (hbw := by exact hb4); exact hK [_, _] rfl
    refine o1 (mv ?_)
    apply ops_or (yt := 110) (d := 99) 11 rfl rfl rfl (.none rfl) rfl rfl
    case h1 =>
      intro hb12 hK
      have hc := hb12; (try simp only [nrm, Int.reduceEq, Int.reduceNe, Int.reduceLT, Int.reduceLE] at hc)
      refine gye ?_ (hbw := by exact hb12); refine o1 (mv ?_); refine gye ?_ (hbw := by exact hb12); refine o1 (igt ?_); refine gye ?_ (hbw := by exact hb12); refine o1 (mv ?_)
      apply ops_and (yt := 109) (d := 102) 7 rfl rfl rfl (.yes rfl rfl rfl hb12) rfl rfl
      case h1 =>
        intro hb19 hK
        have hc := hb19; (try simp only [nrm, Int.reduceEq, Int.reduceNe, Int.reduceLT, Int.reduceLE] at hc)
        refine gye ?_ (hbw := by exact hb19); refine o1 (mv ?_); refine gye ?_ (hbw := by exact hb19); refine o1 (ncb ?_); refine gye ?_ (hbw := by exact hb19); refine o1 (fdb ti76 ?_); refine gye ?_ (hbw := by exact hb19); refine o1 (ldb ti9 ?_)
        refine gye ?_ (hbw := by exact hb19); refine o1 (mv ?_); refine gye ?_ (hbw := by exact hb19); refine o1 (byt ut9 ?_); refine gye ?_ (hbw := by exact hb19); refine o1 (ieq ?_); exact hK [_, _, _, _, _, _, _] rfl rfl
      case h2 =>
        intro hb19 hK; refine gno ?_ (hbw := by exact hb19); refine gno ?_ (hbw := by exact hb19); refine gno ?_ (hbw := by exact hb19); refine gno ?_ (hbw := by exact hb19); refine gno ?_ (hbw := by exact hb19); refine gno ?_ (hbw := by exact hb19)
        refine gno ?_ (hbw := by exact hb19); exact hK [_, _, _, _, _, _, _] rfl
      exact hK [_, _, _, _] rfl rfl
    case h2 =>
      intro hb12 hK; refine gno ?_ (hbw := by exact hb12); refine gno ?_ (hbw := by exact hb12); refine gno ?_ (hbw := by exact hb12); refine gud ?_; refine gud ?_; refine gud ?_; refine gud ?_; refine gud ?_; refine gud ?_; refine gud ?_
      refine gno ?_ (hbw := by exact hb12); exact hK [_, _, _, _, _, _, _, _, _, _, _] rfl
    refine nx ?_; refine cd (fun h17 => ?_) (fun h17 => ?_)
    · (try simp only [nrm, Int.reduceEq, Int.reduceNe, Int.reduceLT, Int.reduceLE] at h17)
      refine kp [0] ?_; refine runs_region ?_; refine o1 (asg ?_); refine ops_nil ?_; refine inb_normal ?_; refine seq_normal ?_; refine runs_seq ?_; refine sr ?_; refine o1 (mv ?_); refine o1 (ilt ?_); refine nx ?_
      refine cdf (fun h19 => ?_) (fun h19 => ?_)
      · simp only [nrm, Int.reduceEq, Int.reduceNe, Int.reduceLT, Int.reduceLE] at h19
      (try simp only [nrm, Int.reduceEq, Int.reduceNe, Int.reduceLT, Int.reduceLE] at h19); refine sr ?_; refine o1 (mv ?_); refine o1 (ncb ?_); refine o1 (fdb ti76 ?_); refine oc (sto ti9 ?_); refine nx ?_; refine runs_ret ?_; refine seq_ret ?_
      refine fin_ret ?_; refine fin_od (l := []) rfl rfl ([0]) ([scO s p ⟨#[0]⟩ i]) rfl rfl rfl ?_ ?_
      · repeat (first | exact boz | refine boc ?_)
      · have h := step_no (tok_numNo hi hi1 (by omega) h7 (by simp only [digB, decide_eq_true_eq] at h11; omega) (spanB_step hi1 (by rcases h11 with h11 | h11; omega; exact h11)).symm (if_neg h13) (by omega))
        refine ⟨rfl, ?_⟩
        rw [h.1, h.2.1, h.2.2]; rfl
    (try simp only [nrm, Int.reduceEq, Int.reduceNe, Int.reduceLT, Int.reduceLE] at h17); refine runs_skip ?_; refine inb_normal ?_; refine seq_normal ?_; refine runs_seq ?_; refine kp [2, 0] ?_; refine sr ?_; refine o1 (mv ?_)
    refine o1 (ilt ?_); refine nx ?_; refine cd (fun h19 => ?_) (fun h19 => ?_)
    · (try simp only [nrm, Int.reduceEq, Int.reduceNe, Int.reduceLT, Int.reduceLE] at h19); contradiction
    (try simp only [nrm, Int.reduceEq, Int.reduceNe, Int.reduceLT, Int.reduceLE] at h19); refine runs_skip ?_; refine seq_normal ?_; refine a_start ?_ (hm := by exact mixed); refine A1 0 rfl (mv ⟨_, rfl, ?_⟩); refine A1 1 rfl (mv ⟨_, rfl, ?_⟩)
    refine A1 2 rfl (mv ⟨_, rfl, ?_⟩); refine A1 3 rfl (ncb ⟨_, rfl, ?_⟩); refine A1 4 rfl (fdb ti76 ⟨_, rfl, ?_⟩); refine A1 5 rfl (ldb ti9 ⟨_, rfl, ?_⟩); refine A1 6 rfl (mv ⟨_, rfl, ?_⟩); refine A1 7 rfl (ncb ⟨_, rfl, ?_⟩)
    refine A1 8 rfl (fdb ti76 ⟨_, rfl, ?_⟩); refine A1 9 rfl (ldb ti3 ⟨_, rfl, ?_⟩); refine A1 10 rfl (mv ⟨_, rfl, ?_⟩); refine A1 11 rfl (f_sub_lh ut9 ⟨_, rfl, ?_⟩); refine A1 12 rfl (mv ⟨_, rfl, ?_⟩); refine A1 13 rfl (ncb ⟨_, rfl, ?_⟩)
    refine A1 14 rfl (fdb ti76 ⟨_, rfl, ?_⟩); refine A2 15 rfl (sto ti9 ?_); refine A1 16 rfl (ncb ⟨_, rfl, ?_⟩); refine A1 17 rfl (fdb ti76 ⟨_, rfl, ?_⟩); refine A2 18 rfl (sto ti3 ?_); refine a_end ?_; refine fin_normal ?_
    refine fin_od (l := []) rfl rfl ([0]) ([scO s (spanB digB s i) (s.extract i (spanB digB s i)) i]) rfl rfl rfl ?_ ?_
    · repeat (first | exact boz | refine boc ?_)
    · have h := step_yes (tok_num hi hi1 (by omega) h7 (by simp only [digB, decide_eq_true_eq] at h11; omega) (spanB_step hi1 (by rcases h11 with h11 | h11; omega; exact h11)).symm (if_neg h13) (by omega))
      refine ⟨rfl, ?_⟩
      rw [h.1, h.2.1, h.2.2, show i + (s.extract i (spanB digB s i)).size = (spanB digB s i) by rw [ByteArray.size_extract]; omega]; rfl
  (try simp only [nrm, Int.reduceEq, Int.reduceNe, Int.reduceLT, Int.reduceLE] at h13); refine runs_region ?_; refine o1 (mv ?_); refine o1 (iad ?_); refine o1 (asg ?_); refine nx ?_; refine kp [4, 0] ?_; refine sr ?_; refine o1 (mv ?_)
  refine o1 (mv ?_); refine oc (ck ca70 rfl rfl (run_spec 74 _ (.inr rfl) digB ca74 (fun c _ _ => digit_spec c) s hs (i + 1) p tok0 i (by omega)) [0] rfl (boc .nil) (fir (fir (fir .nil))) ?_); refine o1 (asg ?_); refine nx ?_; refine sr ?_
  refine o1 (mv ?_); refine o1 (mv ?_); refine o1 (isu ?_); refine o1 (asg ?_); refine nx ?_; refine kp [5, 2, 4, 0] ?_; refine sr ?_; refine o1 (mv ?_); refine o1 (ieq ?_); refine o1 (mv ?_)
  apply ops_or (yt := 97) (d := 95) 2 rfl rfl rfl (.none rfl) rfl rfl
  case h1 =>
    intro hb4 hK
    have hc := hb4; (try simp only [nrm, Int.reduceEq, Int.reduceNe, Int.reduceLT, Int.reduceLE] at hc)
    refine gye ?_ (hbw := by exact hb4); refine o1 (mv ?_); refine gye ?_ (hbw := by exact hb4); refine o1 (igt ?_); exact hK [_, _] rfl rfl
  case h2 =>
    intro hb4 hK; refine gno ?_ (hbw := by exact hb4); refine gno ?_ (hbw := by exact hb4); exact hK [_, _] rfl
  refine o1 (mv ?_)
  apply ops_or (yt := 110) (d := 99) 11 rfl rfl rfl (.none rfl) rfl rfl
  case h1 =>
    intro hb12 hK
    have hc := hb12; (try simp only [nrm, Int.reduceEq, Int.reduceNe, Int.reduceLT, Int.reduceLE] at hc)
    refine gye ?_ (hbw := by exact hb12); refine o1 (mv ?_); refine gye ?_ (hbw := by exact hb12); refine o1 (igt ?_); refine gye ?_ (hbw := by exact hb12); refine o1 (mv ?_)
    apply ops_and (yt := 109) (d := 102) 7 rfl rfl rfl (.yes rfl rfl rfl hb12) rfl rfl
    case h1 =>
      intro hb19 hK
      have hc := hb19; (try simp only [nrm, Int.reduceEq, Int.reduceNe, Int.reduceLT, Int.reduceLE] at hc)
      refine gye ?_ (hbw := by exact hb19); refine o1 (mv ?_); refine gye ?_ (hbw := by exact hb19); refine o1 (ncb ?_); refine gye ?_ (hbw := by exact hb19); refine o1 (fdb ti76 ?_); refine gye ?_ (hbw := by exact hb19); refine o1 (ldb ti9 ?_)
      refine gye ?_ (hbw := by exact hb19); refine o1 (mv ?_); refine gye ?_ (hbw := by exact hb19); refine o1 (byt ut9 ?_); refine gye ?_ (hbw := by exact hb19); refine o1 (ieq ?_); exact hK [_, _, _, _, _, _, _] rfl rfl
    case h2 =>
      intro hb19 hK; refine gno ?_ (hbw := by exact hb19); refine gno ?_ (hbw := by exact hb19); refine gno ?_ (hbw := by exact hb19); refine gno ?_ (hbw := by exact hb19); refine gno ?_ (hbw := by exact hb19); refine gno ?_ (hbw := by exact hb19)
      refine gno ?_ (hbw := by exact hb19); exact hK [_, _, _, _, _, _, _] rfl
    exact hK [_, _, _, _] rfl rfl
  case h2 =>
    intro hb12 hK; refine gno ?_ (hbw := by exact hb12); refine gno ?_ (hbw := by exact hb12); refine gno ?_ (hbw := by exact hb12); refine gud ?_; refine gud ?_; refine gud ?_; refine gud ?_; refine gud ?_; refine gud ?_; refine gud ?_
    refine gno ?_ (hbw := by exact hb12); exact hK [_, _, _, _, _, _, _, _, _, _, _] rfl
  refine nx ?_; refine cd (fun h17 => ?_) (fun h17 => ?_)
  · (try simp only [nrm, Int.reduceEq, Int.reduceNe, Int.reduceLT, Int.reduceLE] at h17)
    refine kp [0] ?_; refine runs_region ?_; refine o1 (asg ?_); refine ops_nil ?_; refine inb_normal ?_; refine seq_normal ?_; refine runs_seq ?_; refine sr ?_; refine o1 (mv ?_); refine o1 (ilt ?_); refine nx ?_
    refine cdf (fun h19 => ?_) (fun h19 => ?_)
    · simp only [nrm, Int.reduceEq, Int.reduceNe, Int.reduceLT, Int.reduceLE] at h19
    (try simp only [nrm, Int.reduceEq, Int.reduceNe, Int.reduceLT, Int.reduceLE] at h19); refine sr ?_; refine o1 (mv ?_); refine o1 (ncb ?_); refine o1 (fdb ti76 ?_); refine oc (sto ti9 ?_); refine nx ?_; refine runs_ret ?_; refine seq_ret ?_
    refine fin_ret ?_; refine fin_od (l := []) rfl rfl ([0]) ([scO s p ⟨#[0]⟩ i]) rfl rfl rfl ?_ ?_
    · repeat (first | exact boz | refine boc ?_)
    · have h := step_no (tok_numNo hi hi1 (by omega) h7 (by simp only [digB, decide_eq_true_eq] at h11; omega) rfl (if_pos h13) (by omega))
      refine ⟨rfl, ?_⟩
      rw [h.1, h.2.1, h.2.2]; rfl
  (try simp only [nrm, Int.reduceEq, Int.reduceNe, Int.reduceLT, Int.reduceLE] at h17); refine runs_skip ?_; refine inb_normal ?_; refine seq_normal ?_; refine runs_seq ?_; refine kp [2, 0] ?_; refine sr ?_; refine o1 (mv ?_)
  refine o1 (ilt ?_); refine nx ?_; refine cd (fun h19 => ?_) (fun h19 => ?_)
  · (try simp only [nrm, Int.reduceEq, Int.reduceNe, Int.reduceLT, Int.reduceLE] at h19); contradiction
  (try simp only [nrm, Int.reduceEq, Int.reduceNe, Int.reduceLT, Int.reduceLE] at h19); refine runs_skip ?_; refine seq_normal ?_; refine a_start ?_ (hm := by exact mixed); refine A1 0 rfl (mv ⟨_, rfl, ?_⟩); refine A1 1 rfl (mv ⟨_, rfl, ?_⟩)
  refine A1 2 rfl (mv ⟨_, rfl, ?_⟩); refine A1 3 rfl (ncb ⟨_, rfl, ?_⟩); refine A1 4 rfl (fdb ti76 ⟨_, rfl, ?_⟩); refine A1 5 rfl (ldb ti9 ⟨_, rfl, ?_⟩); refine A1 6 rfl (mv ⟨_, rfl, ?_⟩); refine A1 7 rfl (ncb ⟨_, rfl, ?_⟩)
  refine A1 8 rfl (fdb ti76 ⟨_, rfl, ?_⟩); refine A1 9 rfl (ldb ti3 ⟨_, rfl, ?_⟩); refine A1 10 rfl (mv ⟨_, rfl, ?_⟩); refine A1 11 rfl (f_sub_lh ut9 ⟨_, rfl, ?_⟩); refine A1 12 rfl (mv ⟨_, rfl, ?_⟩); refine A1 13 rfl (ncb ⟨_, rfl, ?_⟩)
  refine A1 14 rfl (fdb ti76 ⟨_, rfl, ?_⟩); refine A2 15 rfl (sto ti9 ?_); refine A1 16 rfl (ncb ⟨_, rfl, ?_⟩); refine A1 17 rfl (fdb ti76 ⟨_, rfl, ?_⟩); refine A2 18 rfl (sto ti3 ?_); refine a_end ?_; refine fin_normal ?_
  refine fin_od (l := []) rfl rfl ([0]) ([scO s (spanB digB s (i + 1)) (s.extract i (spanB digB s (i + 1))) i]) rfl rfl rfl ?_ ?_
  · repeat (first | exact boz | refine boc ?_)
  · have h := step_yes (tok_num hi hi1 (by omega) h7 (by simp only [digB, decide_eq_true_eq] at h11; omega) rfl (if_pos h13) (by omega))
    refine ⟨rfl, ?_⟩
    rw [h.1, h.2.1, h.2.2, show i + (s.extract i (spanB digB s (i + 1))).size = (spanB digB s (i + 1)) by rw [ByteArray.size_extract]; omega]; rfl
end Go.Proofs.YtneaancanfpdhaaDoor
