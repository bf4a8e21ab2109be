/-
  What is proved here: how great a term that was read is; contracts of termParsed, TermParses.
-/
import Derived.Test.YtneaancanfpdhaaGreatDoorYT3
import Derived.Test.YtneaancanfpdhaaGreatDoorYT6
import Derived.Test.YtneaancanfpdhaaGreatDoorYEr
set_option linter.unusedSimpArgs false
set_option linter.unusedVariables false
namespace Go.Proofs.YtneaancanfpdhaaGreatDoor
open Go Go.Vd Go.RowKit
attribute [local irreducible] Runs OpsR OpR FloatR AnyR AnyO
variable {g gl : Nat → List D}

theorem level_size {s : ByteArray} (n : Nat) {r : RS} (hp : r.p ≤ s.size) : (levelR n s r).1.size + 20 * r.p ≤ 10 + 20 * (levelR n s r).2.p := by
  obtain ⟨x, hx, _, hw⟩ := levelR_lev n hp
  rw [hx, x.size_toLvl]
  have := x.size_le_weight
  omega
theorem levels_size {s : ByteArray} : ∀ (n : Nat) {r : RS}, r.p ≤ s.size → sizes (levelsR n s r).1 + 30 * r.p ≤ 10 + 30 * (levelsR n s r).2.p := by
  intro n
  induction n with
  | zero => intro r hp; simp only [levelsR, sizes]; omega
  | succ n ih =>
    intro r hp
    simp only [levelsR]
    split
    · rename_i hc
      have h1 := levelR_le (s := s) (s.size + 1) hp
      have h2 := level_size (s := s) (s.size + 1) hp
      have h3 := ih h1.2
      simp only [sizes]
      cases hf : (levelR (s.size + 1) s r).2.f with
      | none =>
        have h4 := level_prog hp hc.1 hf
        omega
      | some a =>
        have h5 : levelsR n s (levelR (s.size + 1) s r).2 = ([], (levelR (s.size + 1) s r).2) := by
          cases n with
          | zero => rfl
          | succ n => simp only [levelsR]; rw [if_neg (by rintro ⟨e, _⟩; rw [hf] at e; cases e)]
        rw [h5]
        simp only [sizes]
        omega
    · simp only [sizes]; omega
theorem head_size {s : ByteArray} (k : Nat) {r : RS} (hp : r.p ≤ s.size) : sizes (headR s k r).2.1 + 30 * r.p ≤ 10 + 30 * (headR s k r).2.2.p := by
  unfold headR
  split
  · have h1 := levelR_le (s := s) (s.size + 1) hp
    have h2 := level_size (s := s) (s.size + 1) hp
    simp only [sizes]; omega
  · split
    · have h1 := nameR_le (s := s) hp
      have h2 := levels_size (s.size + 2) h1.2
      simp only; omega
    · simp only [sizes]; omega
theorem sizesT_app (l : List Trm) (x : Trm) : sizesT (l ++ [x]) = sizesT l + x.size := by
  induction l with
  | nil => simp [sizesT]
  | cons a r ih => simp [sizesT, ih]; omega
theorem term_size {s : ByteArray} : ∀ (n : Nat) (r : RS), r.p ≤ s.size → (termR n s r).1.size + 30 * r.p ≤ 1 + 30 * (termR n s r).2.p := by
  have hz : zeroT.size = 1 := rfl
  intro n
  induction n with
  | zero => intro r hp; simp only [termR, hz]; omega
  | succ n ih =>
    have hpart : ∀ (i : Nat) {r : RS}, r.p ≤ s.size → sizesT (partsR (termR n s) i r).1 + 30 * r.p ≤ i + 30 * (partsR (termR n s) i r).2.p := by
      intro i
      induction i with
      | zero => intro r hp; simp only [partsR, sizesT]; omega
      | succ i ihi =>
        intro r hp
        have h1 := ihi hp
        have h2 := partsR_le (s := s) (f := termR n s) (fun r hr => termR_le n r hr) i hp
        have h3 := ih _ h2.2
        simp only [partsR, sizesT_app]
        omega
    intro r hp
    obtain ⟨p, f⟩ := r
    simp only at hp
    cases f with
    | some a => simp only [termR, hz]; omega
    | none =>
      have h1 := nextR_le (s := s) (r := ⟨p, none⟩) hp
      simp only at h1 ⊢
      by_cases c1 : headT (tokR s p).1
      · by_cases c2 : (tokR s p).1 = ⟨#[40]⟩
        · by_cases c3 : kindT (tokR s (nextR s ⟨p, none⟩).2.p).1 = 0
          · rw [termR_kind c2 c3, RS.fail_p]; show zeroT.size + 30 * p ≤ _; rw [hz]; exact Nat.add_le_add_left (Nat.mul_le_mul_left 30 h1.1) 1
          · have hl1 : p < (nextR s ⟨p, none⟩).2.p := by
              have h7 := tokR_at (s := s) hp
              rw [nextR_ok (by rw [c2]; decide), c2]
              have : (ByteArray.mk #[40]).size = 1 := rfl
              simp only; omega
            have h2 := nextR_le (s := s) (r := (nextR s ⟨p, none⟩).2) h1.2
            have h3 := headR_le (s := s) (kindT (tokR s (nextR s ⟨p, none⟩).2.p).1) h2.2
            have h4 := head_size (s := s) (kindT (tokR s (nextR s ⟨p, none⟩).2.p).1) h2.2
            have h5 := partsR_le (s := s) (f := termR n s) (fun r hr => termR_le n r hr) (partsOf (kindT (tokR s (nextR s ⟨p, none⟩).2.p).1)) h3.2
            have h6 := hpart (partsOf (kindT (tokR s (nextR s ⟨p, none⟩).2.p).1)) h3.2
            have h7 := takeR_le (s := s) (w := ⟨#[41]⟩) h5.2
            have h8 := partsOf_le (kindT (tokR s (nextR s ⟨p, none⟩).2.p).1)
            rw [termR_node (nm := (headR s (kindT (tokR s (nextR s ⟨p, none⟩).2.p).1) (nextR s (nextR s ⟨p, none⟩).2).2).1) (L := (headR s (kindT (tokR s (nextR s ⟨p, none⟩).2.p).1) (nextR s (nextR s ⟨p, none⟩).2).2).2.1) (r3 := (headR s (kindT (tokR s (nextR s ⟨p, none⟩).2.p).1) (nextR s (nextR s ⟨p, none⟩).2).2).2.2) c2 rfl c3 rfl]
            simp only [Trm.size]
            omega
        · rw [termR_num c1 c2]; simp only [Trm.size, sizes, sizesT]; have hpp : (RS.mk p none).p = p := rfl; omega
      · rw [termR_bad c1, RS.fail_p]; show zeroT.size + 30 * p ≤ 1 + 30 * p; rw [hz]; exact Nat.le_refl _
theorem parseT_size (s : ByteArray) : (parseT s).1.size ≤ 1099511627776 := by
  have hz : zeroT.size = 1 := rfl
  unfold parseT
  split
  · simp only [hz]; omega
  · have h1 := term_size (s := s) (s.size + 1) ⟨0, none⟩ (Nat.zero_le _)
    have h2 := termR_le (s := s) (s.size + 1) ⟨0, none⟩ (Nat.zero_le _)
    simp only at h1 h2 ⊢
    split
    · simp only; omega
    · simp only [hz]; omega

theorem termParsed_spec (hgl : glT g 2 = errTyD) (s : ByteArray) : TriD Tryz.prog (glT g) 7 [.v (.string s)] (· = .v (.bool true)) := by
  have h1 := tparse_spec (g := g) s
  have h2 := parseTerm_spec (g := g) s
  have h3 := faulty_spec (gl := glT g) hgl (parseT s).2.1 (parseT s).2.2
  generalize errD (parseT s).2.1 (parseT s).2.2 = ed at h1 h3
  generalize (parseT s).2.1 = c at h1 h2 h3
  generalize (parseT s).2.2 = a at h1 h2 h3
  have sx := parseT_size s
  have hsame := Trm.same_self (parseT s).1
  obtain ⟨ka, ma, na, la, aa, ea⟩ := Trm.case (parseT s).1
  rw [ea] at h1 h2 hsame sx
  refine triD_of_runs Tryz.func7 rfl Tryz.ntmps7 (rs := [.tmp 2]) rfl rfl rfl ?_
  refine sr ?_; refine o1 (asg ?_); refine nx ?_; refine sr ?_; refine o1 (mv ?_); refine oc (cv ca33 rfl rfl (h1) (fir .nil) ?_); refine o1 (mv ?_); refine o1 (ex2 ?_); refine o1 (ex2 ?_)
  refine oc (T := fun _ => False) (alc ti31 ?_ (hl := by simp only [List.length_cons, List.length_nil, Nat.reduceAdd]; rfl)); refine oc (sto ti31 ?_); refine o1 (asg ?_); refine nx ?_; refine kp [4, 3, 0] ?_; refine sr ?_; refine o1 (mv ?_)
  refine oc (cv ca9 rfl rfl (h2) (fir .nil) ?_); refine o1 (mv ?_); refine o1 (ex2 ?_); refine o1 (ex2 ?_); refine oc (T := fun _ => False) (alc ti31 ?_ (hl := by simp only [List.length_cons, List.length_nil, Nat.reduceAdd]; rfl))
  refine oc (T := fun _ => False) (alc ti33 ?_ (hl := by simp only [List.length_cons, List.length_nil, Nat.reduceAdd]; rfl)); refine oc (sto ti31 ?_); refine oc (sto ti33 ?_); refine nx ?_; refine kp [6, 5, 4, 3] ?_; refine sr ?_
  refine o1 (mv ?_); refine o1 (ldb ti33 ?_); refine oc (cv ca34 rfl rfl (h3) (fir (fid .nil)) ?_); refine o1 (asg ?_); refine nx ?_; refine kp [7, 5, 3] ?_; refine sr ?_; refine o1 (ldb ti31 ?_); refine o1 (ldb ti31 ?_)
  refine oc (T := fun _ => False) (op_call ca17 rfl rfl rfl rfl (sameTerm_spec ka ma na la aa ka ma na la aa sx) (fid (fid .nil)) (fun d hd => ?_))
  rw [hsame] at hd; obtain rfl := hd
  refine o1 (asg ?_); refine nx ?_; refine kp [8, 7] ?_; refine sr ?_; refine o1 (mv ?_); refine o1 (mv ?_)
  apply ops_and (yt := 27) (d := 26) 1 rfl rfl rfl (.none rfl) rfl rfl
  case h1 =>
    intro hb3 hK
    have hc := hb3; (try simp only [nrm, Int.reduceEq, Int.reduceNe, Int.reduceLT, Int.reduceLE] at hc)
    refine gye ?_ (hbw := by exact hb3); refine o1 (mv ?_); exact hK [_] rfl rfl
  case h2 =>
    intro hb3 hK; refine gno ?_ (hbw := by exact hb3); exact hK [_] rfl
  refine o1 (asg ?_); refine nx ?_; refine runs_ret ?_; refine fin_ret ?_; refine fin_d1 rfl rfl ?_
  rfl

theorem tparses_spec (hgl : glT g 2 = errTyD) (l : List Step) : TriD Tryz.prog (glT g) 4 [.sl 6 (steps l)] (· = .v (.bool true)) := by
  have hlen := steps_len l
  refine triD_of_runs Tryz.func4 rfl Tryz.ntmps4 (rs := [.tmp 2]) rfl rfl rfl ?_
  refine sr ?_; refine o1 (asg ?_); refine nx ?_; refine runs_seq ?_; refine sr ?_; refine o1 (asg ?_); refine nx ?_; refine runs_block ?_; refine kp [3, 0] ?_
  apply runs_loop_c (ι := Nat) (fun i => [(3, int i)]) [0] (fun i => i ≤ l.length ∧ i ≤ 1152921504606846976) (fun i => l.length - i) (0)
  case hk => exact rfl
  case hI =>
    exact ⟨Nat.zero_le _, by omega⟩
  case hm =>
    refine mo ?_ (sly (sly slz)); exact boz
  case h =>
    rintro i hinv
    try dsimp only at hinv
    refine kp [3, 0] ?_; refine runs_seq ?_; refine sr ?_; refine o1 (mv ?_); refine o1 (mv ?_); refine o1 (le1 us22 ?_); refine o1 (ilt ?_); refine o1 (mv ?_)
    apply ops_and (yt := 12) (d := 10) 2 rfl rfl rfl (.none rfl) rfl rfl
    case h1 =>
      intro hb9 hK
      have hc := hb9; (try simp only [nrm, Int.reduceEq, Int.reduceNe, Int.reduceLT, Int.reduceLE] at hc)
      refine gye ?_ (hbw := by exact hb9); refine o1 (mv ?_); refine gye ?_ (hbw := by exact hb9); refine o1 (ilt ?_); exact hK [_, _] rfl rfl
    case h2 =>
      intro hb9 hK; refine gno ?_ (hbw := by exact hb9); refine gno ?_ (hbw := by exact hb9); exact hK [_, _] rfl
    refine nx ?_; refine cdf (fun h2 => ?_) (fun h2 => ?_)
    · (try simp only [nrm, Int.reduceEq, Int.reduceNe, Int.reduceLT, Int.reduceLE] at h2)
      refine runs_exit ?_; refine seq_exit ?_; refine seq_exit ?_; refine inb_exit ?_; refine seq_normal ?_; refine kp [] ?_; refine sr ?_; refine o1 (asg ?_); refine nx ?_; refine runs_ret ?_; refine fin_ret ?_; refine fin_d1 rfl rfl ?_
      rfl
    (try simp only [nrm, Int.reduceEq, Int.reduceNe, Int.reduceLT, Int.reduceLE] at h2); refine runs_skip ?_; refine seq_normal ?_; refine runs_seq ?_; refine runs_block ?_; refine runs_seq ?_; refine kp [3, 0] ?_
    have hin : i < l.length := by omega
    refine runs_region ?_; refine o1 (mv ?_); refine o1 (mv ?_); refine o1 (ixs us22 te22 ?_ (he := by exact (step_at hin))); refine o1 (fdc ti25 ?_); refine o1 (ldc ti9 ?_); refine oc (cv ca7 rfl rfl (termParsed_spec hgl l[i].s) (fir .nil) ?_)
    refine o1 (asg ?_); refine nx ?_; refine kp [4, 3, 0] ?_; refine sr ?_; refine o1 (mv ?_); refine o1 (mv ?_); refine o1 (ixs us22 te22 ?_ (he := by exact (step_at hin))); refine o1 (fdc ti25 ?_); refine o1 (ldc ti9 ?_)
    refine oc (cv ca7 rfl rfl (termParsed_spec hgl l[i].t) (fir .nil) ?_); refine o1 (asg ?_); refine nx ?_; refine kp [5, 4, 3, 0] ?_; refine sr ?_; refine o1 (mv ?_); refine o1 (f_not ?_); refine o1 (mv ?_)
    apply ops_or (yt := 32) (d := 30) 2 rfl rfl rfl (.none rfl) rfl rfl
    case h1 =>
      intro hb4 hK
      have hc := hb4; (try simp only [nrm, Int.reduceEq, Int.reduceNe, Int.reduceLT, Int.reduceLE] at hc)
      refine gye ?_ (hbw := by exact hb4); refine o1 (mv ?_); refine gye ?_ (hbw := by exact hb4); refine o1 (f_not ?_); exact hK [_, _] rfl rfl
    case h2 =>
      intro hb4 hK; refine gno ?_ (hbw := by exact hb4); refine gno ?_ (hbw := by exact hb4); exact hK [_, _] rfl
    refine nx ?_; refine cd (fun h6 => ?_) (fun h6 => ?_)
    · simp only [nrm, Int.reduceEq, Int.reduceNe, Int.reduceLT, Int.reduceLE] at h6
    (try simp only [nrm, Int.reduceEq, Int.reduceNe, Int.reduceLT, Int.reduceLE] at h6); refine runs_skip ?_; refine inb_normal ?_; refine seq_normal ?_; refine kp [3, 0] ?_; refine runs_region ?_; refine o1 (mv ?_); refine o1 (iad ?_)
    refine o1 (asg ?_); refine ops_nil ?_; refine seq_back ?_; refine back_i (i + 1) rfl ?_ ?_
    · exact ⟨⟨by omega, by omega⟩, by omega⟩
    · refine mo ?_ (sly (sly slz))
      exact boz
end Go.Proofs.YtneaancanfpdhaaGreatDoor
