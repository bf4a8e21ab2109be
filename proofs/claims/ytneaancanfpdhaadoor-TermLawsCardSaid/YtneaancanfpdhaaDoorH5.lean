/-
  What is proved here, text by text: contracts of Spine, New, Apply. contracts of the reference's Parts, uses, Much. that this program holds the library functions of which contracts are used (the kernel compares the bodies). strconv.Itoa at what a term's numbers are: the digits that the reference writes. strings.Join, and strconv.Atoi at what is no number: contracts of data. contracts of the program's Print of terms. contracts of the program's scanner: letter, digit, run. contracts of the program's scanner: Step. contracts of the program's scanner: Fail, Take, Name, End, NewScanner. contracts of the program's scanner: Level: what the reference's reader reads. contracts of the program's level.Catch, Scanner.End; errors as data. contracts of what the program's term.Read calls: strings.CutPrefix, strconv.Atoi (a few digits), slices.Index. the contract of slices.Index over texts. the contract of the program's term.Read: what the reference's reader reads. contracts of the program's term.Parse: what the reference's ParseTerm answers. the contract of the reference's SameLevel. contracts of the reference's ParseTerm, SameTerm. contracts of limit, sameNames. the contract of termFacts.
-/
import Derived.Test.YtneaancanfpdhaaDoorH4
import Derived.Shelf.Strings.OnBuilder
import Derived.Shelf.Strconv.Itoa3
import Derived.Shelf.Strconv.ErrVarAll
import Derived.Test.YtneaancanfpdhaaDoorProg
import Derived.WalkSmall
set_option linter.unusedSimpArgs false
set_option linter.unusedVariables false
namespace Go.Proofs.YtneaancanfpdhaaDoor
open Go Go.Vd Go.RowKit
attribute [local irreducible] Runs OpsR OpR FloatR AnyR AnyO
variable {g gl : Nat → List D}

theorem spine_spec (k m : Int) (s : ByteArray) (ls : List Lvl) (args : List Trm) (hok : spOk (.mk k m s ls args)) (hsz : (Trm.mk k m s ls args).size ≤ 1099511627776) :
    TriD Tryd.prog gl 13 [(Trm.mk k m s ls args).d] (· = .tup [(spineT (.mk k m s ls args)).1.d, .sl 5 (trms (spineT (.mk k m s ls args)).2)]) := by
  refine triD_of_runs Tryd.func13 rfl Tryd.ntmps13 (rs := [.cell 2 29, .tmp 3]) rfl rfl rfl ?_
  refine sr ?_; refine oc (T := fun _ => False) (bx ti29 ?_ (hl := by simp only [List.length_cons, List.length_nil, Nat.reduceAdd]; rfl))
  refine oc (T := fun _ => False) (alc ti29 ?_ (hl := by simp only [List.length_cons, List.length_nil, Nat.reduceAdd]; rfl)); refine o1 (asg ?_); refine nx ?_; refine sr ?_; refine o1 (asg ?_); refine nx ?_; refine runs_seq ?_
  refine runs_block ?_; refine kp [4, 2, 1] ?_; refine runs_nilrow 29 5 rfl ?_
  apply runs_loop_o (ι := (Int × Int × ByteArray × List Lvl × List Trm) × List Trm) (fun ⟨⟨k1, m1, s1, l1, a1⟩, acc⟩ => [(4, .arr 2 (trms acc).length)]) (fun ⟨⟨k1, m1, s1, l1, a1⟩, acc⟩ => [.cells [.d (.v (.int .i64 k1)), .d (.v (.int .i64 m1)), .d (.v (.string s1)), .d (.sl 3 (lvls l1)), .d (.sl 5 (trms a1))] 29, .cells [.d (.v (.int .i64 0)), .d (.v (.int .i64 0)), .d (.v (.string .empty)), .d (.v (.slice none 0 0)), .d (.v (.slice none 0 0))] 29, .buf 29 5 (trms acc) none]) [2, 1] (fun ⟨⟨k1, m1, s1, l1, a1⟩, acc⟩ => spOk (.mk k1 m1 s1 l1 a1) ∧ spineT (.mk k m s ls args) = ((spineT (.mk k1 m1 s1 l1 a1)).1, (spineT (.mk k1 m1 s1 l1 a1)).2 ++ acc.reverse) ∧ (Trm.mk k1 m1 s1 l1 a1).size + acc.length ≤ (Trm.mk k m s ls args).size) (fun ⟨⟨k1, m1, s1, l1, a1⟩, acc⟩ => (Trm.mk k1 m1 s1 l1 a1).size) ((⟨k, m, s, ls, args⟩, [])) ([0, 1, 2])
  case hk => exact rfl
  case hI =>
    exact ⟨hok, by simp, by simp⟩
  case hm =>
    refine mo ?_ (slx rfl (by (show Fit _ _ (SV.arr 2 0); exact Fit.nilA rfl)) (sly (sly slz)))
    repeat (first | exact boz | refine boc ?_ | refine bonb ?_)
  case h =>
    rintro ⟨⟨k1, m1, s1, l1, a1⟩, acc⟩ hinv
    try dsimp only at hinv
    refine kp [4, 2, 1] ?_; refine runs_seq ?_; refine sr ?_; refine o1 (fdb ti29 ?_); refine o1 (ldb ti3 ?_); refine o1 (ieq ?_); refine nx ?_; refine cdf (fun h2 => ?_) (fun h2 => ?_)
    · (try simp only [nrm, Int.reduceEq, Int.reduceNe, Int.reduceLT, Int.reduceLE] at h2)
      refine runs_exit ?_; refine seq_exit ?_; refine seq_exit ?_; refine inb_exit ?_; refine seq_normal ?_; refine runs_seq ?_
      have hal2 := hinv.2.2
      have hrv := fun pq => reverse_spec (gl := gl) (pq := pq) acc (by omega)
      have hla := trms_len acc
      have hlr := trms_len acc.reverse
      refine runs_region ?_; refine ops_fixb 2 4 rfl rfl rfl (fun r ob' hob' => ?_); cases hob'; refine o1 (mv ?_); refine ops_unfixb 2 19 rfl rfl rfl ?_; refine oc (ck ca32 rfl rfl (hrv _) [2] rfl (.cons rfl .buf .nil) (fir .nil) ?_)
      refine nx ?_; refine kp [4, 2, 1] ?_; refine sr ?_; refine ops_unfixb 2 4 rfl rfl (by rw [hlr, List.length_reverse, hla]) ?_; refine ops_freezeb 2 rfl rfl rfl rfl ?_; refine o1 (ldb ti29 ?_); refine o1 (mv ?_); refine oc (sto ti29 ?_)
      refine o1 (asg ?_); refine nx ?_; refine runs_ret ?_; refine fin_ret ?_
      refine fin_dl ⟨_, _, rfl, (from_cell rfl rfl ti29 rfl rfl rfl rfl), ⟨_, _, rfl, rfl, rfl⟩⟩ rfl (.tup [(Trm.mk k1 m1 s1 l1 a1).d, .sl 5 (trms acc.reverse)]) (by exact .refl _) ?_
      rw [hinv.2.1, spine_no h2, List.nil_append]
    (try simp only [nrm, Int.reduceEq, Int.reduceNe, Int.reduceLT, Int.reduceLE] at h2); refine runs_skip ?_; refine seq_normal ?_; refine runs_block ?_; refine runs_seq ?_; obtain rfl := h2
    obtain ⟨k2, m2, s2, l2, a2, k3, m3, s3, l3, a3, rfl, hok2⟩ := spOk_app hinv.1 rfl
    have hal := trms_len acc
    have hal2 := hinv.2.2
    have hlast : trms acc ++ [[.v (.int .i64 k3), .v (.int .i64 m3), .v (.string s3), .sl 3 (lvls l3), .sl 5 (trms a3)]] = trms (acc ++ [.mk k3 m3 s3 l3 a3]) := (trms_app acc [.mk k3 m3 s3 l3 a3]).symm
    refine runs_region ?_; refine o1 (mv ?_); refine o1 (fdb ti29 ?_); refine o1 (ldb ti27 ?_); refine o1 (ixs us27 te27 ?_ (he := by exact (rfl))); refine o1 (ldc ti29 ?_)
    refine oc (T := fun _ => False) (op_lit sl27 [.tmp 12] ti29 rfl rfl rfl rfl rfl rfl rfl (by decide) (by decide) (by decide) (by simp only [List.length_cons, List.length_nil, Nat.reduceAdd]; rfl) rfl ?_)
    refine oc (op_append_arr sl27 rfl rfl rfl rfl rfl rfl rfl (by decide) (by simp) (by (simp only [maxLen, List.length_cons, List.length_nil]; omega)) rfl rfl rfl ?_); refine o1 (asg ?_); refine nx ?_; refine kp [4, 2, 1] ?_
    refine runs_region ?_; refine o1 (fdb ti29 ?_); refine o1 (ldb ti27 ?_); refine o1 (ixs us27 te27 ?_ (he := by exact (rfl))); refine o1 (ldc ti29 ?_); refine oc (sto ti29 ?_); refine ops_nil ?_; refine inb_normal ?_; refine seq_back ?_
    rw [hlast]
    refine back_c ((⟨k2, m2, s2, l2, a2⟩, acc ++ [.mk k3 m3 s3 l3 a3])) rfl ?_ ([0, 1, 2]) ?_
    · exact ⟨⟨hok2, by rw [hinv.2.1, spine_app]; simp, by have := hinv.2.2; simp only [Trm.size, sizesT, List.length_append, List.length_cons, List.length_nil] at this ⊢; omega⟩, by simp only [Trm.size, sizesT]; omega⟩
    · refine mo ?_ (sly (sly (sly slz)))
      repeat (first | exact boz | refine boc ?_ | refine bob ?_)

theorem tnew_spec (k : Int) (args : List Trm) : TriD Tryd.prog gl 33 [.v (.int .i64 k), .sl 5 (trms args)] (· = (Trm.mk k 0 .empty [] args).d) := by
  refine triD_of_runs Tryd.func33 rfl Tryd.ntmps33 (rs := [.cell 4 29]) rfl rfl rfl ?_
  refine sr ?_; refine oc (T := fun _ => False) (alc ti29 ?_ (hl := by simp only [List.length_cons, List.length_nil, Nat.reduceAdd]; rfl)); refine nx ?_; refine sr ?_; refine o1 (mv ?_); refine o1 (mv ?_); refine o1 (bld ti29 ?_)
  refine oc (sto ti29 ?_); refine nx ?_; refine runs_ret ?_; refine fin_ret ?_
  refine fin_dl ⟨_, _, rfl, (from_cell rfl rfl ti29 rfl rfl rfl rfl), rfl⟩ rfl ((Trm.mk k 0 .empty [] args).d) (by repeat (first | exact .refl _ | exact .nil | refine .agg ?_ | refine .cons ?_ ?_)) ?_
  rfl
theorem applyT_take {f a : Trm} {bs : List Trm} {i : Nat} (h : bs[i]? = some a) : applyT f (bs.take (i + 1)) = .mk 3 0 .empty [] [applyT f (bs.take i), a] := by
  rw [List.take_add_one, h, applyT, List.foldl_append]; rfl
theorem apply_spec (k m : Int) (s : ByteArray) (ls : List Lvl) (args : List Trm) (bs : List Trm) (hb : bs.length ≤ 1099511627776) :
    TriD Tryd.prog gl 14 [(Trm.mk k m s ls args).d, .sl 5 (trms bs)] (· = (applyT (.mk k m s ls args) bs).d) := by
  have hal := trms_len bs
  refine triD_of_runs Tryd.func14 rfl Tryd.ntmps14 (rs := [.cell 4 29]) rfl rfl rfl ?_
  refine sr ?_; refine oc (T := fun _ => False) (bx ti29 ?_ (hl := by simp only [List.length_cons, List.length_nil, Nat.reduceAdd]; rfl))
  refine oc (T := fun _ => False) (alc ti29 ?_ (hl := by simp only [List.length_cons, List.length_nil, Nat.reduceAdd]; rfl)); refine nx ?_; refine runs_seq ?_; refine sr ?_; refine o1 (mv ?_); refine o1 (le1 us27 ?_); refine o1 (mv ?_)
  refine nx ?_; refine runs_block ?_; refine kp [9, 8, 7, 4, 2] ?_
  apply runs_loop_o (ι := Nat × (Int × Int × ByteArray × List Lvl × List Trm)) (fun ⟨i, ⟨k1, m1, s1, l1, a1⟩⟩ => [(9, int i)]) (fun ⟨i, ⟨k1, m1, s1, l1, a1⟩⟩ => [.cells [.d (.v (.int .i64 k1)), .d (.v (.int .i64 m1)), .d (.v (.string s1)), .d (.sl 3 (lvls l1)), .d (.sl 5 (trms a1))] 29, .cells [.d (.v (.int .i64 0)), .d (.v (.int .i64 0)), .d (.v (.string .empty)), .d (.v (.slice none 0 0)), .d (.v (.slice none 0 0))] 29]) [8, 7, 4, 2] (fun ⟨i, ⟨k1, m1, s1, l1, a1⟩⟩ => i ≤ bs.length ∧ applyT (.mk k m s ls args) (bs.take i) = .mk k1 m1 s1 l1 a1) (fun ⟨i, ⟨k1, m1, s1, l1, a1⟩⟩ => bs.length - i) ((0, ⟨k, m, s, ls, args⟩)) ([0, 1])
  case hk => exact rfl
  case hI =>
    exact ⟨Nat.zero_le _, rfl⟩
  case hm =>
    refine mo ?_ (sly (sly (sly (sly (sly slz)))))
    repeat (first | exact boz | refine boc ?_)
  case h =>
    rintro ⟨i, ⟨k1, m1, s1, l1, a1⟩⟩ hinv
    try dsimp only at hinv
    refine kp [9, 8, 7, 4, 2] ?_; refine sr ?_; refine o1 (ilt ?_); refine nx ?_; refine runs_seq ?_; refine cdf (fun h2 => ?_) (fun h2 => ?_)
    · (try simp only [nrm, Int.reduceEq, Int.reduceNe, Int.reduceLT, Int.reduceLE] at h2)
      refine runs_exit ?_; refine seq_exit ?_; refine seq_exit ?_; refine inb_exit ?_; refine seq_normal ?_; refine kp [4, 2] ?_; refine sr ?_; refine o1 (ldb ti29 ?_); refine oc (sto ti29 ?_); refine nx ?_; refine runs_ret ?_; refine fin_ret ?_
      refine fin_dl ⟨_, _, rfl, (from_cell rfl rfl ti29 rfl rfl rfl rfl), rfl⟩ rfl ((Trm.mk k1 m1 s1 l1 a1).d) (by exact .refl _) ?_
      rw [← hinv.2, List.take_of_length_le (by omega)]
    (try simp only [nrm, Int.reduceEq, Int.reduceNe, Int.reduceLT, Int.reduceLE] at h2); refine runs_skip ?_; refine seq_normal ?_; refine runs_seq ?_; refine runs_block ?_; refine runs_seq ?_
    obtain ⟨k2, m2, s2, l2, a2, hget⟩ := trm_get (show i < bs.length by omega)
    have hnw := tnew_spec (gl := gl) 3 [.mk k1 m1 s1 l1 a1, .mk k2 m2 s2 l2 a2]
    refine runs_region ?_; refine o1 (ixs us27 te27 ?_ (he := by exact (trm_at hget))); refine o1 (ldc ti29 ?_); refine oc (T := fun _ => False) (alc ti29 ?_ (hl := by simp only [List.length_cons, List.length_nil, Nat.reduceAdd]; rfl))
    refine oc (sto ti29 ?_); refine nx ?_; refine runs_region ?_; refine o1 (ldb ti29 ?_); refine o1 (ldb ti29 ?_)
    refine oc (T := fun _ => False) (op_lit sl27 [.tmp 13, .tmp 14] ti29 rfl rfl rfl rfl rfl rfl rfl (by decide) (by decide) (by decide) (by simp only [List.length_cons, List.length_nil, Nat.reduceAdd]; rfl) rfl ?_)
    refine oc (cv ca33 rfl rfl (hnw) (fir (fid .nil)) ?_); refine oc (sto ti29 ?_); refine ops_nil ?_; refine inb_normal ?_; refine seq_normal ?_; refine kp [9, 8, 7, 4, 2] ?_; refine runs_region ?_; refine o1 (iad ?_); refine o1 (mv ?_)
    refine ops_nil ?_; refine seq_back ?_; refine back_c ((i + 1, ⟨3, 0, .empty, [], [.mk k1 m1 s1 l1 a1, .mk k2 m2 s2 l2 a2]⟩)) rfl ?_ ([0, 1]) ?_
    · exact ⟨⟨by omega, by rw [applyT_take hget, hinv.2]⟩, show bs.length - (i + 1) < bs.length - i by omega⟩
    · refine mo ?_ (sly (sly (sly (sly (sly slz)))))
      repeat (first | exact boz | refine boc ?_)
end Go.Proofs.YtneaancanfpdhaaDoor
namespace Go.Proofs.YtneaancanfpdhaaDoor
open Go Go.Vd Go.RowKit
attribute [local irreducible] Runs OpsR OpR FloatR AnyR AnyO
variable {g gl : Nat → List D}

theorem sizesL_take : ∀ {ls : List Lvl} {i : Nat} {l : Lvl}, ls[i]? = some l → sizes (ls.take (i + 1)) = sizes (ls.take i) + l.size
  | [], i, l, h => by simp at h
  | a :: r, 0, l, h => by simp at h; subst h; simp [sizes]
  | a :: r, i + 1, l, h => by
    have := sizesL_take (ls := r) (i := i) (l := l) (by simpa using h)
    simp only [List.take_succ_cons, sizes, this]; omega
theorem sizesL_take_le : ∀ (ls : List Lvl) (i : Nat), sizes (ls.take i) ≤ sizes ls
  | [], i => by simp
  | a :: r, 0 => by simp [sizes]
  | a :: r, i + 1 => by have := sizesL_take_le r i; simp only [List.take_succ_cons, sizes]; omega
theorem sizesT_take : ∀ {ls : List Trm} {i : Nat} {l : Trm}, ls[i]? = some l → sizesT (ls.take (i + 1)) = sizesT (ls.take i) + l.size
  | [], i, l, h => by simp at h
  | a :: r, 0, l, h => by simp at h; subst h; simp [sizesT]
  | a :: r, i + 1, l, h => by
    have := sizesT_take (ls := r) (i := i) (l := l) (by simpa using h)
    simp only [List.take_succ_cons, sizesT, this]; omega
theorem sizesT_take_le : ∀ (ls : List Trm) (i : Nat), sizesT (ls.take i) ≤ sizesT ls
  | [], i => by simp
  | a :: r, 0 => by simp [sizesT]
  | a :: r, i + 1 => by have := sizesT_take_le r i; simp only [List.take_succ_cons, sizesT]; omega
theorem size_getL : ∀ {l : List Lvl} {i : Nat} {t : Lvl}, l[i]? = some t → t.size ≤ sizes l
  | [], i, t, h => by simp at h
  | a :: r, 0, t, h => by simp at h; subst h; simp [sizes]
  | a :: r, i + 1, t, h => by
    have := size_getL (l := r) (i := i) (t := t) (by simpa using h)
    simp [sizes]; omega

theorem sizes_len' : ∀ l : List Lvl, l.length ≤ sizes l
  | [] => by simp
  | .mk k s args :: r => by have := sizes_len' r; simp [sizes, Lvl.size]; omega
theorem levelParts_spec : ∀ (n : Nat) (k : Int) (s : ByteArray) (args : List Lvl) (most : Int), (Lvl.mk k s args).size ≤ n → (Lvl.mk k s args).size ≤ 1099511627776 → 0 ≤ most → most ≤ 1099511627776 →
    TriD Tryd.prog gl 48 [(Lvl.mk k s args).d, .v (.int .i64 most)] fun d => ∃ r : Int, d = .v (.int .i64 r) ∧ 1 ≤ r ∧ r ≤ (Lvl.mk k s args).size ∧ (r ≤ most → r = (Lvl.mk k s args).size) := by
  intro n
  induction n with
  | zero => intro k s args most h; simp [Lvl.size] at h
  | succ n ih =>
    intro k s args most hsz hb hm0 hm1
    simp only [Lvl.size] at hsz hb
    have hal := lvls_len args
    have hsl := sizes_len' args
    refine triD_of_runs Tryd.func48 rfl Tryd.ntmps48 (rs := [.tmp 4]) rfl rfl rfl ?_
    refine sr ?_; refine oc (T := fun _ => False) (bx ti90 ?_ (hl := by simp only [List.length_cons, List.length_nil, Nat.reduceAdd]; rfl)); refine o1 (asg ?_); refine nx ?_; refine sr ?_; refine o1 (asg ?_); refine nx ?_; refine runs_seq ?_
    refine sr ?_; refine o1 (asg ?_); refine nx ?_; refine runs_block ?_; refine kp [6, 5, 2, 1] ?_
    apply runs_loop_c (ι := Nat × Int) (fun ⟨i, c⟩ => [(6, int i), (5, int c)]) [2, 1] (fun ⟨i, c⟩ => i ≤ args.length ∧ 1 ≤ c ∧ c ≤ 1 + sizes (args.take i) ∧ (c ≤ most → c = 1 + sizes (args.take i))) (fun ⟨i, c⟩ => args.length - i) ((0, 1))
    case hk => exact rfl
    case hI =>
      exact ⟨Nat.zero_le _, by omega, by simp [sizes], fun _ => by simp [sizes]⟩
    case hm =>
      refine mo ?_ (sly (sly (sly (sly slz))))
      repeat (first | exact boz | refine boc ?_)
    case h =>
      rintro ⟨i, c⟩ hinv
      try dsimp only at hinv
      refine kp [6, 5, 2, 1] ?_; refine runs_seq ?_; refine sr ?_; refine o1 (mv ?_); refine o1 (fdb ti90 ?_); refine o1 (ldb ti26 ?_); refine o1 (le1 us26 ?_); refine o1 (ilt ?_); refine o1 (mv ?_)
      apply ops_and (yt := 16) (d := 13) 3 rfl rfl rfl (.none rfl) rfl rfl
      case h1 =>
        intro hb11 hK
        have hc := hb11; (try simp only [nrm, Int.reduceEq, Int.reduceNe, Int.reduceLT, Int.reduceLE] at hc)
        refine gye ?_ (hbw := by exact hb11); refine o1 (mv ?_); refine gye ?_ (hbw := by exact hb11); refine o1 (mv ?_); refine gye ?_ (hbw := by exact hb11); refine o1 (ile ?_); exact hK [_, _, _] rfl rfl
      case h2 =>
        intro hb11 hK; refine gno ?_ (hbw := by exact hb11); refine gno ?_ (hbw := by exact hb11); refine gno ?_ (hbw := by exact hb11); exact hK [_, _, _] rfl
      refine nx ?_; refine cdf (fun h3 => ?_) (fun h3 => ?_)
      · (try simp only [nrm, Int.reduceEq, Int.reduceNe, Int.reduceLT, Int.reduceLE] at h3)
        refine runs_exit ?_; refine seq_exit ?_; refine seq_exit ?_; refine inb_exit ?_; refine seq_normal ?_; refine kp [5] ?_; refine sr ?_
        have hg2 := sizesL_take_le args i
        have hend : c ≤ most → i = args.length := (fun h => by omega)
        refine o1 (mv ?_); refine o1 (asg ?_); refine nx ?_; refine runs_ret ?_; refine fin_ret ?_; refine fin_d1 rfl rfl ?_
        exact ⟨c, rfl, hinv.2.1, by simp only [Lvl.size]; omega, fun h => by rw [hinv.2.2.2 h, hend h, List.take_length]; simp only [Lvl.size]; omega⟩
      (try simp only [nrm, Int.reduceEq, Int.reduceNe, Int.reduceLT, Int.reduceLE] at h3); refine runs_skip ?_; refine seq_normal ?_; refine runs_seq ?_; refine runs_block ?_; refine runs_seq ?_; refine kp [6, 5, 2, 1] ?_
      obtain ⟨k', s', a', hget⟩ := lvl_get (show i < args.length by omega)
      have hg1 := size_getL hget
      have hg2 := sizesL_take_le args i
      refine runs_region ?_; refine o1 (fdb ti90 ?_); refine o1 (ldb ti26 ?_); refine o1 (mv ?_); refine o1 (ixs us26 te26 ?_ (he := by exact (lvl_at hget))); refine o1 (ldc ti90 ?_); refine o1 (mv ?_); refine o1 (mv ?_); refine o1 (isu ?_)
      refine oc (T := fun _ => False) (op_call ca48 rfl rfl rfl rfl (ih k' s' a' (most - c) (by omega) (by omega) (by omega) (by omega)) (fid (fir .nil)) (fun d hd => ?_)); obtain ⟨r, rfl, hr1, hr2, hr3⟩ := hd; refine o1 (asg ?_); refine nx ?_
      refine kp [7, 6, 5, 2, 1] ?_; refine runs_region ?_; refine o1 (mv ?_); refine o1 (mv ?_); refine o1 (iad ?_); refine o1 (asg ?_); refine ops_nil ?_; refine inb_normal ?_; refine seq_normal ?_; refine kp [5, 6, 2, 1] ?_
      refine runs_region ?_; refine o1 (mv ?_); refine o1 (iad ?_); refine o1 (asg ?_); refine ops_nil ?_; refine seq_back ?_; refine back_i ((i + 1, c + r)) rfl ?_ ?_
      · exact ⟨⟨by omega, by omega, by rw [sizesL_take hget]; omega, fun h => by rw [sizesL_take hget]; omega⟩, show args.length - (i + 1) < args.length - i by omega⟩
      · refine mo ?_ (sly (sly (sly (sly slz))))
        repeat (first | exact boz | refine boc ?_)
theorem parts_spec : ∀ (n : Nat) (k m : Int) (s : ByteArray) (ls : List Lvl) (args : List Trm) (most : Int), (Trm.mk k m s ls args).size ≤ n → (Trm.mk k m s ls args).size ≤ 1099511627776 → 0 ≤ most → most ≤ 1099511627776 →
    TriD Tryd.prog gl 20 [(Trm.mk k m s ls args).d, .v (.int .i64 most)] fun d => ∃ r : Int, d = .v (.int .i64 r) ∧ 1 ≤ r ∧ r ≤ (Trm.mk k m s ls args).size ∧ (r ≤ most → r = (Trm.mk k m s ls args).size) := by
  intro n
  induction n with
  | zero => intro k m s ls args most h; simp [Trm.size] at h
  | succ n ih =>
    intro k m s ls args most hsz hb hm0 hm1
    simp only [Trm.size] at hsz hb
    have hal := trms_len args
    have hll := lvls_len ls
    have hsl := sizes_len' ls
    have hsa := sizesT_len args
    refine triD_of_runs Tryd.func20 rfl Tryd.ntmps20 (rs := [.tmp 4]) rfl rfl rfl ?_
    refine sr ?_; refine oc (T := fun _ => False) (bx ti29 ?_ (hl := by simp only [List.length_cons, List.length_nil, Nat.reduceAdd]; rfl)); refine o1 (asg ?_); refine nx ?_; refine sr ?_; refine o1 (asg ?_); refine nx ?_; refine runs_seq ?_
    refine sr ?_; refine o1 (asg ?_); refine nx ?_; refine runs_block ?_; refine kp [6, 5, 2, 1] ?_
    apply runs_loop_c (ι := Nat × Int) (fun ⟨i, c⟩ => [(6, int i), (5, int c)]) [2, 1] (fun ⟨i, c⟩ => i ≤ ls.length ∧ 1 ≤ c ∧ c ≤ 1 + sizes (ls.take i) ∧ (c ≤ most → c = 1 + sizes (ls.take i))) (fun ⟨i, c⟩ => ls.length - i) ((0, 1))
    case hk => exact rfl
    case hI =>
      exact ⟨Nat.zero_le _, by omega, by simp [sizes], fun _ => by simp [sizes]⟩
    case hm =>
      refine mo ?_ (sly (sly (sly (sly slz))))
      repeat (first | exact boz | refine boc ?_)
    case h =>
      rintro ⟨i, c⟩ hinv
      try dsimp only at hinv
      refine kp [6, 5, 2, 1] ?_; refine runs_seq ?_; refine sr ?_; refine o1 (mv ?_); refine o1 (fdb ti29 ?_); refine o1 (ldb ti26 ?_); refine o1 (le1 us26 ?_); refine o1 (ilt ?_); refine o1 (mv ?_)
      apply ops_and (yt := 18) (d := 15) 3 rfl rfl rfl (.none rfl) rfl rfl
      case h1 =>
        intro hb11 hK
        have hc := hb11; (try simp only [nrm, Int.reduceEq, Int.reduceNe, Int.reduceLT, Int.reduceLE] at hc)
        refine gye ?_ (hbw := by exact hb11); refine o1 (mv ?_); refine gye ?_ (hbw := by exact hb11); refine o1 (mv ?_); refine gye ?_ (hbw := by exact hb11); refine o1 (ile ?_); exact hK [_, _, _] rfl rfl
      case h2 =>
        intro hb11 hK; refine gno ?_ (hbw := by exact hb11); refine gno ?_ (hbw := by exact hb11); refine gno ?_ (hbw := by exact hb11); exact hK [_, _, _] rfl
      refine nx ?_; refine cd (fun h3 => ?_) (fun h3 => ?_)
      · (try simp only [nrm, Int.reduceEq, Int.reduceNe, Int.reduceLT, Int.reduceLE] at h3)
        refine runs_skip ?_; refine seq_normal ?_; refine runs_seq ?_; refine runs_block ?_; refine runs_seq ?_; refine kp [6, 5, 2, 1] ?_; obtain ⟨k', s', a', hget⟩ := lvl_get (show i < ls.length by omega)
        have hg1 := size_getL hget
        have hg2 := sizesL_take_le ls i
        refine runs_region ?_; refine o1 (fdb ti29 ?_); refine o1 (ldb ti26 ?_); refine o1 (mv ?_); refine o1 (ixs us26 te26 ?_ (he := by exact (lvl_at hget))); refine o1 (ldc ti90 ?_); refine o1 (mv ?_); refine o1 (mv ?_); refine o1 (isu ?_)
        refine oc (T := fun _ => False) (op_call ca48 rfl rfl rfl rfl (levelParts_spec _ k' s' a' (most - c) (Nat.le_refl _) (by omega) (by omega) (by omega)) (fid (fir .nil)) (fun d hd => ?_)); obtain ⟨r, rfl, hr1, hr2, hr3⟩ := hd
        refine o1 (asg ?_); refine nx ?_; refine kp [7, 6, 5, 2, 1] ?_; refine runs_region ?_; refine o1 (mv ?_); refine o1 (mv ?_); refine o1 (iad ?_); refine o1 (asg ?_); refine ops_nil ?_; refine inb_normal ?_; refine seq_normal ?_
        refine kp [5, 6, 2, 1] ?_; refine runs_region ?_; refine o1 (mv ?_); refine o1 (iad ?_); refine o1 (asg ?_); refine ops_nil ?_; refine seq_back ?_; refine back_i ((i + 1, c + r)) rfl ?_ ?_
        · exact ⟨⟨by omega, by omega, by rw [sizesL_take hget]; omega, fun h => by rw [sizesL_take hget]; omega⟩, show ls.length - (i + 1) < ls.length - i by omega⟩
        · refine mo ?_ (sly (sly (sly (sly slz))))
          repeat (first | exact boz | refine boc ?_)
      (try simp only [nrm, Int.reduceEq, Int.reduceNe, Int.reduceLT, Int.reduceLE] at h3); refine runs_exit ?_; refine seq_exit ?_; refine seq_exit ?_; refine inb_exit ?_; refine seq_normal ?_; refine runs_seq ?_; refine runs_seq ?_
      refine kp [5, 2, 1] ?_
      have hg3 := sizesL_take_le ls i
      have hc2 : c ≤ 1 + sizes ls := (by omega)
      have hc3 : c ≤ most → c = 1 + sizes ls := (fun h => by
        have h4 : i = ls.length := by omega
        rw [hinv.2.2.2 h, h4, List.take_length])
      have hc1 := hinv.2.1
      refine runs_region ?_; refine o1 (asg ?_); refine nx ?_; refine runs_block ?_
      apply runs_loop_c (ι := Nat × Int) (fun ⟨j, e⟩ => [(8, int j), (5, int e)]) [2, 1] (fun ⟨j, e⟩ => j ≤ args.length ∧ 1 ≤ e ∧ e ≤ 1 + sizes ls + sizesT (args.take j) ∧ (e ≤ most → e = 1 + sizes ls + sizesT (args.take j))) (fun ⟨j, e⟩ => args.length - j) ((0, c))
      case hk => exact rfl
      case hI =>
        exact ⟨Nat.zero_le _, hc1, by simp [sizesT]; omega, fun h => by simp [sizesT]; exact hc3 h⟩
      case hm =>
        refine mo ?_ (sly (sly (sly (sly slz))))
        repeat (first | exact boz | refine boc ?_)
      case h =>
        rintro ⟨j, e⟩ hinv
        try dsimp only at hinv
        refine kp [8, 5, 2, 1] ?_; refine runs_seq ?_; refine sr ?_; refine o1 (mv ?_); refine o1 (fdb ti29 ?_); refine o1 (ldb ti27 ?_); refine o1 (le1 us27 ?_); refine o1 (ilt ?_); refine o1 (mv ?_)
        apply ops_and (yt := 42) (d := 39) 3 rfl rfl rfl (.none rfl) rfl rfl
        case h1 =>
          intro hb11 hK
          have hc := hb11; (try simp only [nrm, Int.reduceEq, Int.reduceNe, Int.reduceLT, Int.reduceLE] at hc)
          refine gye ?_ (hbw := by exact hb11); refine o1 (mv ?_); refine gye ?_ (hbw := by exact hb11); refine o1 (mv ?_); refine gye ?_ (hbw := by exact hb11); refine o1 (ile ?_); exact hK [_, _, _] rfl rfl
        case h2 =>
          intro hb11 hK; refine gno ?_ (hbw := by exact hb11); refine gno ?_ (hbw := by exact hb11); refine gno ?_ (hbw := by exact hb11); exact hK [_, _, _] rfl
        refine nx ?_; refine cdf (fun h8 => ?_) (fun h8 => ?_)
        · (try simp only [nrm, Int.reduceEq, Int.reduceNe, Int.reduceLT, Int.reduceLE] at h8)
          refine runs_exit ?_; refine seq_exit ?_; refine seq_exit ?_; refine inb_exit ?_; refine seq_normal ?_; refine kp [5] ?_; refine sr ?_
          have hg2 := sizesT_take_le args j
          have hend : e ≤ most → j = args.length := (fun h => by omega)
          refine o1 (mv ?_); refine o1 (asg ?_); refine nx ?_; refine runs_ret ?_; refine fin_ret ?_; refine fin_d1 rfl rfl ?_
          exact ⟨e, rfl, hinv.2.1, by simp only [Trm.size]; omega, fun h => by rw [hinv.2.2.2 h, hend h, List.take_length]; simp only [Trm.size]; omega⟩
        (try simp only [nrm, Int.reduceEq, Int.reduceNe, Int.reduceLT, Int.reduceLE] at h8); refine runs_skip ?_; refine seq_normal ?_; refine runs_seq ?_; refine runs_block ?_; refine runs_seq ?_; refine kp [8, 5, 2, 1] ?_
        obtain ⟨k2, m2, s2, l2, a2, hget⟩ := trm_get (show j < args.length by omega)
        have hg1 := sizeT_get hget
        have hg2 := sizesT_take_le args j
        refine runs_region ?_; refine o1 (fdb ti29 ?_); refine o1 (ldb ti27 ?_); refine o1 (mv ?_); refine o1 (ixs us27 te27 ?_ (he := by exact (trm_at hget))); refine o1 (ldc ti29 ?_); refine o1 (mv ?_); refine o1 (mv ?_); refine o1 (isu ?_)
        refine oc (T := fun _ => False) (op_call ca20 rfl rfl rfl rfl (ih k2 m2 s2 l2 a2 (most - e) (by omega) (by omega) (by omega) (by omega)) (fid (fir .nil)) (fun d hd => ?_)); obtain ⟨r, rfl, hr1, hr2, hr3⟩ := hd; refine o1 (asg ?_)
        refine nx ?_; refine kp [9, 8, 5, 2, 1] ?_; refine runs_region ?_; refine o1 (mv ?_); refine o1 (mv ?_); refine o1 (iad ?_); refine o1 (asg ?_); refine ops_nil ?_; refine inb_normal ?_; refine seq_normal ?_; refine kp [5, 8, 2, 1] ?_
        refine runs_region ?_; refine o1 (mv ?_); refine o1 (iad ?_); refine o1 (asg ?_); refine ops_nil ?_; refine seq_back ?_; refine back_i ((j + 1, e + r)) rfl ?_ ?_
        · exact ⟨⟨by omega, by omega, by rw [sizesT_take hget]; omega, fun h => by rw [sizesT_take hget]; omega⟩, show args.length - (j + 1) < args.length - j by omega⟩
        · refine mo ?_ (sly (sly (sly (sly slz))))
          repeat (first | exact boz | refine boc ?_)

theorem binds_spec (k m : Int) (s : ByteArray) (ls : List Lvl) (args : List Trm) (i : Int) (hb : args.length ≤ 1099511627776) : TriD Tryd.prog gl 49 [(Trm.mk k m s ls args).d, .v (.int .i64 i)] fun d => ∃ b : Bool, d = .v (.bool b) := by
  have hal := trms_len args
  refine triD_of_runs Tryd.func49 rfl Tryd.ntmps49 (rs := [.tmp 4]) rfl rfl rfl ?_
  refine sr ?_; refine oc (T := fun _ => False) (bx ti29 ?_ (hl := by simp only [List.length_cons, List.length_nil, Nat.reduceAdd]; rfl)); refine o1 (asg ?_); refine nx ?_; refine sr ?_; refine o1 (fdb ti29 ?_); refine o1 (ldb ti3 ?_)
  refine o1 (ige ?_); refine o1 (mv ?_)
  apply ops_and (yt := 14) (d := 8) 6 rfl rfl rfl (.none rfl) rfl rfl
  case h1 =>
    intro hb7 hK
    have hc := hb7; (try simp only [nrm, Int.reduceEq, Int.reduceNe, Int.reduceLT, Int.reduceLE] at hc)
    refine gye ?_ (hbw := by exact hb7); refine o1 (mv ?_); refine gye ?_ (hbw := by exact hb7); refine o1 (fdb ti29 ?_); refine gye ?_ (hbw := by exact hb7); refine o1 (ldb ti27 ?_); refine gye ?_ (hbw := by exact hb7); refine o1 (le1 us27 ?_)
    refine gye ?_ (hbw := by exact hb7); refine o1 (isu ?_); refine gye ?_ (hbw := by exact hb7); refine o1 (ieq ?_); exact hK [_, _, _, _, _, _] rfl rfl
  case h2 =>
    intro hb7 hK; refine gno ?_ (hbw := by exact hb7); refine gno ?_ (hbw := by exact hb7); refine gno ?_ (hbw := by exact hb7); refine gno ?_ (hbw := by exact hb7); refine gno ?_ (hbw := by exact hb7); refine gno ?_ (hbw := by exact hb7)
    exact hK [_, _, _, _, _, _] rfl
  refine o1 (asg ?_); refine nx ?_; refine runs_ret ?_; refine fin_ret ?_; refine fin_d1 rfl rfl ?_; exact ⟨_, rfl⟩
theorem uses_spec : ∀ (n : Nat) (k m : Int) (s : ByteArray) (ls : List Lvl) (args : List Trm) (v : Int), (Trm.mk k m s ls args).size ≤ n → (Trm.mk k m s ls args).size ≤ 1099511627776 → 0 ≤ v → v + (Trm.mk k m s ls args).size ≤ 2199023255552 →
    TriD Tryd.prog gl 21 [(Trm.mk k m s ls args).d, .v (.int .i64 v)] fun d => ∃ r : Int, d = .v (.int .i64 r) ∧ 0 ≤ r ∧ r ≤ (Trm.mk k m s ls args).size := by
  intro n
  induction n with
  | zero => intro k m s ls args v h; simp [Trm.size] at h
  | succ n ih =>
    intro k m s ls args v hsz hb hv0 hv1
    simp only [Trm.size] at hsz hb hv1
    have hal := trms_len args
    have hsa := sizesT_len args
    refine triD_of_runs Tryd.func21 rfl Tryd.ntmps21 (rs := [.tmp 4]) rfl rfl rfl ?_
    refine sr ?_; refine oc (T := fun _ => False) (bx ti29 ?_ (hl := by simp only [List.length_cons, List.length_nil, Nat.reduceAdd]; rfl)); refine o1 (asg ?_); refine nx ?_; refine runs_seq ?_; refine sr ?_; refine o1 (fdb ti29 ?_)
    refine o1 (ldb ti3 ?_); refine o1 (ieq ?_); refine o1 (mv ?_)
    apply ops_and (yt := 16) (d := 12) 4 rfl rfl rfl (.none rfl) rfl rfl
    case h1 =>
      intro hb7 hK
      have hc := hb7; (try simp only [nrm, Int.reduceEq, Int.reduceNe, Int.reduceLT, Int.reduceLE] at hc)
      refine gye ?_ (hbw := by exact hb7); refine o1 (fdb ti29 ?_); refine gye ?_ (hbw := by exact hb7); refine o1 (ldb ti3 ?_); refine gye ?_ (hbw := by exact hb7); refine o1 (mv ?_); refine gye ?_ (hbw := by exact hb7); refine o1 (ieq ?_)
      exact hK [_, _, _, _] rfl rfl
    case h2 =>
      intro hb7 hK; refine gno ?_ (hbw := by exact hb7); refine gno ?_ (hbw := by exact hb7); refine gno ?_ (hbw := by exact hb7); refine gno ?_ (hbw := by exact hb7); exact hK [_, _, _, _] rfl
    refine nx ?_; refine cd (fun h1 => ?_) (fun h1 => ?_)
    · (try simp only [nrm, Int.reduceEq, Int.reduceNe, Int.reduceLT, Int.reduceLE] at h1)
      refine kp [] ?_; refine sr ?_; refine o1 (asg ?_); refine nx ?_; refine runs_ret ?_; refine seq_ret ?_; refine fin_ret ?_; refine fin_d1 rfl rfl ?_; exact ⟨1, rfl, by omega, by simp only [Trm.size]; omega⟩
    (try simp only [nrm, Int.reduceEq, Int.reduceNe, Int.reduceLT, Int.reduceLE] at h1); refine runs_skip ?_; refine seq_normal ?_; refine kp [2, 1] ?_; refine sr ?_; refine o1 (asg ?_); refine nx ?_; refine runs_seq ?_; refine sr ?_
    refine o1 (asg ?_); refine nx ?_; refine runs_block ?_
    apply runs_loop_c (ι := Nat × Int) (fun ⟨i, c⟩ => [(6, int i), (5, int c)]) [2, 1] (fun ⟨i, c⟩ => i ≤ args.length ∧ 0 ≤ c ∧ c ≤ sizesT (args.take i)) (fun ⟨i, c⟩ => args.length - i) ((0, 0))
    case hk => exact rfl
    case hI =>
      exact ⟨Nat.zero_le _, by omega, by simp [sizesT]⟩
    case hm =>
      refine mo ?_ (sly (sly (sly (sly slz))))
      repeat (first | exact boz | refine boc ?_)
    case h =>
      rintro ⟨i, c⟩ hinv
      try dsimp only at hinv
      refine kp [6, 5, 2, 1] ?_; refine runs_seq ?_; refine sr ?_; refine o1 (mv ?_); refine o1 (fdb ti29 ?_); refine o1 (ldb ti27 ?_); refine o1 (le1 us27 ?_); refine o1 (ilt ?_); refine nx ?_; refine cdf (fun h5 => ?_) (fun h5 => ?_)
      · (try simp only [nrm, Int.reduceEq, Int.reduceNe, Int.reduceLT, Int.reduceLE] at h5)
        refine runs_exit ?_; refine seq_exit ?_; refine seq_exit ?_; refine inb_exit ?_; refine seq_normal ?_; refine kp [5] ?_; refine sr ?_
        have hg2 := sizesT_take_le args i
        refine o1 (mv ?_); refine o1 (asg ?_); refine nx ?_; refine runs_ret ?_; refine fin_ret ?_; refine fin_d1 rfl rfl ?_; exact ⟨c, rfl, hinv.2.1, by simp only [Trm.size]; omega⟩
      (try simp only [nrm, Int.reduceEq, Int.reduceNe, Int.reduceLT, Int.reduceLE] at h5); refine runs_skip ?_; refine seq_normal ?_; refine runs_seq ?_; refine runs_block ?_; refine runs_seq ?_; refine kp [6, 5, 2, 1] ?_
      obtain ⟨k2, m2, s2, l2, a2, hget⟩ := trm_get (show i < args.length by omega)
      have hg1 := sizeT_get hget
      have hg2 := sizesT_take_le args i
      refine runs_region ?_; refine o1 (mv ?_); refine o1 (asg ?_); refine nx ?_; refine runs_seq ?_; refine sr ?_; refine o1 (ldb ti29 ?_); refine o1 (mv ?_)
      refine oc (T := fun _ => False) (op_call ca49 rfl rfl rfl rfl (binds_spec k m s ls args i (by omega)) (fid (fir .nil)) (fun d hd => ?_)); obtain ⟨bb, rfl⟩ := hd; refine nx ?_; refine kp [28, 7, 6, 5, 2, 1] ?_
      apply runs_cut_c (ι := Int) (fun w => [(7, int w)]) [6, 5, 2, 1] (fun w => v ≤ w ∧ w ≤ v + 1)
      case hk => exact rfl
      case h1 =>
        refine cdf (fun h8 => ?_) (fun h8 => ?_)
        · (try simp only [nrm, Int.reduceEq, Int.reduceNe, Int.reduceLT, Int.reduceLE] at h8)
          refine runs_skip ?_; refine seq_back ?_; refine back_i (v) rfl ?_ ?_
          · exact ⟨by omega, by omega⟩
          · refine mo ?_ (sly (sly (sly (sly (sly slz)))))
            repeat (first | exact boz | refine boc ?_)
        (try simp only [nrm, Int.reduceEq, Int.reduceNe, Int.reduceLT, Int.reduceLE] at h8); refine runs_region ?_; refine o1 (mv ?_); refine o1 (iad ?_); refine o1 (asg ?_); refine ops_nil ?_; refine seq_back ?_; refine back_i (v + 1) rfl ?_ ?_
        · exact ⟨by omega, by omega⟩
        · refine mo ?_ (sly (sly (sly (sly (sly slz)))))
          repeat (first | exact boz | refine boc ?_)
      case h2 =>
        rintro w hcut
        try dsimp only at hcut
        refine kp [7, 6, 5, 2, 1] ?_; refine sr ?_; refine o1 (fdb ti29 ?_); refine o1 (ldb ti27 ?_); refine o1 (mv ?_); refine o1 (ixs us27 te27 ?_ (he := by exact (trm_at hget))); refine o1 (ldc ti29 ?_); refine o1 (mv ?_)
        refine oc (T := fun _ => False) (op_call ca21 rfl rfl rfl rfl (ih k2 m2 s2 l2 a2 w (by omega) (by omega) (by omega) (by omega)) (fid (fir .nil)) (fun d hd => ?_)); obtain ⟨r, rfl, hr1, hr2⟩ := hd; refine o1 (asg ?_); refine nx ?_
        refine kp [8, 6, 5, 2, 1] ?_; refine runs_region ?_; refine o1 (mv ?_); refine o1 (mv ?_); refine o1 (iad ?_); refine o1 (asg ?_); refine ops_nil ?_; refine inb_normal ?_; refine seq_normal ?_; refine kp [5, 6, 2, 1] ?_
        refine runs_region ?_; refine o1 (mv ?_); refine o1 (iad ?_); refine o1 (asg ?_); refine ops_nil ?_; refine seq_back ?_; refine back_i ((i + 1, c + r)) rfl ?_ ?_
        · exact ⟨⟨by omega, by omega, by rw [sizesT_take hget]; omega⟩, show args.length - (i + 1) < args.length - i by omega⟩
        · refine mo ?_ (sly (sly (sly (sly slz))))
          repeat (first | exact boz | refine boc ?_)
theorem much_spec (k m : Int) (s : ByteArray) (ls : List Lvl) (args : List Trm) (k2 m2 : Int) (s2 : ByteArray) (ls2 : List Lvl) (args2 : List Trm) (hs1 : (Trm.mk k m s ls args).size ≤ 1099511627776) (hs2 : (Trm.mk k2 m2 s2 ls2 args2).size ≤ 1099511627776) :
    TriD Tryd.prog gl 7 [(Trm.mk k m s ls args).d, (Trm.mk k2 m2 s2 ls2 args2).d] fun d => ∃ b : Bool, d = .v (.bool b) ∧ (b = false → (Trm.mk k m s ls args).size ≤ 20000) := by
  refine triD_of_runs Tryd.func7 rfl Tryd.ntmps7 (rs := [.tmp 4]) rfl rfl rfl ?_
  refine sr ?_; refine oc (T := fun _ => False) (bx ti29 ?_ (hl := by simp only [List.length_cons, List.length_nil, Nat.reduceAdd]; rfl))
  refine oc (T := fun _ => False) (bx ti29 ?_ (hl := by simp only [List.length_cons, List.length_nil, Nat.reduceAdd]; rfl)); refine o1 (asg ?_); refine nx ?_; refine sr ?_; refine o1 (ldb ti29 ?_)
  refine oc (T := fun _ => False) (op_call ca20 rfl rfl rfl rfl (parts_spec _ k m s ls args 20000 (Nat.le_refl _) hs1 (by omega) (by omega)) (fid (fir .nil)) (fun d hd => ?_)); obtain ⟨r, rfl, hr1, hr2, hr3⟩ := hd; refine o1 (asg ?_)
  refine nx ?_; refine runs_seq ?_; refine kp [5, 3, 2] ?_; refine sr ?_; refine o1 (mv ?_); refine o1 (igt ?_); refine nx ?_; refine cd (fun h2 => ?_) (fun h2 => ?_)
  · (try simp only [nrm, Int.reduceEq, Int.reduceNe, Int.reduceLT, Int.reduceLE] at h2)
    refine kp [] ?_; refine sr ?_; refine o1 (asg ?_); refine nx ?_; refine runs_ret ?_; refine seq_ret ?_; refine fin_ret ?_; refine fin_d1 rfl rfl ?_; exact ⟨true, rfl, fun h => by cases h⟩
  (try simp only [nrm, Int.reduceEq, Int.reduceNe, Int.reduceLT, Int.reduceLE] at h2); refine runs_skip ?_; refine seq_normal ?_; refine sr ?_; refine o1 (ldb ti29 ?_)
  refine oc (T := fun _ => False) (op_call ca21 rfl rfl rfl rfl (uses_spec _ k m s ls args 0 (Nat.le_refl _) hs1 (by omega) (by omega)) (fid (fir .nil)) (fun d hd => ?_)); obtain ⟨u, rfl, hu1, hu2⟩ := hd; refine o1 (asg ?_); refine nx ?_
  refine kp [6, 5, 3] ?_; refine sr ?_; refine o1 (ldb ti29 ?_); refine oc (T := fun _ => False) (op_call ca20 rfl rfl rfl rfl (parts_spec _ k2 m2 s2 ls2 args2 20000 (Nat.le_refl _) hs2 (by omega) (by omega)) (fid (fir .nil)) (fun d hd => ?_))
  obtain ⟨q, rfl, hq1, hq2, hq3⟩ := hd; refine o1 (asg ?_); refine nx ?_; refine runs_seq ?_
  have hmul : 0 ≤ u * q := Int.mul_nonneg hu1 (by omega)
  have hmul2 : u * q ≤ 20000 * 1099511627776 := Int.mul_le_mul (by omega) (by omega) (by omega) (by omega)
  refine runs_region ?_; refine o1 (mv ?_); refine o1 (mv ?_); refine o1 (mv ?_); refine o1 (fl_mul rfl rfl rfl (by omega) ?_); refine o1 (iad ?_); refine o1 (igt ?_); refine o1 (asg ?_); refine nx ?_; refine runs_ret ?_; refine fin_ret ?_
  refine fin_d1 rfl rfl ?_; exact ⟨_, rfl, fun _ => by omega⟩
end Go.Proofs.YtneaancanfpdhaaDoor
namespace Go.Proofs.YtneaancanfpdhaaDoor
open Go.Shelf
def laysM246_ren : Go.Shelf.Ren := ⟨fun | 246 => 80 | 283 => 88 | 284 => 89 | 285 => 90 | 286 => 91 | 129 => 97 | 317 => 96 | 318 => 98 | 319 => 99 | 320 => 100 | 337 => 103 | 338 => 104 | n => n, fun | 2 => 2 | 3 => 3 | 9 => 9 | 4 => 4 | 171 => 125 | 0 => 0 | 53 => 126 | 37 => 59 | 5 => 5 | 173 => 129 | 212 => 140 | 51 => 141 | 20 => 20 | 213 => 142 | 46 => 133 | 232 => 150 | 233 => 151 | n => n, fun | 17 => 5 | 18 => 7 | 19 => 8 | n => n⟩
theorem laysM246 : Go.Proofs.LaysM.n246 Tryd.prog laysM246_ren := {
  mixed := by kernel_rfl
  f129 := Tryd.func97.trans (congrArg some (by kernel_rfl))
  f246 := Tryd.func80.trans (congrArg some (by kernel_rfl))
  f283 := Tryd.func88.trans (congrArg some (by kernel_rfl))
  f284 := Tryd.func89.trans (congrArg some (by kernel_rfl))
  f285 := Tryd.func90.trans (congrArg some (by kernel_rfl))
  f286 := Tryd.func91.trans (congrArg some (by kernel_rfl))
  f317 := Tryd.func96.trans (congrArg some (by kernel_rfl))
  f318 := Tryd.func98.trans (congrArg some (by kernel_rfl))
  f319 := Tryd.func99.trans (congrArg some (by kernel_rfl))
  f320 := Tryd.func100.trans (congrArg some (by kernel_rfl))
  f337 := Tryd.func103.trans (congrArg some (by kernel_rfl))
  f338 := Tryd.func104.trans (congrArg some (by kernel_rfl))
  t0 := Tryd.underlying0
  a0 := Tryd.isAgg0
  z0 := Tryd.sizeOf0
  v0 := Tryd.zeroValue0
  t2 := Tryd.underlying2
  a2 := Tryd.isAgg2
  z2 := Tryd.sizeOf2
  v2 := Tryd.zeroValue2
  t3 := Tryd.underlying3
  a3 := Tryd.isAgg3
  z3 := Tryd.sizeOf3
  v3 := Tryd.zeroValue3
  t4 := Tryd.underlying4
  a4 := Tryd.isAgg4
  z4 := Tryd.sizeOf4
  v4 := Tryd.zeroValue4
  t5 := Tryd.underlying5
  a5 := Tryd.isAgg5
  z5 := Tryd.sizeOf5
  v5 := Tryd.zeroValue5
  t9 := Tryd.underlying9
  a9 := Tryd.isAgg9
  z9 := Tryd.sizeOf9
  v9 := Tryd.zeroValue9
  t20 := Tryd.underlying20
  a20 := Tryd.isAgg20
  z20 := Tryd.sizeOf20
  v20 := Tryd.zeroValue20
  t37 := Tryd.underlying59
  a37 := Tryd.isAgg59
  z37 := Tryd.sizeOf59
  v37 := Tryd.zeroValue59
  t46 := Tryd.underlying133
  a46 := Tryd.isAgg133
  z46 := Tryd.sizeOf133
  v46 := Tryd.zeroValue133
  t51 := Tryd.underlying141
  a51 := Tryd.isAgg141
  z51 := Tryd.sizeOf141
  v51 := Tryd.zeroValue141
  t53 := Tryd.underlying126
  a53 := Tryd.isAgg126
  z53 := Tryd.sizeOf126
  v53 := Tryd.zeroValue126
  t171 := Tryd.underlying125
  a171 := Tryd.isAgg125
  z171 := Tryd.sizeOf125
  v171 := Tryd.zeroValue125
  t173 := Tryd.underlying129
  a173 := Tryd.isAgg129
  z173 := Tryd.sizeOf129
  v173 := Tryd.zeroValue129
  t212 := Tryd.underlying140
  a212 := Tryd.isAgg140
  z212 := Tryd.sizeOf140
  v212 := Tryd.zeroValue140
  t213 := Tryd.underlying142
  a213 := Tryd.isAgg142
  z213 := Tryd.sizeOf142
  t232 := Tryd.underlying150
  a232 := Tryd.isAgg150
  z232 := Tryd.sizeOf150
  v232 := Tryd.zeroValue150
  t233 := Tryd.underlying151
  a233 := Tryd.isAgg151
  z233 := Tryd.sizeOf151
  v233 := Tryd.zeroValue151
  g17 := by kernel_rfl
  g18 := by kernel_rfl
  g19 := by kernel_rfl
  i0 := by kernel_rfl
  i2 := by kernel_rfl
  i3 := by kernel_rfl
  i4 := by kernel_rfl
  i5 := by kernel_rfl
  i9 := by kernel_rfl
  i20 := by kernel_rfl
  i37 := by kernel_rfl
  i46 := by kernel_rfl
  i51 := by kernel_rfl
  i53 := by kernel_rfl
  i171 := by kernel_rfl
  i173 := by kernel_rfl
  i212 := by kernel_rfl
  i232 := by kernel_rfl
  i233 := by kernel_rfl
  m17 := by kernel_rfl
  m18 := by kernel_rfl
  m19 := by kernel_rfl }
def lays156_ren : Go.Shelf.Ren := ⟨fun | 156 => 65 | 165 => 79 | 166 => 38 | 169 => 23 | 240 => 64 | 241 => 87 | 276 => 78 | 277 => 95 | n => n, fun | 31 => 77 | 9 => 9 | 3 => 3 | 4 => 4 | 0 => 0 | 20 => 20 | 72 => 61 | 76 => 82 | 70 => 58 | 37 => 59 | 75 => 40 | 127 => 98 | 164 => 114 | 5 => 5 | 80 => 63 | n => n, fun | n => n⟩
theorem lays156 : Go.Proofs.Lays.n156 Tryd.prog lays156_ren := {
  mixed := by kernel_rfl
  f156 := Tryd.func65.trans (congrArg some (by kernel_rfl))
  f165 := Tryd.func79.trans (congrArg some (by kernel_rfl))
  f166 := Tryd.func38.trans (congrArg some (by kernel_rfl))
  f169 := Tryd.func23.trans (congrArg some (by kernel_rfl))
  f240 := Tryd.func64.trans (congrArg some (by kernel_rfl))
  f241 := Tryd.func87.trans (congrArg some (by kernel_rfl))
  f276 := Tryd.func78.trans (congrArg some (by kernel_rfl))
  f277 := Tryd.func95.trans (congrArg some (by kernel_rfl))
  t0 := Tryd.underlying0
  a0 := Tryd.isAgg0
  z0 := Tryd.sizeOf0
  v0 := Tryd.zeroValue0
  t3 := Tryd.underlying3
  a3 := Tryd.isAgg3
  z3 := Tryd.sizeOf3
  v3 := Tryd.zeroValue3
  t4 := Tryd.underlying4
  a4 := Tryd.isAgg4
  z4 := Tryd.sizeOf4
  v4 := Tryd.zeroValue4
  t9 := Tryd.underlying9
  a9 := Tryd.isAgg9
  z9 := Tryd.sizeOf9
  v9 := Tryd.zeroValue9
  t20 := Tryd.underlying20
  a20 := Tryd.isAgg20
  z20 := Tryd.sizeOf20
  v20 := Tryd.zeroValue20
  t31 := Tryd.underlying77
  a31 := Tryd.isAgg77
  z31 := Tryd.sizeOf77
  v31 := Tryd.zeroValue77
  t37 := Tryd.underlying59
  a37 := Tryd.isAgg59
  z37 := Tryd.sizeOf59
  v37 := Tryd.zeroValue59
  t70 := Tryd.underlying58
  a70 := Tryd.isAgg58
  z70 := Tryd.sizeOf58
  v70 := Tryd.zeroValue58
  t72 := Tryd.underlying61
  a72 := Tryd.isAgg61
  z72 := Tryd.sizeOf61
  v72 := Tryd.zeroValue61
  t75 := Tryd.underlying40
  a75 := Tryd.isAgg40
  z75 := Tryd.sizeOf40
  v75 := Tryd.zeroValue40
  t76 := Tryd.underlying82
  a76 := Tryd.isAgg82
  z76 := Tryd.sizeOf82
  v76 := Tryd.zeroValue82
  t127 := Tryd.underlying98
  a127 := Tryd.isAgg98
  z127 := Tryd.sizeOf98
  v127 := Tryd.zeroValue98
  t164 := Tryd.underlying114
  a164 := Tryd.isAgg114
  z164 := Tryd.sizeOf114
  v164 := Tryd.zeroValue114 }
theorem Builder_Extra_156 : Builder.Extra Tryd.prog lays156_ren := {
  sizeBuilder := by kernel_rfl
  liesBuilder := by kernel_rfl
  t5 := Tryd.underlying5
  a5 := Tryd.isAgg5
  z5 := Tryd.sizeOf5
  v5 := Tryd.zeroValue5
  infoByte := by kernel_rfl
  cellsByte := by kernel_rfl
  sizeByte := by kernel_rfl
  neB5 := by decide }
def laysC172_ren : Go.Shelf.Ren := ⟨fun | 172 => 57 | 244 => 76 | 245 => 77 | 247 => 82 | 279 => 83 | 280 => 84 | 281 => 85 | 282 => 86 | 287 => 92 | 316 => 93 | 171 => 50 | 205 => 94 | 321 => 101 | 322 => 102 | 243 => 68 | 246 => 80 | 283 => 88 | 284 => 89 | 285 => 90 | 286 => 91 | 129 => 97 | 317 => 96 | 318 => 98 | 319 => 99 | 320 => 100 | 337 => 103 | 338 => 104 | n => n, fun | 9 => 9 | 3 => 3 | 75 => 40 | 76 => 82 | 4 => 4 | 5 => 5 | 167 => 119 | 37 => 59 | 0 => 0 | 85 => 120 | 2 => 2 | 168 => 122 | 53 => 126 | 175 => 131 | 46 => 133 | 210 => 136 | 127 => 98 | 145 => 148 | 143 => 146 | 21 => 21 | 171 => 125 | 173 => 129 | 212 => 140 | 51 => 141 | 20 => 20 | 213 => 142 | 232 => 150 | 233 => 151 | 80 => 63 | n => n, fun | 15 => 3 | 16 => 4 | 17 => 5 | 18 => 7 | 19 => 8 | n => n⟩
theorem laysC172 : Go.Proofs.LaysC.n172 Tryd.prog laysC172_ren := {
  mixed := by kernel_rfl
  f129 := Tryd.func97.trans (congrArg some (by kernel_rfl))
  f171 := Tryd.func50.trans (congrArg some (by kernel_rfl))
  f172 := Tryd.func57.trans (congrArg some (by kernel_rfl))
  f205 := Tryd.func94.trans (congrArg some (by kernel_rfl))
  f243 := Tryd.func68.trans (congrArg some (by kernel_rfl))
  f244 := Tryd.func76.trans (congrArg some (by kernel_rfl))
  f245 := Tryd.func77.trans (congrArg some (by kernel_rfl))
  f246 := Tryd.func80.trans (congrArg some (by kernel_rfl))
  f247 := Tryd.func82.trans (congrArg some (by kernel_rfl))
  f279 := Tryd.func83.trans (congrArg some (by kernel_rfl))
  f280 := Tryd.func84.trans (congrArg some (by kernel_rfl))
  f281 := Tryd.func85.trans (congrArg some (by kernel_rfl))
  f282 := Tryd.func86.trans (congrArg some (by kernel_rfl))
  f283 := Tryd.func88.trans (congrArg some (by kernel_rfl))
  f284 := Tryd.func89.trans (congrArg some (by kernel_rfl))
  f285 := Tryd.func90.trans (congrArg some (by kernel_rfl))
  f286 := Tryd.func91.trans (congrArg some (by kernel_rfl))
  f287 := Tryd.func92.trans (congrArg some (by kernel_rfl))
  f316 := Tryd.func93.trans (congrArg some (by kernel_rfl))
  f317 := Tryd.func96.trans (congrArg some (by kernel_rfl))
  f318 := Tryd.func98.trans (congrArg some (by kernel_rfl))
  f319 := Tryd.func99.trans (congrArg some (by kernel_rfl))
  f320 := Tryd.func100.trans (congrArg some (by kernel_rfl))
  f321 := Tryd.func101.trans (congrArg some (by kernel_rfl))
  f322 := Tryd.func102.trans (congrArg some (by kernel_rfl))
  f337 := Tryd.func103.trans (congrArg some (by kernel_rfl))
  f338 := Tryd.func104.trans (congrArg some (by kernel_rfl))
  t0 := Tryd.underlying0
  a0 := Tryd.isAgg0
  z0 := Tryd.sizeOf0
  v0 := Tryd.zeroValue0
  t2 := Tryd.underlying2
  a2 := Tryd.isAgg2
  z2 := Tryd.sizeOf2
  v2 := Tryd.zeroValue2
  t3 := Tryd.underlying3
  a3 := Tryd.isAgg3
  z3 := Tryd.sizeOf3
  v3 := Tryd.zeroValue3
  t4 := Tryd.underlying4
  a4 := Tryd.isAgg4
  z4 := Tryd.sizeOf4
  v4 := Tryd.zeroValue4
  t5 := Tryd.underlying5
  a5 := Tryd.isAgg5
  z5 := Tryd.sizeOf5
  v5 := Tryd.zeroValue5
  t9 := Tryd.underlying9
  a9 := Tryd.isAgg9
  z9 := Tryd.sizeOf9
  v9 := Tryd.zeroValue9
  t20 := Tryd.underlying20
  a20 := Tryd.isAgg20
  z20 := Tryd.sizeOf20
  v20 := Tryd.zeroValue20
  t21 := Tryd.underlying21
  a21 := Tryd.isAgg21
  z21 := Tryd.sizeOf21
  v21 := Tryd.zeroValue21
  t37 := Tryd.underlying59
  a37 := Tryd.isAgg59
  z37 := Tryd.sizeOf59
  v37 := Tryd.zeroValue59
  t46 := Tryd.underlying133
  a46 := Tryd.isAgg133
  z46 := Tryd.sizeOf133
  v46 := Tryd.zeroValue133
  t51 := Tryd.underlying141
  a51 := Tryd.isAgg141
  z51 := Tryd.sizeOf141
  v51 := Tryd.zeroValue141
  t53 := Tryd.underlying126
  a53 := Tryd.isAgg126
  z53 := Tryd.sizeOf126
  v53 := Tryd.zeroValue126
  t75 := Tryd.underlying40
  a75 := Tryd.isAgg40
  z75 := Tryd.sizeOf40
  v75 := Tryd.zeroValue40
  t76 := Tryd.underlying82
  a76 := Tryd.isAgg82
  z76 := Tryd.sizeOf82
  v76 := Tryd.zeroValue82
  t85 := Tryd.underlying120
  a85 := Tryd.isAgg120
  z85 := Tryd.sizeOf120
  v85 := Tryd.zeroValue120
  t127 := Tryd.underlying98
  a127 := Tryd.isAgg98
  z127 := Tryd.sizeOf98
  v127 := Tryd.zeroValue98
  t143 := Tryd.underlying146
  a143 := Tryd.isAgg146
  z143 := Tryd.sizeOf146
  v143 := Tryd.zeroValue146
  t145 := Tryd.underlying148
  a145 := Tryd.isAgg148
  z145 := Tryd.sizeOf148
  v145 := Tryd.zeroValue148
  t167 := Tryd.underlying119
  a167 := Tryd.isAgg119
  z167 := Tryd.sizeOf119
  v167 := Tryd.zeroValue119
  t168 := Tryd.underlying122
  a168 := Tryd.isAgg122
  z168 := Tryd.sizeOf122
  v168 := Tryd.zeroValue122
  t171 := Tryd.underlying125
  a171 := Tryd.isAgg125
  z171 := Tryd.sizeOf125
  v171 := Tryd.zeroValue125
  t173 := Tryd.underlying129
  a173 := Tryd.isAgg129
  z173 := Tryd.sizeOf129
  v173 := Tryd.zeroValue129
  t175 := Tryd.underlying131
  a175 := Tryd.isAgg131
  z175 := Tryd.sizeOf131
  v175 := Tryd.zeroValue131
  t210 := Tryd.underlying136
  a210 := Tryd.isAgg136
  z210 := Tryd.sizeOf136
  v210 := Tryd.zeroValue136
  t212 := Tryd.underlying140
  a212 := Tryd.isAgg140
  z212 := Tryd.sizeOf140
  v212 := Tryd.zeroValue140
  t213 := Tryd.underlying142
  a213 := Tryd.isAgg142
  z213 := Tryd.sizeOf142
  t232 := Tryd.underlying150
  a232 := Tryd.isAgg150
  z232 := Tryd.sizeOf150
  v232 := Tryd.zeroValue150
  t233 := Tryd.underlying151
  a233 := Tryd.isAgg151
  z233 := Tryd.sizeOf151
  v233 := Tryd.zeroValue151
  g15 := by kernel_rfl
  g16 := by kernel_rfl
  g17 := by kernel_rfl
  g18 := by kernel_rfl
  g19 := by kernel_rfl
  t80 := Tryd.underlying63
  a80 := Tryd.isAgg63
  z80 := Tryd.sizeOf63
  v80 := Tryd.zeroValue63
  i0 := by kernel_rfl
  i2 := by kernel_rfl
  i3 := by kernel_rfl
  i4 := by kernel_rfl
  i5 := by kernel_rfl
  i9 := by kernel_rfl
  i20 := by kernel_rfl
  i21 := by kernel_rfl
  i37 := by kernel_rfl
  i46 := by kernel_rfl
  i51 := by kernel_rfl
  i53 := by kernel_rfl
  i75 := by kernel_rfl
  i76 := by kernel_rfl
  i80 := by kernel_rfl
  i85 := by kernel_rfl
  i127 := by kernel_rfl
  i143 := by kernel_rfl
  i145 := by kernel_rfl
  i167 := by kernel_rfl
  i168 := by kernel_rfl
  i171 := by kernel_rfl
  i173 := by kernel_rfl
  i175 := by kernel_rfl
  i210 := by kernel_rfl
  i212 := by kernel_rfl
  i232 := by kernel_rfl
  i233 := by kernel_rfl
  m15 := by kernel_rfl
  m16 := by kernel_rfl
  m17 := by kernel_rfl
  m18 := by kernel_rfl
  m19 := by kernel_rfl
  c0 := by kernel_rfl
  c2 := by kernel_rfl
  c3 := by kernel_rfl
  c4 := by kernel_rfl
  c5 := by kernel_rfl
  c9 := by kernel_rfl
  c20 := by kernel_rfl
  c21 := by kernel_rfl
  c37 := by kernel_rfl
  c46 := by kernel_rfl
  c51 := by kernel_rfl
  c53 := by kernel_rfl
  c75 := by kernel_rfl
  c76 := by kernel_rfl
  c80 := by kernel_rfl
  c85 := by kernel_rfl
  c127 := by kernel_rfl
  c143 := by kernel_rfl
  c145 := by kernel_rfl
  c167 := by kernel_rfl
  c168 := by kernel_rfl
  c171 := by kernel_rfl
  c173 := by kernel_rfl
  c175 := by kernel_rfl
  c210 := by kernel_rfl
  c212 := by kernel_rfl
  c213 := by kernel_rfl
  c232 := by kernel_rfl
  c233 := by kernel_rfl }
end Go.Proofs.YtneaancanfpdhaaDoor
namespace Go.Proofs.YtneaancanfpdhaaDoor
open Go Go.Vd Go.RowKit Go.Shelf Go.Sort Go.Lib
variable {g gl : Nat → List D}

/-- a library contract that returns a text, over worlds, is one of data -/
theorem triD_of_calls {P : Program} {GL : Nat → List D} {f : FuncId} {args : List D} {s : ByteArray}
    (h : ∀ (m : Mem) (w : World) (vs : List Value), (∀ b o x, m b o = some x → w.cell? ⟨b, o, none⟩ = some x) → (∀ b, DenC m b 0 (GL b)) → SDenL ⟨m, []⟩ (args.map .d) vs → Calls P f ⟨vs⟩ w fun e w' => e = .returned (.string s) ∧ Below w.heap.size w w') :
    TriD P GL f args (· = .v (.string s)) := fun g w vs hs hd => by
  have hgs : g.gs = [] := List.length_eq_zero_iff.1 (hs.len ▸ rfl)
  obtain ⟨m, gs⟩ := g
  simp only at hgs
  subst hgs
  refine (h m w vs (fun b o x e => (hs.sat b o x e).1) hs.glob hd).mono fun e w' he => ?_
  obtain ⟨rfl, hb⟩ := he
  have hkeep : ∀ b o x, m b o = some x → w'.cell? ⟨b, o, none⟩ = some x := fun b o x e => by
    have h1 := (hs.sat b o x e).1
    have hlt : b < w.heap.size := by
      unfold World.cell? at h1
      rcases hh : w.heap[b]? with _ | ob
      · rw [hh] at h1; cases h1
      · exact (Array.getElem?_eq_some_iff.1 hh).1
    unfold World.cell? at h1 ⊢
    rw [hb.block b hlt]; exact h1
  refine ⟨⟨m, []⟩, [], ⟨rfl, by simp, by simp, by simp, fun b o x e => ⟨hkeep b o x e, (hs.sat b o x e).2⟩, hs.glob⟩,
    ⟨⟨hb.os, hb.tape, hb.output, hb.size, fun c hc _ => hb.block c hc⟩, Mle.refl _, fun b o x e1 e2 => ?_, by simp, fun i b hi => ?_⟩, by simp, rfl, .d (.v (.string s)), rfl, rfl, _, rfl, rfl⟩
  · simp only at e1 e2; rw [e1] at e2; cases e2
  · simp at hi

theorem digR_lib (n : Nat) : digR n = ⟨(decDigits n).toArray⟩ := by
  induction n using Nat.strongRecOn with
  | _ n ih =>
    rw [decDigits]
    by_cases h : n < 10
    · rw [digR_one h, dif_pos h, Nat.mod_eq_of_lt h]
    · rw [digR_more h, dif_neg h, ih (n / 10) (by omega)]
      apply ByteArray.ext
      simp
def p10D : List D := pow10Tab.map fun z => .v (.int .u64 z)
theorem p10_cell {m : Mem} {w : World} {b : Nat} (hm : ∀ b o x, m b o = some x → w.cell? ⟨b, o, none⟩ = some x) (h : DenC m b 0 p10D) {i : Nat} (hi : i < 20) : w.cell? ⟨b, i, none⟩ = some (.int .u64 ((10 ^ i : Nat) : Int)) := by
  have hl : pow10Tab[i]? = some ((10 ^ i : Nat) : Int) := by
    have := pow10Tab_at i hi
    rw [List.getD_eq_getElem?_getD] at this
    rw [List.getElem?_eq_getElem (by rw [pow10Tab_length]; exact hi)] at this ⊢
    simpa using this
  obtain ⟨x, h1, h2⟩ := DenC.get h (i := i) (d := .v (.int .u64 ((10 ^ i : Nat) : Int))) (by simp [p10D, hl])
  rw [Nat.zero_add] at h1
  rw [hm _ _ _ h1]
  exact congrArg some h2

section
variable {P : Program} {ρ : Ren}
set_option maxHeartbeats 2000000 in
set_option maxRecDepth 100000 in
theorem nd_calls (L : LaysM.n284 P ρ) (u : Nat) (h1 : 1 ≤ u) (h2 : u < 18446744073709551616) (w : World) (hc : w.cell? ⟨ρ.g 17, l10 (Lib.bitLen u), none⟩ = some (.int .u64 ((10 ^ l10 (Lib.bitLen u) : Nat) : Int))) :
    Calls P (ρ.f 284) #[.int .u64 u] w fun e w' => e = .returned (.int .i64 (nDigits u)) ∧ w' = w := by
  have mixed := L.mixed
  have t53 := L.t53; have a53 := L.a53; have z53 := L.z53; have v53 := L.v53
  have t3 := L.t3; have a3 := L.a3; have z3 := L.z3; have v3 := L.v3
  have t212 := L.t212; have a212 := L.a212; have z212 := L.z212; have v212 := L.v212
  have t0 := L.t0; have a0 := L.a0; have z0 := L.z0; have v0 := L.v0
  have t4 := L.t4; have a4 := L.a4; have z4 := L.z4; have v4 := L.v4
  have e129 : ∀ args w, (callFunc (ρ.f 129) args).run P w = .ok (.enter (ρ.f 129) args) w := enters_of L.f129 (by kernel_rfl) rfl
  have e317 : ∀ args w, (callFunc (ρ.f 317) args).run P w = .ok (.enter (ρ.f 317) args) w := enters_of L.f317 (by kernel_rfl) rfl
  have e318 : ∀ args w, (callFunc (ρ.f 318) args).run P w = .ok (.enter (ρ.f 318) args) w := enters_of L.f318 (by kernel_rfl) rfl
  obtain ⟨hnd, h19⟩ := numDigits_eq u h1 h2
  have hL : Lib.bitLen u ≤ 64 := Lib.bitLen_le u 64 (Nat.le_refl _) h2
  have hto : ((u : Int)).toNat = u := by omega
  generalize hq : l10 (Lib.bitLen u) = q at hnd h19 hc
  generalize hT : 10 ^ q = T at hnd hc
  have h20 : q < 20 := by omega
  have Hnd := Lib.hid hnd
  clear hnd
  go_enter L.f284, Body.n284_ntmps ρ
  go_wp2_with (first
    | (go_at_fn (ρ.f 129); refine (Any.bits_Len64 { L with } _ _ (by omega) (by omega)).mono ?_; rintro e w' ⟨rfl, rfl⟩)
    | (go_at_fn (ρ.f 317); refine (Any.internal_strconv_log10Pow2 { L with } _ (by first | exact hL | (rw [hto]; exact hL)) _).mono ?_; rintro e w' ⟨rfl, rfl⟩)
    | (go_at_fn (ρ.f 318); refine (Any.internal_strconv_bool2_int { L with } _ _).mono ?_; rintro e w' ⟨rfl, rfl⟩))
  all_goals go_ret
  all_goals (
    refine ⟨?_, rfl⟩
    have hnd := Hnd.out
    congr 2
    split at hnd <;> simp_all <;> omega)
set_option maxHeartbeats 6400000 in
set_option maxRecDepth 100000 in
theorem fmt_calls (L : LaysM.n246 P ρ) (u : Nat) (hu : u ≤ 999999) (w : World) (hc : ∀ i, i < 20 → w.cell? ⟨ρ.g 17, i, none⟩ = some (.int .u64 ((10 ^ i : Nat) : Int))) :
    Calls P (ρ.f 246) #[.int .i64 u, .int .i64 10] w fun e w' => e = .returned (.string (digR u)) ∧ Below w.heap.size w w' := by
  by_cases hs : u < 100
  · refine (Any.internal_strconv_FormatInt_10_small { L with } u hs w).mono ?_
    rintro e w' ⟨rfl, rfl⟩
    exact ⟨by rw [digR_lib], Below.refl _ _⟩
  have mixed := L.mixed
  have t2 := L.t2; have a2 := L.a2; have z2 := L.z2; have v2 := L.v2
  have t3 := L.t3; have a3 := L.a3; have z3 := L.z3; have v3 := L.v3
  have t9 := L.t9; have a9 := L.a9; have z9 := L.z9; have v9 := L.v9
  have t4 := L.t4; have a4 := L.a4; have z4 := L.z4; have v4 := L.v4
  have t171 := L.t171; have a171 := L.a171; have z171 := L.z171; have v171 := L.v171
  have t0 := L.t0; have a0 := L.a0; have z0 := L.z0; have v0 := L.v0
  have t53 := L.t53; have a53 := L.a53; have z53 := L.z53; have v53 := L.v53
  have t37 := L.t37; have a37 := L.a37; have z37 := L.z37; have v37 := L.v37
  have t5 := L.t5; have a5 := L.a5; have z5 := L.z5; have v5 := L.v5
  have t173 := L.t173; have a173 := L.a173; have z173 := L.z173; have v173 := L.v173
  have e283 : ∀ args w, (callFunc (ρ.f 283) args).run P w = .ok (.enter (ρ.f 283) args) w := enters_of L.f283 (by kernel_rfl) rfl
  have e284 : ∀ args w, (callFunc (ρ.f 284) args).run P w = .ok (.enter (ρ.f 284) args) w := enters_of L.f284 (by kernel_rfl) rfl
  have e285 : ∀ args w, (callFunc (ρ.f 285) args).run P w = .ok (.enter (ρ.f 285) args) w := enters_of L.f285 (by kernel_rfl) rfl
  have hu1 : 1 ≤ u := by omega
  have hu64 : u < 18446744073709551616 := by omega
  have h19 := (numDigits_eq u hu1 hu64).2
  have hnd20 : nDigits u ≤ 20 := by have := numDigits_eq u hu1 hu64; split at this <;> omega
  have hb3 : nDigits u ≤ 23 := by omega
  have hal : P.arrayLen (ρ.t 171) = 24 := by simp [Program.arrayLen, L.t171]
  have hsl1 : ∀ W, (Instr.sliceAt (ρ.t 171) (.pointer (some ⟨w.heap.size, 0, none⟩)) (some (.int .i64 1)) (some (.int .i64 (1 + (nDigits u : Int)))) none).run P W = .ok (.slice (some ⟨w.heap.size, 1, none⟩) (nDigits u) 23) W := fun W => by
    rw [run_sliceAt_array_lh W (ρ.t 171) ⟨w.heap.size, 0, none⟩ (by simp [Program.arrayLen, Program.elem, L.t171]) .i64 .i64 1 (1 + (nDigits u : Int)) (by omega) (by omega) (by rw [hal]; omega)]
    go_simp
    omega
  have hH0 := holds_zero w (ρ.t 171) (nDigits u) (by omega)
  have hfmt := Any.internal_strconv_formatBase10 { L with } w.heap.size 1 23 u (Array.replicate (nDigits u) 0) (w.alloc (.cells zeros24 (ρ.t 171))) hH0 (by rw [Array.size_replicate]; exact lt_pow_nDigits u) hu64 (by rw [Array.size_replicate]; omega)
  rw [Array.size_replicate] at hfmt
  have hcell : (w.alloc (.cells zeros24 (ρ.t 171))).cell? ⟨ρ.g 17, l10 (Lib.bitLen u), none⟩ = some (.int .u64 ((10 ^ l10 (Lib.bitLen u) : Nat) : Int)) := by
    have h := hc (l10 (Lib.bitLen u)) (by omega)
    have hlt : ρ.g 17 < w.heap.size := by
      unfold World.cell? at h
      rcases hh : w.heap[ρ.g 17]? with _ | ob
      · rw [hh] at h; cases h
      · exact (Array.getElem?_eq_some_iff.1 hh).1
    unfold World.cell? at h ⊢
    rw [Below.heap_alloc w _ _ hlt]; exact h
  have HH0 := Lib.hid hH0
  have Hc := Lib.hid hc
  clear hH0 hal hc
  go_enter L.f246, Body.n246_ntmps ρ
  go_wp2_with (first
    | (go_at_fn (ρ.f 284); refine (nd_calls { L with } u hu1 hu64 _ hcell).mono ?_; rintro e w' ⟨rfl, rfl⟩))
  go_at_fn (ρ.f 285)
  refine hfmt.mono ?_
  rintro e w' ⟨rfl, k, v', dk, rfl, hF⟩
  have hcv : (convert (ρ.t 37) (ρ.t 9) (.slice (some ⟨w.heap.size, 1, none⟩) (nDigits u) 23)).run P ((putRow (fun (b : UInt8) => Value.int .u8 (b.toNat : Int)) (w.alloc (.cells zeros24 (ρ.t 171))) w.heap.size 1 dk).drewN k) = .ok (.string ⟨(decDigits u).toArray⟩) ((putRow (fun (b : UInt8) => Value.int .u8 (b.toNat : Int)) (w.alloc (.cells zeros24 (ρ.t 171))) w.heap.size 1 dk).drewN k) := by
    have h := run_convert_bytes_back (P := P) ((putRow (fun (b : UInt8) => Value.int .u8 (b.toNat : Int)) (w.alloc (.cells zeros24 (ρ.t 171))) w.heap.size 1 dk).drewN k) (ρ.t 37) (ρ.t 9) (ρ.t 5) ⟨w.heap.size, 1, none⟩ 23 (decDigits u) L.t37 L.t5 L.t9 (fun j hj => by
      rw [row_is_numeral hF j hj, Lib.add_plain, World.cell?_drewN]
      exact cell?_putRow (fun (b : UInt8) => Value.int .u8 (b.toNat : Int)) _ w.heap.size 1 _ dk HH0.out (by rw [hF.size, Array.size_replicate]) j (by rw [hF.size]; rw [decDigits_length] at hj; exact hj))
    rw [decDigits_length] at h
    exact h
  go_wp2
  go_ret
  obtain ⟨os, eo⟩ := fin_pos w (.cells zeros24 (ρ.t 171)) dk k
  refine ⟨by rw [digR_lib]; rfl, ?_⟩
  rw [eo]
  exact ⟨rfl, rfl, rfl, (by simp [grow]), fun c hc => (by show (w.heap ++ os)[c]? = w.heap[c]?; rw [Array.getElem?_append_left hc])⟩
end

theorem formatInt_spec (hg : gl (laysM246_ren.g 17) = p10D) (n : Nat) (hn : n ≤ 999999) : TriD Tryd.prog gl 80 [.v (.int .i64 n), .v (.int .i64 10)] (· = .v (.string (digR n))) :=
  triD_of_calls fun m w vs hm hG hd => by
    obtain ⟨x, l, rfl, hx, y, l2, rfl, hy, rfl⟩ := hd
    cases hx
    cases hy
    exact fmt_calls laysM246 n hn w fun i hi => p10_cell hm (hg ▸ hG (laysM246_ren.g 17)) hi
end Go.Proofs.YtneaancanfpdhaaDoor
namespace Go.Proofs.YtneaancanfpdhaaDoor
open Go Go.Vd Go.RowKit Go.Shelf Go.Sort Go.Lib
variable {g gl : Nat → List D}

def joinB (l : List ByteArray) (sep : ByteArray) : ByteArray := ⟨(Lib.join (l.map (·.data.toList)) sep.data.toList).toArray⟩
theorem joinB_nil (sep : ByteArray) : joinB [] sep = .empty := rfl
theorem joinB_one (x sep : ByteArray) : joinB [x] sep = x := by
  unfold joinB; rw [List.map_cons, List.map_nil, Lib.join_one]
theorem toB (l : List UInt8) (m : List UInt8) : (⟨(l ++ m).toArray⟩ : ByteArray) = ⟨l.toArray⟩ ++ ⟨m.toArray⟩ := by
  apply ByteArray.ext; simp
theorem toB_self (s : ByteArray) : (⟨s.data.toList.toArray⟩ : ByteArray) = s := by
  apply ByteArray.ext; simp
def tailB (sep : ByteArray) : List ByteArray → ByteArray
  | [] => .empty
  | x :: r => sep ++ x ++ tailB sep r
theorem tailB_lib (sep : ByteArray) : ∀ l : List ByteArray, (⟨(Lib.joinTail sep.data.toList (l.map (·.data.toList))).toArray⟩ : ByteArray) = tailB sep l
  | [] => rfl
  | x :: r => by
    have h := tailB_lib sep r
    simp only [tailB, ← h]
    unfold Lib.joinTail
    simp only [List.map_cons, List.flatten_cons]
    rw [toB, toB, toB_self, toB_self]
theorem joinB_cons (x : ByteArray) (r : List ByteArray) (sep : ByteArray) : joinB (x :: r) sep = x ++ tailB sep r := by
  unfold joinB
  rw [List.map_cons, Lib.join_cons, toB, toB_self, tailB_lib]
theorem tailB_app (sep : ByteArray) (l m : List ByteArray) : tailB sep (l ++ m) = tailB sep l ++ tailB sep m := by
  induction l with
  | nil => simp [tailB]
  | cons a r ih => simp only [List.cons_append, tailB, ih, ByteArray.append_assoc]

theorem joinLib_spec (l : List ByteArray) (sep : ByteArray) (hn : l.length ≤ 140737488355328) (hb : (joinB l sep).size ≤ 140737488355328) :
    TriD Tryd.prog gl 65 [.sl 1 (strs l), .v (.string sep)] (· = .v (.string (joinB l sep))) :=
  triD_of_calls fun m w vs hm hG hd => by
    obtain ⟨x, l1, rfl, hx, y, l2, rfl, hy, rfl⟩ := hd
    cases hy
    obtain ⟨a, cap, rfl, hcap, hel⟩ := hx
    rw [strs_len] at hcap ⊢
    by_cases hl : l = []
    · subst hl
      refine (Any.strings_Join_none lays156 Builder_Extra_156 a cap sep w).mono ?_
      rintro e w' ⟨rfl, rfl⟩
      exact ⟨rfl, Below.refl _ _⟩
    · obtain ⟨b, off, rfl, hr⟩ := hel (by intro e; apply hl; have := congrArg List.length e; rw [strs_len] at this; exact List.length_eq_zero_iff.1 this)
      have hcells : ∀ (j : Nat) x, l[j]? = some x → w.cell? ⟨b, off + j, none⟩ = some (.string x) := fun j x h => by
        obtain ⟨_, h2⟩ := DenR.get hr (i := j) (e := [.v (.string x)]) (by simp [strs, h])
        obtain ⟨⟨v, h3, h4⟩, _⟩ := h2
        rw [Nat.mul_one] at h3
        cases h4
        exact hm _ _ _ h3
      have hbk : b < w.heap.size := by
        have h0 : l[0]? = some l[0]! := by
          cases l with
          | nil => exact absurd rfl hl
          | cons a r => rfl
        have h := hcells 0 _ h0
        unfold World.cell? at h
        rcases hh : w.heap[b]? with _ | ob
        · rw [hh] at h; cases h
        · exact (Array.getElem?_eq_some_iff.1 hh).1
      have hlen : (Lib.join (l.map (·.data.toList)) sep.data.toList).length = (joinB l sep).size := by
        unfold joinB; simp [ByteArray.size]
      exact Any.strings_Join lays156 Builder_Extra_156 b off cap l sep w hcells hbk hn hcap (by rw [hlen]; exact hb)

/-- no number -/
def badNum (t : ByteArray) : Prop := Lib.atoiAll t.data.toList = Lib.atoiAll []
def ifcD (d : D) : Prop := ∀ (m : Mem) (v : Value), d.Den m v → (v = .nilIface ∨ ∃ te pe, v = .iface te pe)
def numErrD (t : ByteArray) (e : D) : D := .ifc 122 (.cp [.v (.string ⟨#[65, 116, 111, 105]⟩), .v (.string t), e])
theorem atoiBad_spec (t : ByteArray) (e : D) (hg : gl (laysC172_ren.g 15) = [e]) (he : ifcD e) (ht : t.size ≤ 281474976710656) (h : badNum t) :
    TriD Tryd.prog gl 57 [.v (.string t)] (· = .tup [.v (.int .i64 0), numErrD t e]) := fun g w vs hs hd => by
  obtain ⟨x, l1, rfl, hx, rfl⟩ := hd
  cases hx
  have hgs : g.gs = [] := List.length_eq_zero_iff.1 (hs.len ▸ rfl)
  obtain ⟨m, gs⟩ := g
  simp only at hgs
  subst hgs
  have hG := hs.glob (laysC172_ren.g 15)
  rw [hg] at hG
  obtain ⟨⟨ev, h1, h2⟩, _⟩ := hG
  have hev := (hs.sat _ _ _ h1)
  have hltm : ∀ b o x, m b o = some x → b < w.heap.size := fun b o x e => by
    have h := (hs.sat b o x e).1
    unfold World.cell? at h
    rcases hh : w.heap[b]? with _ | ob
    · rw [hh] at h; cases h
    · exact (Array.getElem?_eq_some_iff.1 hh).1
  refine (Any.strconv_Atoi_syntax laysC172 t ht h ev w hev.1 (he _ _ h2)).mono fun e' w' hq => ?_
  obtain ⟨N, rfl, hN, hcell, hb⟩ := hq
  let cs : List Value := [.string ⟨#[65, 116, 111, 105]⟩, .string t, ev]
  let m' : Mem := fun b o => if b = N then cs[o]? else m b o
  have hmm : Mle m m' := fun b o x e => by
    have := hltm b o x e
    show (if b = N then _ else _) = _
    rw [if_neg (by omega)]; exact e
  have hkeep : ∀ b o x, m b o = some x → w'.cell? ⟨b, o, none⟩ = some x := fun b o x e => by
    have h1 := (hs.sat b o x e).1
    unfold World.cell? at h1 ⊢
    rw [hb.block b (hltm b o x e)]; exact h1
  have hsat : ∀ b o x, m' b o = some x → w'.cell? ⟨b, o, none⟩ = some x ∧ x.oneCell' = true := fun b o x e => by
    by_cases hbN : b = N
    · have e2 : cs[o]? = some x := by
        have : m' b o = cs[o]? := if_pos hbN
        rw [this] at e; exact e
      subst hbN
      constructor
      · unfold World.cell?
        rw [hcell]
        simpa [cs] using e2
      · rcases o with _ | _ | _ | o
        · simp [cs] at e2; subst e2; rfl
        · simp [cs] at e2; subst e2; rfl
        · simp [cs] at e2; subst e2; exact hev.2
        · simp [cs] at e2
    · have e2 : m b o = some x := by
        have : m' b o = m b o := if_neg hbN
        rw [this] at e; exact e
      exact ⟨hkeep b o x e2, (hs.sat b o x e2).2⟩
  have hm3 : ∀ o, m' N o = cs[o]? := fun o => if_pos rfl
  refine ⟨⟨m', []⟩, [], ⟨rfl, by simp, by simp, by simp, hsat, fun b => DenC.mono hmm _ (hs.glob b)⟩,
    ⟨⟨hb.os, hb.tape, hb.output, hb.size, fun c hc _ => hb.block c hc⟩, hmm, fun b o x e1 e2 => ?_, by simp, fun i b hi => ?_⟩, by simp, rfl, .d (.tup [.v (.int .i64 0), numErrD t e]), ?_, rfl, _, rfl, rfl⟩
  · by_cases hbN : b = N
    · subst hbN; exact .inr hN
    · have e3 : m' b o = m b o := if_neg hbN
      simp only at e1 e2
      rw [e3, e2] at e1; cases e1
  · simp at hi
  · refine ⟨_, rfl, _, _, rfl, rfl, _, _, rfl, ⟨_, rfl, N, 0, rfl, ?_⟩, rfl⟩
    exact ⟨⟨_, hm3 0, rfl⟩, ⟨_, hm3 1, rfl⟩, ⟨_, hm3 2, D.Den.mono hmm _ h2⟩, trivial⟩
end Go.Proofs.YtneaancanfpdhaaDoor
namespace Go.Proofs.YtneaancanfpdhaaDoor
open Go Go.Vd Go.RowKit
attribute [local irreducible] Runs OpsR OpR FloatR AnyR AnyO
variable {g gl : Nat → List D}

theorem itoaIn_spec (hg : gl (laysM246_ren.g 17) = p10D) (n : Nat) (hn : n ≤ 999999) : TriD Tryd.prog gl 68 [.v (.int .i64 n)] (· = .v (.string (digR n))) := by
  refine triD_of_runs Tryd.func68 rfl Tryd.ntmps68 (rs := [.tmp 2]) rfl rfl rfl ?_
  refine sr ?_; refine o1 (asg ?_); refine nx ?_; refine sr ?_; refine o1 (mv ?_); refine oc (cv ca80 rfl rfl (formatInt_spec hg n hn) (fir (fir .nil)) ?_); refine o1 (asg ?_); refine nx ?_; refine runs_ret ?_; refine fin_ret ?_
  refine fin_d1 rfl rfl ?_
  rfl
theorem itoa_spec (hg : gl (laysM246_ren.g 17) = p10D) (n : Nat) (hn : n ≤ 999999) : TriD Tryd.prog gl 50 [.v (.int .i64 n)] (· = .v (.string (digR n))) := by
  refine triD_of_runs Tryd.func50 rfl Tryd.ntmps50 (rs := [.tmp 2]) rfl rfl rfl ?_
  refine sr ?_; refine o1 (asg ?_); refine nx ?_; refine sr ?_; refine o1 (mv ?_); refine oc (cv ca68 rfl rfl (itoaIn_spec hg n hn) (fir .nil) ?_); refine o1 (asg ?_); refine nx ?_; refine runs_ret ?_; refine fin_ret ?_
  refine fin_d1 rfl rfl ?_
  rfl
theorem wordT_drop {k : Int} (h0 : 0 ≤ k) (h6 : k ≤ 6) : ∃ r, dropO (k.toNat * 1) (glQ g 1) = some (.v (.string (wordT k)) :: r) := by
  have : k = 0 ∨ k = 1 ∨ k = 2 ∨ k = 3 ∨ k = 4 ∨ k = 5 ∨ k = 6 := by omega
  rcases this with rfl | rfl | rfl | rfl | rfl | rfl | rfl <;> exact ⟨_, rfl⟩
theorem hdT_2 {s : ByteArray} : hdT 2 s = ⟨#[40]⟩ ++ wordT 2 ++ (⟨#[32]⟩ ++ s) := by unfold hdT; rw [if_pos rfl]; simp only [ByteArray.append_assoc]
theorem hdT_no {k : Int} {s : ByteArray} (h : ¬ k = 2) : hdT k s = ⟨#[40]⟩ ++ wordT k := by unfold hdT; rw [if_neg h]
theorem twrite_spec (h3 : g 2 = wordsD) (h7 : g (laysM246_ren.g 17) = p10D) : ∀ (n : Nat) (k m : Int) (s : ByteArray) (ls : List Lvl) (args : List Trm) (used : Bool) (b : ByteArray), wtT (.mk k m s ls args) ≤ n → wtT (.mk k m s ls args) ≤ 1099511627776 → okT (.mk k m s ls args) → b.size + (wrT (.mk k m s ls args)).size ≤ 35184372088832 →
    Tri Tryd.prog (glQ g) 22 (bldO used b) [.blk 0 0, .d (Trm.mk k m s ls args).d] fun out ob' => out = .ret (.d (.tup [])) ∧ ob' = bldO true (b ++ wrT (.mk k m s ls args)) := by
  intro n
  induction n with
  | zero => intro k m s ls args used b h; simp [wtT] at h
  | succ n ih =>
    intro k m s ls args used b hn hb ho hsize
    have hwt := wrT_size _ ho
    obtain ⟨h0, h6, hm0, hm, hl, ha⟩ := ho
    have hll := wtLs_len ls
    have hlt := wtTs_len args
    simp only [wtT] at hn hb hwt
    have hle1 := lvls_len ls
    have hle2 := trms_len args
    by_cases hk : k = 0
    · subst hk
      obtain ⟨m, rfl⟩ := Int.eq_ofNat_of_zero_le hm0
      have hd5 := digR_size6 (n := m) (by omega)
      rw [wrT_var] at hsize ⊢
      simp only [Int.toNat_natCast] at hsize ⊢
      have hck := ws_spec (gl := glQ g) used b (⟨#[35]⟩ ++ digR m) (ne_of_size (by simp only [ByteArray.size_append, size_mk, List.size_toArray, List.length_cons, List.length_nil]; omega)) (by omega)
      cases used
      all_goals (
        unfold bldO bldA
        dsimp only [cond_true, cond_false]
        refine triS_of_runs Tryd.func22 rfl Tryd.ntmps22 (rs := []) rfl rfl rfl 2 rfl ?_
        refine sr ?_; refine oc (T := fun _ => False) (bx ti29 ?_ (hl := by simp only [List.length_cons, List.length_nil, Nat.reduceAdd]; rfl)); refine nx ?_; refine runs_seq ?_; refine sr ?_; refine o1 (fdb ti29 ?_); refine o1 (ldb ti3 ?_)
        refine o1 (ieq ?_); refine nx ?_; refine cdf (fun h1 => ?_) (fun h1 => ?_)
        · simp only [nrm, Int.reduceEq, Int.reduceNe, Int.reduceLT, Int.reduceLE] at h1
        (try simp only [nrm, Int.reduceEq, Int.reduceNe, Int.reduceLT, Int.reduceLE] at h1); refine kp [3, 0] ?_; refine sr ?_; refine o1 (mv ?_); refine o1 (fdb ti29 ?_); refine o1 (ldb ti3 ?_)
        refine oc (cv ca50 rfl rfl (itoa_spec (gl := glQ g) h7 m (by omega)) (fir .nil) ?_); refine o1 (f_sadd ?_ (hb := by (try simp only [ByteArray.size_append, size_mk, List.size_toArray, List.length_cons, List.length_nil]); omega))
        refine oc (ck ca38 rfl rfl (hck) [0, 1] rfl (boc (bor .nil)) (fir (fir .nil)) ?_); refine nx ?_; refine runs_ret ?_; refine seq_ret ?_; refine fin_ret ?_
        refine fin_od (l := []) rfl rfl ([0, 1]) (bldO true (b ++ (⟨#[35]⟩ ++ digR m))) rfl rfl rfl ?_ ?_
        · repeat (first | exact boz | refine boc ?_ | refine bor ?_)
        · exact ⟨rfl, rfl⟩
      )
    · rw [wrT_hd hk] at hwt hsize ⊢
      simp only [ByteArray.size_append, size_mk, List.size_toArray, List.length_cons, List.length_nil] at hwt hsize
      have hw5 := wordT_size k
      have hh1 : (⟨#[40]⟩ ++ wordT k : ByteArray).size = 1 + (wordT k).size := by simp only [ByteArray.size_append, size_mk, List.size_toArray, List.length_cons, List.length_nil]
      have hh2 : (⟨#[32]⟩ ++ s : ByteArray).size = 1 + s.size := by simp only [ByteArray.size_append, size_mk, List.size_toArray, List.length_cons, List.length_nil]
      obtain ⟨rr, hat⟩ := wordT_drop (g := g) h0 h6
      have hck := ws_spec (gl := glQ g) used b (⟨#[40]⟩ ++ wordT k) (ne_of_size (by omega)) (by omega)
      cases used
      all_goals (
        unfold bldO bldA
        dsimp only [cond_true, cond_false]
        refine triS_of_runs Tryd.func22 rfl Tryd.ntmps22 (rs := []) rfl rfl rfl 2 rfl ?_
        refine sr ?_; refine oc (T := fun _ => False) (bx ti29 ?_ (hl := by simp only [List.length_cons, List.length_nil, Nat.reduceAdd]; rfl)); refine nx ?_; refine runs_seq ?_; refine sr ?_; refine o1 (fdb ti29 ?_); refine o1 (ldb ti3 ?_)
        refine o1 (ieq ?_); refine nx ?_; refine cd (fun h1 => ?_) (fun h1 => ?_)
        · (try simp only [nrm, Int.reduceEq, Int.reduceNe, Int.reduceLT, Int.reduceLE] at h1); contradiction
        (try simp only [nrm, Int.reduceEq, Int.reduceNe, Int.reduceLT, Int.reduceLE] at h1); refine runs_skip ?_; refine seq_normal ?_; refine kp [3, 0] ?_; refine sr ?_; refine o1 (mv ?_); refine o1 (fdb ti29 ?_); refine o1 (ldb ti3 ?_)
        refine o1 (f_index_arr ua95 ti9 ?_ (hl := by exact (hat))); refine o1 (ldc ti9 ?_); refine o1 (f_sadd ?_ (hb := by (try simp only [ByteArray.size_append, size_mk, List.size_toArray, List.length_cons, List.length_nil]); omega))
        refine oc (ck ca38 rfl rfl (hck) [0, 1] rfl (boc (bor .nil)) (fir (fir .nil)) ?_); refine nx ?_; refine runs_seq ?_; refine kp [3, 0] ?_; refine sr ?_; refine o1 (fdb ti29 ?_); refine o1 (ldb ti3 ?_); refine o1 (ieq ?_); refine nx ?_
        refine kp [26, 3, 0] ?_
        apply runs_cut_o (ι := ByteArray) (fun hd => []) (fun hd => [.cells [.blk 0 0, .own 1 1 (bytesD hd)] 61, .row 5 1, .cells [.d (.v (.int .i64 k)), .d (.v (.int .i64 m)), .d (.v (.string s)), .d (.sl 3 (lvls ls)), .d (.sl 5 (trms args))] 29]) [3, 0] (fun hd => hd = b ++ hdT k s)
        case hk => exact rfl
        case h1 =>
          refine cdf (fun h4 => ?_) (fun h4 => ?_)
          · (try simp only [nrm, Int.reduceEq, Int.reduceNe, Int.reduceLT, Int.reduceLE] at h4)
            refine runs_skip ?_; refine seq_back ?_; refine back_c (b ++ (⟨#[40]⟩ ++ wordT k)) rfl ?_ ([0, 1, 2]) ?_
            · rw [hdT_no h4]
            · refine mo ?_ (sly (sly slz))
              repeat (first | exact boz | refine boc ?_ | refine bor ?_)
          (try simp only [nrm, Int.reduceEq, Int.reduceNe, Int.reduceLT, Int.reduceLE] at h4); refine runs_region ?_; refine o1 (mv ?_); refine o1 (fdb ti29 ?_); refine o1 (ldb ti9 ?_)
          refine o1 (f_sadd ?_ (hb := by (try simp only [ByteArray.size_append, size_mk, List.size_toArray, List.length_cons, List.length_nil]); omega))
          refine oc (ck ca38 rfl rfl (ws_spec true (b ++ (⟨#[40]⟩ ++ wordT k)) (⟨#[32]⟩ ++ s) (ne_of_size (by omega)) (by rw [ByteArray.size_append]; omega)) [0, 1] rfl (boc (bor .nil)) (fir (fir .nil)) ?_); refine ops_nil ?_; refine seq_back ?_
          refine back_c (b ++ (⟨#[40]⟩ ++ wordT k) ++ (⟨#[32]⟩ ++ s)) rfl ?_ ([0, 1, 2]) ?_
          · rw [h4, hdT_2]; simp only [ByteArray.append_assoc]
          · refine mo ?_ (sly (sly slz))
            repeat (first | exact boz | refine boc ?_ | refine bor ?_)
        case h2 =>
          rintro hd hcut
          try dsimp only at hcut
          refine kp [3, 0] ?_; refine runs_seq ?_; refine runs_seq ?_
          subst hcut
          refine runs_region ?_; refine o1 (fdb ti29 ?_); refine o1 (ldb ti26 ?_); refine o1 (le1 us26 ?_); refine o1 (mv ?_); refine nx ?_; refine runs_block ?_; refine kp [35, 34, 33, 3, 0] ?_
          rw [show b ++ hdT k s = b ++ hdT k s ++ wrL (ls.take 0) by simp [wrL]]
          apply runs_loop_o (ι := Nat) (fun i => [(35, int i)]) (fun i => [.cells [.blk 0 0, .own 1 1 (bytesD (b ++ hdT k s ++ wrL (ls.take i)))] 61, .row 5 1, .cells [.d (.v (.int .i64 k)), .d (.v (.int .i64 m)), .d (.v (.string s)), .d (.sl 3 (lvls ls)), .d (.sl 5 (trms args))] 29]) [34, 33, 3, 0] (fun i => i ≤ ls.length) (fun i => ls.length - i) (0) ([0, 1, 2])
          case hk => exact rfl
          case hI =>
            exact Nat.zero_le _
          case hm =>
            refine mo ?_ (sly (sly (sly (sly (sly slz)))))
            repeat (first | exact boz | refine boc ?_ | refine bor ?_)
          case h =>
            rintro i hinv
            try dsimp only at hinv
            refine kp [35, 34, 33, 3, 0] ?_; refine sr ?_; refine o1 (ilt ?_); refine nx ?_; refine runs_seq ?_; refine cd (fun h7 => ?_) (fun h7 => ?_)
            · (try simp only [nrm, Int.reduceEq, Int.reduceNe, Int.reduceLT, Int.reduceLE] at h7)
              refine runs_skip ?_; refine seq_normal ?_; refine runs_seq ?_; refine runs_block ?_; refine runs_seq ?_
              have hget : ls[i]? = some ls[i] := by simp
              obtain ⟨x, hx, hfx⟩ := okLs_get hl hget
              rw [hx] at hget
              have hwx := wtL_get hget
              rw [wtL_lev] at hwx
              have hpx := x.print_size
              have hsx := x.size_le_weight
              rw [← x.size_toLvl] at hsx
              have hwl := wr_lev x
              obtain ⟨k1, s1, a1, hX⟩ := Lvl.case x.toLvl
              rw [hX] at hget hfx hwl hsx
              have hst := wrL_take_le ls (i + 1)
              have hnext : b ++ hdT k s ++ wrL (ls.take i) ++ (⟨#[32]⟩ ++ wr (.mk k1 s1 a1)) = b ++ hdT k s ++ wrL (ls.take (i + 1)) := (by rw [wrL_take hget]; simp only [ByteArray.append_assoc])
              rw [wrL_take hget, hwl] at hst
              simp only [ByteArray.size_append, size_mk, List.size_toArray, List.length_cons, List.length_nil] at hst
              have hh3 : (⟨#[32]⟩ ++ wr (.mk k1 s1 a1) : ByteArray).size = 1 + x.print.size := (by rw [hwl]; simp only [ByteArray.size_append, size_mk, List.size_toArray, List.length_cons, List.length_nil])
              have hh4 : (wr (.mk k1 s1 a1)).size = x.print.size := (by rw [hwl])
              refine runs_region ?_; refine o1 (ixs us26 te26 ?_ (he := by exact (lvl_at hget))); refine o1 (ldc ti90 ?_); refine oc (T := fun _ => False) (alc ti90 ?_ (hl := by simp only [List.length_cons, List.length_nil, Nat.reduceAdd]; rfl))
              refine oc (sto ti90 ?_); refine nx ?_; refine runs_region ?_; refine o1 (mv ?_); refine o1 (ldb ti90 ?_); refine oc (cv ca51 rfl rfl (pprint_spec (gl := glQ g) h3 k1 s1 a1 (by omega) hfx (by omega)) (fid .nil) ?_)
              refine o1 (f_sadd ?_ (hb := by (try simp only [ByteArray.size_append, size_mk, List.size_toArray, List.length_cons, List.length_nil]); omega))
              refine oc (ck ca38 rfl rfl (ws_spec true (b ++ hdT k s ++ wrL (ls.take i)) (⟨#[32]⟩ ++ wr (.mk k1 s1 a1)) (ne_of_size (by omega)) (by simp only [ByteArray.size_append] at hh3 hsize ⊢; omega)) [0, 1] rfl (boc (bor .nil)) (fir (fir .nil)) ?_)
              refine ops_nil ?_; refine inb_normal ?_; refine seq_normal ?_; refine kp [35, 34, 33, 3, 0] ?_; refine runs_region ?_; refine o1 (iad ?_); refine o1 (mv ?_); refine ops_nil ?_; refine seq_back ?_
              rw [hnext]
              refine back_c (i + 1) rfl ?_ ([0, 1, 2]) ?_
              · exact ⟨by omega, by omega⟩
              · refine mo ?_ (sly (sly (sly (sly (sly slz)))))
                repeat (first | exact boz | refine boc ?_ | refine bor ?_)
            (try simp only [nrm, Int.reduceEq, Int.reduceNe, Int.reduceLT, Int.reduceLE] at h7); refine runs_exit ?_; refine seq_exit ?_; refine seq_exit ?_; refine inb_exit ?_; refine seq_normal ?_; refine runs_seq ?_; refine runs_seq ?_
            refine kp [3, 0] ?_; obtain rfl : i = ls.length := (by omega)
            rw [List.take_length]
            refine runs_region ?_; refine o1 (fdb ti29 ?_); refine o1 (ldb ti27 ?_); refine o1 (le1 us27 ?_); refine o1 (mv ?_); refine nx ?_; refine runs_block ?_; refine kp [48, 47, 46, 0] ?_
            rw [show b ++ hdT k s ++ wrL ls = b ++ hdT k s ++ wrL ls ++ wrTs (args.take 0) by simp [wrTs]]
            apply runs_loop_o (ι := Nat) (fun j => [(48, int j)]) (fun j => [.cells [.blk 0 0, .own 1 1 (bytesD (b ++ hdT k s ++ wrL ls ++ wrTs (args.take j)))] 61, .row 5 1, .cells [.d (.v (.int .i64 k)), .d (.v (.int .i64 m)), .d (.v (.string s)), .d (.sl 3 (lvls ls)), .d (.sl 5 (trms args))] 29]) [47, 46, 0] (fun j => j ≤ args.length) (fun j => args.length - j) (0) ([0, 1, 2])
            case hk => exact rfl
            case hI =>
              exact Nat.zero_le _
            case hm =>
              refine mo ?_ (sly (sly (sly (sly slz))))
              repeat (first | exact boz | refine boc ?_ | refine bor ?_)
            case h =>
              rintro j hinv
              try dsimp only at hinv
              refine kp [48, 47, 46, 0] ?_; refine sr ?_; refine o1 (ilt ?_); refine nx ?_; refine runs_seq ?_; refine cdf (fun h12 => ?_) (fun h12 => ?_)
              · (try simp only [nrm, Int.reduceEq, Int.reduceNe, Int.reduceLT, Int.reduceLE] at h12)
                refine runs_exit ?_; refine seq_exit ?_; refine seq_exit ?_; refine inb_exit ?_; refine seq_normal ?_; refine kp [0] ?_; obtain rfl : j = args.length := (by omega)
                rw [List.take_length]
                refine runs_region ?_; refine o1 (mv ?_); refine oc (ck ca52 rfl rfl (wb_spec true (b ++ hdT k s ++ wrL ls ++ wrTs args) 41 (by simp only [ByteArray.size_append]; omega)) [0, 1] rfl (boc (bor .nil)) (fir (fir .nil)) ?_); refine ops_nil ?_
                refine fin_normal ?_; refine fin_od (l := []) rfl rfl ([0, 1]) (bldO true (b ++ hdT k s ++ wrL ls ++ wrTs args ++ ⟨#[41]⟩)) rfl rfl rfl ?_ ?_
                · repeat (first | exact boz | refine boc ?_ | refine bor ?_)
                · refine ⟨rfl, ?_⟩; simp only [ByteArray.append_assoc]; rfl
              (try simp only [nrm, Int.reduceEq, Int.reduceNe, Int.reduceLT, Int.reduceLE] at h12); refine runs_skip ?_; refine seq_normal ?_; refine runs_seq ?_; refine runs_block ?_; refine runs_seq ?_
              obtain ⟨k2, n2, s2, l2, a2, hget⟩ := trm_get (show j < args.length by omega)
              have hwx := wtT_get hget
              have hox := okT_get ha hget
              have hst := wrTs_take_le args (j + 1)
              have hnext : b ++ hdT k s ++ wrL ls ++ wrTs (args.take j) ++ ⟨#[32]⟩ ++ wrT (.mk k2 n2 s2 l2 a2) = b ++ hdT k s ++ wrL ls ++ wrTs (args.take (j + 1)) := (by rw [wrTs_take hget]; simp only [ByteArray.append_assoc])
              rw [wrTs_take hget] at hst
              simp only [ByteArray.size_append, size_mk, List.size_toArray, List.length_cons, List.length_nil] at hst
              refine runs_region ?_; refine o1 (ixs us27 te27 ?_ (he := by exact (trm_at hget))); refine o1 (ldc ti29 ?_); refine oc (T := fun _ => False) (alc ti29 ?_ (hl := by simp only [List.length_cons, List.length_nil, Nat.reduceAdd]; rfl))
              refine oc (sto ti29 ?_); refine nx ?_; refine sr ?_; refine o1 (mv ?_)
              refine oc (ck ca52 rfl rfl (wb_spec true (b ++ hdT k s ++ wrL ls ++ wrTs (args.take j)) 32 (by simp only [ByteArray.size_append]; omega)) [0, 1] rfl (boc (bor .nil)) (fir (fir .nil)) ?_); refine nx ?_; refine kp [7, 48, 47, 46, 0] ?_
              refine runs_region ?_; refine o1 (mv ?_); refine o1 (ldb ti29 ?_)
              refine oc (ck ca22 rfl rfl (ih k2 n2 s2 l2 a2 true (b ++ hdT k s ++ wrL ls ++ wrTs (args.take j) ++ ⟨#[32]⟩) (by omega) (by omega) hox (by simp only [ByteArray.size_append, size_mk, List.size_toArray, List.length_cons, List.length_nil]; omega)) [0, 1] rfl (boc (bor .nil)) (fir (fid .nil)) ?_)
              refine ops_nil ?_; refine inb_normal ?_; refine seq_normal ?_; refine kp [48, 47, 46, 0] ?_; refine runs_region ?_; refine o1 (iad ?_); refine o1 (mv ?_); refine ops_nil ?_; refine seq_back ?_
              rw [hnext]
              refine back_c (j + 1) rfl ?_ ([0, 1, 2]) ?_
              · exact ⟨by omega, by omega⟩
              · refine mo ?_ (sly (sly (sly (sly slz))))
                repeat (first | exact boz | refine boc ?_ | refine bor ?_)
      )

theorem tprint_spec (h3 : g 2 = wordsD) (h7 : g (laysM246_ren.g 17) = p10D) (k m : Int) (s : ByteArray) (ls : List Lvl) (args : List Trm) (hb : wtT (.mk k m s ls args) ≤ 1099511627776) (ho : okT (.mk k m s ls args)) :
    TriD Tryd.prog (glQ g) 9 [(Trm.mk k m s ls args).d] (· = .v (.string (wrT (.mk k m s ls args)))) := by
  have hsz := wrT_size _ ho
  have hwe := twrite_spec h3 h7 _ k m s ls args false .empty (Nat.le_refl _) hb ho (by have : ByteArray.empty.size = 0 := rfl; omega)
  rw [ByteArray.empty_append] at hwe
  refine triD_of_runs Tryd.func9 rfl Tryd.ntmps9 (rs := [.tmp 2]) rfl rfl rfl ?_
  refine sr ?_; refine oc (T := fun _ => False) (bx ti29 ?_ (hl := by simp only [List.length_cons, List.length_nil, Nat.reduceAdd]; rfl)); refine o1 (asg ?_); refine nx ?_; refine sr ?_
  refine oc (T := fun _ => False) (alc ti61 ?_ (hl := by simp only [List.length_cons, List.length_nil, Nat.reduceAdd]; rfl)); refine nx ?_; refine runs_seq ?_; refine runs_nilrow 5 1 rfl ?_; refine runs_region ?_; refine o1 (ldb ti29 ?_)
  refine oc (ck ca22 rfl rfl (hwe) [1, 2] rfl (.cons rfl (.cells rfl (by repeat (first | exact fiz | refine fir ?_ | refine .cons (.nil rfl) ?_))) (bon .nil)) (fir (fid .nil)) ?_); refine nx ?_; refine kp [3] ?_; refine sr ?_
  refine oc (ck ca23 rfl rfl (bstr_spec (wrT (.mk k m s ls args)) (wrT_ne _)) [1, 2] rfl (boc (bor .nil)) (fir .nil) ?_); refine o1 (asg ?_); refine nx ?_; refine runs_ret ?_; refine fin_ret ?_; refine fin_d1 rfl rfl ?_
  rfl
end Go.Proofs.YtneaancanfpdhaaDoor
namespace Go.Proofs.YtneaancanfpdhaaDoor
open Go Go.Vd Go.RowKit
attribute [local irreducible] Runs OpsR OpR FloatR AnyR AnyO
variable {gl : Nat → List D}

theorem or8_letter : ∀ c : Nat, c < 256 → ((97 ≤ or8 c 32 ∧ or8 c 32 ≤ 122) ↔ ((97 ≤ c ∧ c ≤ 122) ∨ (65 ≤ c ∧ c ≤ 90))) := by decide +kernel

attribute [local irreducible] or8
theorem digit_spec (c : Int) : TriD Tryd.prog gl 74 [.v (.int .u8 c)] (· = .v (.bool (digB c))) := by
  refine triD_of_runs Tryd.func74 rfl Tryd.ntmps74 (rs := [.tmp 2]) rfl rfl rfl ?_
  refine sr ?_; refine o1 (asg ?_); refine nx ?_; refine sr ?_; refine o1 (mv ?_); refine o1 (ige ?_); refine o1 (mv ?_)
  apply ops_and (yt := 7) (d := 5) 2 rfl rfl rfl (.none rfl) rfl rfl
  case h1 =>
    intro hb5 hK
    have hc := hb5; (try simp only [nrm, Int.reduceEq, Int.reduceNe, Int.reduceLT, Int.reduceLE] at hc)
    refine gye ?_ (hbw := by exact hb5); refine o1 (mv ?_); refine gye ?_ (hbw := by exact hb5); refine o1 (ile ?_); exact hK [_, _] rfl rfl
  case h2 =>
    intro hb5 hK; refine gno ?_ (hbw := by exact hb5); refine gno ?_ (hbw := by exact hb5); exact hK [_, _] rfl
  refine o1 (asg ?_); refine nx ?_; refine runs_ret ?_; refine fin_ret ?_; refine fin_d1 rfl rfl ?_; exact congrArg (fun b => D.v (.bool b)) (by rw [Bool.eq_iff_iff]; simp [digB])

theorem letter_spec (c : Int) (h0 : 0 ≤ c) (h1 : c < 256) : TriD Tryd.prog gl 72 [.v (.int .u8 c)] (· = .v (.bool (nameB c true))) := by
  obtain ⟨k, rfl⟩ : ∃ k : Nat, c = k := ⟨c.toNat, by omega⟩
  have hl := or8_letter k (by omega)
  refine triD_of_runs Tryd.func72 rfl Tryd.ntmps72 (rs := [.tmp 2]) rfl rfl rfl ?_
  refine sr ?_; refine o1 (asg ?_); refine nx ?_; refine sr ?_; refine o1 (mv ?_); refine o1 (f_or8 ?_); refine o1 (ige ?_); refine o1 (mv ?_)
  apply ops_and (yt := 9) (d := 6) 3 rfl rfl rfl (.none rfl) rfl rfl
  case h1 =>
    intro hb7 hK
    have hc := hb7; (try simp only [nrm, Int.reduceEq, Int.reduceNe, Int.reduceLT, Int.reduceLE] at hc)
    refine gye ?_ (hbw := by exact hb7); refine o1 (mv ?_); refine gye ?_ (hbw := by exact hb7); refine o1 (f_or8 ?_); refine gye ?_ (hbw := by exact hb7); refine o1 (ile ?_); exact hK [_, _, _] rfl rfl
  case h2 =>
    intro hb7 hK; refine gno ?_ (hbw := by exact hb7); refine gno ?_ (hbw := by exact hb7); refine gno ?_ (hbw := by exact hb7); exact hK [_, _, _] rfl
  refine o1 (mv ?_)
  apply ops_or (yt := 13) (d := 11) 2 rfl rfl rfl (.none rfl) rfl rfl
  case h1 =>
    intro hb16 hK
    have hc := hb16; (try simp only [nrm, Int.reduceEq, Int.reduceNe, Int.reduceLT, Int.reduceLE] at hc)
    refine gye ?_ (hbw := by exact hb16); refine o1 (mv ?_); refine gye ?_ (hbw := by exact hb16); refine o1 (ieq ?_); exact hK [_, _] rfl rfl
  case h2 =>
    intro hb16 hK; refine gno ?_ (hbw := by exact hb16); refine gno ?_ (hbw := by exact hb16); exact hK [_, _] rfl
  refine o1 (asg ?_); refine nx ?_; refine runs_ret ?_; refine fin_ret ?_; refine fin_d1 rfl rfl ?_; exact congrArg (fun b => D.v (.bool b)) (by rw [Bool.eq_iff_iff]; simp [nameB]; omega)

theorem ws1_spec (c : Int) : TriD Tryd.prog gl 71 [.v (.int .u8 c)] (· = .v (.bool (wsB c))) := by
  refine triD_of_runs Tryd.func71 rfl Tryd.ntmps71 (rs := [.tmp 2]) rfl rfl rfl ?_
  refine sr ?_; refine o1 (asg ?_); refine nx ?_; refine sr ?_; refine o1 (mv ?_); refine o1 (ieq ?_); refine o1 (mv ?_)
  apply ops_or (yt := 7) (d := 5) 2 rfl rfl rfl (.none rfl) rfl rfl
  case h1 =>
    intro hb4 hK
    have hc := hb4; (try simp only [nrm, Int.reduceEq, Int.reduceNe, Int.reduceLT, Int.reduceLE] at hc)
    refine gye ?_ (hbw := by exact hb4); refine o1 (mv ?_); refine gye ?_ (hbw := by exact hb4); refine o1 (ieq ?_); exact hK [_, _] rfl rfl
  case h2 =>
    intro hb4 hK; refine gno ?_ (hbw := by exact hb4); refine gno ?_ (hbw := by exact hb4); exact hK [_, _] rfl
  refine o1 (mv ?_)
  apply ops_or (yt := 11) (d := 9) 2 rfl rfl rfl (.none rfl) rfl rfl
  case h1 =>
    intro hb12 hK
    have hc := hb12; (try simp only [nrm, Int.reduceEq, Int.reduceNe, Int.reduceLT, Int.reduceLE] at hc)
    refine gye ?_ (hbw := by exact hb12); refine o1 (mv ?_); refine gye ?_ (hbw := by exact hb12); refine o1 (ieq ?_); exact hK [_, _] rfl rfl
  case h2 =>
    intro hb12 hK; refine gno ?_ (hbw := by exact hb12); refine gno ?_ (hbw := by exact hb12); exact hK [_, _] rfl
  refine o1 (asg ?_); refine nx ?_; refine runs_ret ?_; refine fin_ret ?_; refine fin_d1 rfl rfl ?_; exact congrArg (fun b => D.v (.bool b)) (by rw [Bool.eq_iff_iff]; simp [wsB, or_assoc])

theorem nb2_spec (c : Int) (h0 : 0 ≤ c) (h1 : c < 256) : TriD Tryd.prog gl 73 [.v (.int .u8 c)] (· = .v (.bool (nameB c false))) := by
  refine triD_of_runs Tryd.func73 rfl Tryd.ntmps73 (rs := [.tmp 2]) rfl rfl rfl ?_
  refine sr ?_; refine o1 (asg ?_); refine nx ?_; refine sr ?_; refine o1 (mv ?_); refine oc (cv ca72 rfl rfl (letter_spec c h0 h1) (fir .nil) ?_); refine o1 (mv ?_)
  apply ops_or (yt := 7) (d := 5) 2 rfl rfl rfl (.none rfl) rfl rfl
  case h1 =>
    intro hb4 hK
    have hc := hb4; (try simp only [nrm, Int.reduceEq, Int.reduceNe, Int.reduceLT, Int.reduceLE] at hc)
    refine gye ?_ (hbw := by exact hb4); refine o1 (mv ?_); refine gye ?_ (hbw := by exact hb4); refine oc (cv ca74 rfl rfl (digit_spec c) (fir .nil) ?_); exact hK [_, _] rfl rfl
  case h2 =>
    intro hb4 hK; refine gno ?_ (hbw := by exact hb4); refine gno ?_ (hbw := by exact hb4); exact hK [_, _] rfl
  refine o1 (mv ?_)
  apply ops_or (yt := 11) (d := 9) 2 rfl rfl rfl (.none rfl) rfl rfl
  case h1 =>
    intro hb12 hK
    have hc := hb12; (try simp only [nrm, Int.reduceEq, Int.reduceNe, Int.reduceLT, Int.reduceLE] at hc)
    refine gye ?_ (hbw := by exact hb12); refine o1 (mv ?_); refine gye ?_ (hbw := by exact hb12); refine o1 (ieq ?_); exact hK [_, _] rfl rfl
  case h2 =>
    intro hb12 hK; refine gno ?_ (hbw := by exact hb12); refine gno ?_ (hbw := by exact hb12); exact hK [_, _] rfl
  refine o1 (mv ?_)
  apply ops_or (yt := 15) (d := 13) 2 rfl rfl rfl (.none rfl) rfl rfl
  case h1 =>
    intro hb20 hK
    have hc := hb20; (try simp only [nrm, Int.reduceEq, Int.reduceNe, Int.reduceLT, Int.reduceLE] at hc)
    refine gye ?_ (hbw := by exact hb20); refine o1 (mv ?_); refine gye ?_ (hbw := by exact hb20); refine o1 (ieq ?_); exact hK [_, _] rfl rfl
  case h2 =>
    intro hb20 hK; refine gno ?_ (hbw := by exact hb20); refine gno ?_ (hbw := by exact hb20); exact hK [_, _] rfl
  refine o1 (asg ?_); refine nx ?_; refine runs_ret ?_; refine fin_ret ?_; refine fin_d1 rfl rfl ?_; exact congrArg (fun b => D.v (.bool b)) (by rw [Bool.eq_iff_iff]; simp [nameB, digB]; omega)

/-- a scanner -/
def scO (s : ByteArray) (at' : Nat) (tok : ByteArray) (pos : Nat) : Ob := .cells [.d (.v (.string s)), .d (.v (.int .i64 at')), .d (.v (.string tok)), .d (.v (.int .i64 pos))] 76

theorem byteAt_bound (s : ByteArray) (i : Nat) : 0 ≤ byteAt s i ∧ byteAt s i < 256 := by
  unfold byteAt
  have := UInt8.toNat_lt (s.data.getD i 0)
  omega

theorem run_spec (f : FuncId) (ofv : SV) (hof : ofv = .fn (.func f) [] [] ∨ ofv = .d (.v (.func (.func f) #[] #[]))) (p : Int → Bool) (hcal : callable Tryd.prog f = true) (hp : ∀ c, 0 ≤ c → c < 256 → TriD Tryd.prog gl f [.v (.int .u8 c)] (· = .v (.bool (p c)))) (s : ByteArray) (hs : s.size ≤ 1099511627776) (a b : Nat) (tok : ByteArray) (pos : Nat) (ha : a ≤ s.size) :
    Tri Tryd.prog gl 70 [scO s b tok pos] [.blk 0 0, .d (.v (.int .i64 a)), ofv] fun out ob' => out = .ret (.d (.v (.int .i64 (spanB p s a)))) ∧ ob' = [scO s b tok pos] := by
  rcases hof with rfl | rfl
  all_goals (
    unfold scO
    refine triS_of_runs Tryd.func70 rfl Tryd.ntmps70 (rs := [.tmp 6]) rfl rfl rfl 1 rfl ?_
    refine sr ?_; refine o1 (asg ?_); refine nx ?_; refine runs_seq ?_; refine runs_block ?_; refine kp [0, 1, 2] ?_
    apply runs_loop_c (ι := Nat) (fun i => [(1, int i)]) [0, 2] (fun i => i ≤ s.size ∧ spanB p s a = spanB p s i) (fun i => s.size - i) (a)
    case hk => exact rfl
    case hI =>
      exact ⟨ha, rfl⟩
    case hm =>
      refine mo ?_ (sly (sly (sly slz)))
      repeat (first | exact boz | refine boc ?_)
    case h =>
      rintro i hinv
      try dsimp only at hinv
      refine kp [1, 0, 2] ?_; refine runs_seq ?_; refine sr ?_; refine o1 (mv ?_); refine o1 (mv ?_); refine o1 (ncb ?_); refine o1 (fdb ti76 ?_); refine o1 (ldb ti9 ?_); refine o1 (le3 ut9 ?_); refine o1 (ilt ?_); refine o1 (mv ?_)
      apply ops_and (yt := 22) (d := 14) 8 rfl rfl rfl (.none rfl) rfl rfl
      case h1 =>
        intro hb15 hK
        have hc := hb15; (try simp only [nrm, Int.reduceEq, Int.reduceNe, Int.reduceLT, Int.reduceLE] at hc)
        refine gye ?_ (hbw := by exact hb15); refine o1 (mv ?_); refine gye ?_ (hbw := by exact hb15); refine o1 (mv ?_); refine gye ?_ (hbw := by exact hb15); refine o1 (ncb ?_); refine gye ?_ (hbw := by exact hb15); refine o1 (fdb ti76 ?_)
        refine gye ?_ (hbw := by exact hb15); refine o1 (ldb ti9 ?_); refine gye ?_ (hbw := by exact hb15); refine o1 (mv ?_); refine gye ?_ (hbw := by exact hb15); refine o1 (byt ut9 ?_); refine gye ?_ (hbw := by exact hb15)
        first | refine oc (T := fun _ => False) (op_callcd hcal rfl rfl rfl rfl rfl rfl rfl rfl (hp (byteAt s i) (byteAt_bound s i).1 (byteAt_bound s i).2) (fir .nil) (fun d hd => ?_)) | refine oc (T := fun _ => False) (op_callfd hcal rfl rfl rfl rfl rfl rfl (hp (byteAt s i) (byteAt_bound s i).1 (byteAt_bound s i).2) (fir .nil) (fun d hd => ?_))
        obtain rfl := hd; exact hK [_, _, _, _, _, _, _, _] rfl rfl
      case h2 =>
        intro hb15 hK; refine gno ?_ (hbw := by exact hb15); refine gno ?_ (hbw := by exact hb15); refine gno ?_ (hbw := by exact hb15); refine gno ?_ (hbw := by exact hb15); refine gno ?_ (hbw := by exact hb15); refine gno ?_ (hbw := by exact hb15)
        refine gno ?_ (hbw := by exact hb15); refine gno ?_ (hbw := by exact hb15); exact hK [_, _, _, _, _, _, _, _] rfl
      refine nx ?_; refine cd (fun h1 => ?_) (fun h1 => ?_)
      · (try simp only [nrm, Int.reduceEq, Int.reduceNe, Int.reduceLT, Int.reduceLE] at h1)
        refine runs_skip ?_; refine seq_normal ?_; refine runs_block ?_; refine kp [1, 0, 2] ?_; refine runs_region ?_; refine o1 (mv ?_); refine o1 (iad ?_); refine o1 (asg ?_); refine ops_nil ?_; refine inb_normal ?_; refine seq_back ?_
        refine back_i (i + 1) rfl ?_ ?_
        · exact ⟨⟨by omega, by rw [hinv.2, spanB_step (by omega) (by simpa using h1.2)]⟩, by omega⟩
        · refine mo ?_ (sly (sly (sly slz)))
          repeat (first | exact boz | refine boc ?_)
      (try simp only [nrm, Int.reduceEq, Int.reduceNe, Int.reduceLT, Int.reduceLE] at h1); refine runs_exit ?_; refine seq_exit ?_; refine seq_exit ?_; refine inb_exit ?_; refine seq_normal ?_; refine kp [1] ?_; refine sr ?_; refine o1 (mv ?_)
      refine o1 (asg ?_); refine nx ?_; refine runs_ret ?_; refine fin_ret ?_; refine fin_od ⟨_, _, rfl, rfl, rfl⟩ rfl ([0]) ([scO s b tok pos]) rfl rfl rfl ?_ ?_
      · repeat (first | exact boz | refine boc ?_)
      · refine ⟨?_, rfl⟩
        rw [hinv.2, spanB_end (p := i) (by rintro ⟨h5, h6⟩; rcases h1 with h1 | h1; omega; rw [h6] at h1; cases h1)]
  )
end Go.Proofs.YtneaancanfpdhaaDoor
namespace Go.Proofs.YtneaancanfpdhaaDoor
open Go Go.Vd Go.RowKit
attribute [local irreducible] Runs OpsR OpR FloatR AnyR AnyO
variable {gl : Nat → List D}

def stepTok (s : ByteArray) (p : Nat) : ByteArray := if (tokR s p).2.2 = true then (tokR s p).1 else ⟨#[0]⟩
def stepAt (s : ByteArray) (p : Nat) : Nat := if (tokR s p).2.2 = true then (tokR s p).2.1 + (tokR s p).1.size else p
theorem step_yes {s : ByteArray} {p : Nat} {t : ByteArray} {i : Nat} (h : tokR s p = (t, i, true)) : stepTok s p = t ∧ stepAt s p = i + t.size ∧ (tokR s p).2.1 = i := by
  unfold stepTok stepAt; rw [h]; exact ⟨rfl, rfl, rfl⟩
theorem step_no {s : ByteArray} {p : Nat} {t : ByteArray} {i : Nat} (h : tokR s p = (t, i, false)) : stepTok s p = ⟨#[0]⟩ ∧ stepAt s p = p ∧ (tokR s p).2.1 = i := by
  unfold stepTok stepAt; rw [h]; exact ⟨rfl, rfl, rfl⟩

theorem nameB_mono {c : Int} (h : nameB c true = true) : nameB c false = true := by
  simp [nameB] at h ⊢
  omega

theorem step_spec (s : ByteArray) (hs : s.size ≤ 1099511627776) (p : Nat) (hp : p ≤ s.size) (tok0 : ByteArray) (pos0 : Nat) :
    Tri Tryd.prog gl 55 [scO s p tok0 pos0] [.blk 0 0] fun out ob' => out = .ret (.d (.tup [])) ∧ ob' = [scO s (stepAt s p) (stepTok s p) (tokR s p).2.1] := by
  obtain ⟨i, hi⟩ : ∃ i, spanB wsB s p = i := ⟨_, rfl⟩
  have hil := spanB_le wsB s p hp
  rw [hi] at hil
  have hba := byteAt_bound s i
  have hw := run_spec (gl := gl) 71 _ (.inr rfl) wsB ca71 (fun c _ _ => ws1_spec c) s hs p p tok0 pos0 hp
  rw [hi] at hw
  unfold scO at hw ⊢
  refine triS_of_runs Tryd.func55 rfl Tryd.ntmps55 (rs := []) rfl rfl rfl 1 rfl ?_
  refine sr ?_; refine o1 (mv ?_); refine o1 (mv ?_); refine o1 (mv ?_); refine o1 (ncb ?_); refine o1 (fdb ti76 ?_); refine o1 (ldb ti3 ?_); refine oc (ck ca70 rfl rfl (hw) [0] rfl (boc .nil) (fir (fir (fir .nil))) ?_); refine o1 (ncb ?_)
  refine o1 (fdb ti76 ?_); refine oc (sto ti3 ?_); refine nx ?_; refine runs_seq ?_; refine runs_seq ?_; refine kp [0] ?_; refine a_start ?_ (hm := by exact mixed); refine A1 0 rfl (mv ⟨_, rfl, ?_⟩); refine A1 1 rfl (ncb ⟨_, rfl, ?_⟩)
  refine A1 2 rfl (fdb ti76 ⟨_, rfl, ?_⟩); refine A1 3 rfl (ldb ti3 ⟨_, rfl, ?_⟩); refine A1 4 rfl (mv ⟨_, rfl, ?_⟩); refine A1 5 rfl (ncb ⟨_, rfl, ?_⟩); refine A1 6 rfl (fdb ti76 ⟨_, rfl, ?_⟩); refine A1 7 rfl (ldb ti9 ⟨_, rfl, ?_⟩)
  refine A1 8 rfl (le3 ut9 ⟨_, rfl, ?_⟩); refine A1 9 rfl (ieq ⟨_, rfl, ?_⟩); refine a_end ?_; refine seq_normal ?_; refine cd (fun h1 => ?_) (fun h1 => ?_)
  · (try simp only [nrm, Int.reduceEq, Int.reduceNe, Int.reduceLT, Int.reduceLE] at h1)
    refine kp [0] ?_; refine sr ?_; refine o1 (mv ?_); refine o1 (mv ?_); refine o1 (mv ?_); refine o1 (ncb ?_); refine o1 (fdb ti76 ?_); refine o1 (ldb ti3 ?_); refine o1 (ncb ?_); refine o1 (fdb ti76 ?_); refine oc (sto ti9 ?_)
    refine o1 (ncb ?_); refine o1 (fdb ti76 ?_); refine oc (sto ti3 ?_); refine nx ?_; refine runs_ret ?_; refine seq_ret ?_; refine fin_ret ?_; refine fin_od (l := []) rfl rfl ([0]) ([scO s i .empty i]) rfl rfl rfl ?_ ?_
    · repeat (first | exact boz | refine boc ?_)
    · have h := step_yes (tok_end (show spanB wsB s p = spanB wsB s i by rw [hi, spanB_end (by omega)]) (by omega))
      refine ⟨rfl, ?_⟩
      rw [h.1, h.2.1, h.2.2]; rfl
  (try simp only [nrm, Int.reduceEq, Int.reduceNe, Int.reduceLT, Int.reduceLE] at h1); refine runs_skip ?_; refine seq_normal ?_; refine kp [0] ?_; refine sr ?_; refine o1 (mv ?_); refine o1 (ncb ?_); refine o1 (fdb ti76 ?_)
  refine o1 (ldb ti3 ?_); refine o1 (iad ?_); refine o1 (asg ?_); refine nx ?_; refine runs_seq ?_; refine runs_seq ?_; refine kp [2, 0] ?_
  have hi1 : i + 1 ≤ s.size := by omega
  have hqd := spanB_le digB s (i + 1) hi1
  have hqe := spanB_le digB s i hil.2
  have hqn := spanB_le (nameB · false) s i hil.2
  refine a_start ?_ (hm := by exact mixed); refine A1 0 rfl (mv ⟨_, rfl, ?_⟩); refine A1 1 rfl (ncb ⟨_, rfl, ?_⟩); refine A1 2 rfl (fdb ti76 ⟨_, rfl, ?_⟩); refine A1 3 rfl (ldb ti9 ⟨_, rfl, ?_⟩); refine A1 4 rfl (mv ⟨_, rfl, ?_⟩)
  refine A1 5 rfl (ncb ⟨_, rfl, ?_⟩); refine A1 6 rfl (fdb ti76 ⟨_, rfl, ?_⟩); refine A1 7 rfl (ldb ti3 ⟨_, rfl, ?_⟩); refine A1 8 rfl (byt ut9 ⟨_, rfl, ?_⟩); refine A1 9 rfl (asg ⟨_, rfl, ?_⟩); refine a_end ?_; refine seq_normal ?_
  refine runs_block ?_; refine kp [3, 2, 0] ?_; refine sr ?_; refine o1 (mv ?_); refine o1 (ieq ?_); refine o1 (mv ?_)
  apply ops_or (yt := 54) (d := 52) 2 rfl rfl rfl (.none rfl) rfl rfl
  case h1 =>
    intro hb4 hK
    have hc := hb4; (try simp only [nrm, Int.reduceEq, Int.reduceNe, Int.reduceLT, Int.reduceLE] at hc)
    refine gye ?_ (hbw := by exact hb4); refine o1 (mv ?_); refine gye ?_ (hbw := by exact hb4); refine o1 (ieq ?_); exact hK [_, _] rfl rfl
  case h2 =>
    intro hb4 hK; refine gno ?_ (hbw := by exact hb4); refine gno ?_ (hbw := by exact hb4); exact hK [_, _] rfl
  refine o1 (asg ?_); refine nx ?_; refine cd (fun h6 => ?_) (fun h6 => ?_)
  · (try simp only [nrm, Int.reduceEq, Int.reduceNe, Int.reduceLT, Int.reduceLE] at h6)
    refine runs_skip ?_; refine inb_normal ?_; refine seq_normal ?_; refine runs_seq ?_; refine kp [2, 0] ?_; refine sr ?_; refine o1 (mv ?_); refine o1 (ilt ?_); refine nx ?_; refine cd (fun h19 => ?_) (fun h19 => ?_)
    · (try simp only [nrm, Int.reduceEq, Int.reduceNe, Int.reduceLT, Int.reduceLE] at h19); contradiction
    (try simp only [nrm, Int.reduceEq, Int.reduceNe, Int.reduceLT, Int.reduceLE] at h19); refine runs_skip ?_; refine seq_normal ?_; refine a_start ?_ (hm := by exact mixed); refine A1 0 rfl (mv ⟨_, rfl, ?_⟩); refine A1 1 rfl (mv ⟨_, rfl, ?_⟩)
    refine A1 2 rfl (mv ⟨_, rfl, ?_⟩); refine A1 3 rfl (ncb ⟨_, rfl, ?_⟩); refine A1 4 rfl (fdb ti76 ⟨_, rfl, ?_⟩); refine A1 5 rfl (ldb ti9 ⟨_, rfl, ?_⟩); refine A1 6 rfl (mv ⟨_, rfl, ?_⟩); refine A1 7 rfl (ncb ⟨_, rfl, ?_⟩)
    refine A1 8 rfl (fdb ti76 ⟨_, rfl, ?_⟩); refine A1 9 rfl (ldb ti3 ⟨_, rfl, ?_⟩); refine A1 10 rfl (mv ⟨_, rfl, ?_⟩); refine A1 11 rfl (f_sub_lh ut9 ⟨_, rfl, ?_⟩); refine A1 12 rfl (mv ⟨_, rfl, ?_⟩); refine A1 13 rfl (ncb ⟨_, rfl, ?_⟩)
    refine A1 14 rfl (fdb ti76 ⟨_, rfl, ?_⟩); refine A2 15 rfl (sto ti9 ?_); refine A1 16 rfl (ncb ⟨_, rfl, ?_⟩); refine A1 17 rfl (fdb ti76 ⟨_, rfl, ?_⟩); refine A2 18 rfl (sto ti3 ?_); refine a_end ?_; refine fin_normal ?_
    refine fin_od (l := []) rfl rfl ([0]) ([scO s (i + 1) (s.extract i (i + 1)) i]) rfl rfl rfl ?_ ?_
    · repeat (first | exact boz | refine boc ?_)
    · have h := step_yes (tok_par hi hi1 h6)
      refine ⟨rfl, ?_⟩
      rw [h.1, h.2.1, h.2.2, show i + (s.extract i (i + 1)).size = (i + 1) by rw [ByteArray.size_extract]; omega]; rfl
  (try simp only [nrm, Int.reduceEq, Int.reduceNe, Int.reduceLT, Int.reduceLE] at h6); refine kp [3, 0] ?_; refine sr ?_; refine o1 (mv ?_); refine oc (cv ca72 rfl rfl (letter_spec (byteAt s i) hba.1 hba.2) (fir .nil) ?_); refine o1 (asg ?_)
  refine nx ?_; refine cd (fun h7 => ?_) (fun h7 => ?_)
  · (try simp only [nrm, Int.reduceEq, Int.reduceNe, Int.reduceLT, Int.reduceLE] at h7)
    refine kp [0] ?_; refine sr ?_; refine o1 (mv ?_); refine o1 (mv ?_); refine o1 (ncb ?_); refine o1 (fdb ti76 ?_); refine o1 (ldb ti3 ?_)
    refine oc (ck ca70 rfl rfl (run_spec 73 _ (.inr rfl) (nameB · false) ca73 (fun c h0 h1 => nb2_spec c h0 h1) s hs i p tok0 i hil.2) [0] rfl (boc .nil) (fir (fir (fir .nil))) ?_); refine o1 (asg ?_); refine nx ?_; refine kp [2, 0] ?_
    refine sr ?_; refine o1 (mv ?_); refine o1 (mv ?_); refine o1 (ncb ?_); refine o1 (fdb ti76 ?_); refine o1 (ldb ti3 ?_); refine o1 (isu ?_); refine o1 (igt ?_); refine nx ?_; refine cd (fun h9 => ?_) (fun h9 => ?_)
    · (try simp only [nrm, Int.reduceEq, Int.reduceNe, Int.reduceLT, Int.reduceLE] at h9)
      refine kp [0] ?_; refine runs_region ?_; refine o1 (asg ?_); refine ops_nil ?_; refine inb_normal ?_; refine seq_normal ?_; refine runs_seq ?_; refine sr ?_; refine o1 (mv ?_); refine o1 (ilt ?_); refine nx ?_
      refine cdf (fun h19 => ?_) (fun h19 => ?_)
      · simp only [nrm, Int.reduceEq, Int.reduceNe, Int.reduceLT, Int.reduceLE] at h19
      (try simp only [nrm, Int.reduceEq, Int.reduceNe, Int.reduceLT, Int.reduceLE] at h19); refine sr ?_; refine o1 (mv ?_); refine o1 (ncb ?_); refine o1 (fdb ti76 ?_); refine oc (sto ti9 ?_); refine nx ?_; refine runs_ret ?_; refine seq_ret ?_
      refine fin_ret ?_; refine fin_od (l := []) rfl rfl ([0]) ([scO s p ⟨#[0]⟩ i]) rfl rfl rfl ?_ ?_
      · repeat (first | exact boz | refine boc ?_)
      · have h := step_no (tok_nameNo hi hi1 (by omega) h7 (spanB_step hi1 (nameB_mono h7)).symm (by omega))
        refine ⟨rfl, ?_⟩
        rw [h.1, h.2.1, h.2.2]; rfl
    (try simp only [nrm, Int.reduceEq, Int.reduceNe, Int.reduceLT, Int.reduceLE] at h9); refine runs_skip ?_; refine inb_normal ?_; refine seq_normal ?_; refine runs_seq ?_; refine kp [2, 0] ?_; refine sr ?_; refine o1 (mv ?_)
    refine o1 (ilt ?_); refine nx ?_; refine cd (fun h19 => ?_) (fun h19 => ?_)
    · (try simp only [nrm, Int.reduceEq, Int.reduceNe, Int.reduceLT, Int.reduceLE] at h19); contradiction
    (try simp only [nrm, Int.reduceEq, Int.reduceNe, Int.reduceLT, Int.reduceLE] at h19); refine runs_skip ?_; refine seq_normal ?_; refine a_start ?_ (hm := by exact mixed); refine A1 0 rfl (mv ⟨_, rfl, ?_⟩); refine A1 1 rfl (mv ⟨_, rfl, ?_⟩)
    refine A1 2 rfl (mv ⟨_, rfl, ?_⟩); refine A1 3 rfl (ncb ⟨_, rfl, ?_⟩); refine A1 4 rfl (fdb ti76 ⟨_, rfl, ?_⟩); refine A1 5 rfl (ldb ti9 ⟨_, rfl, ?_⟩); refine A1 6 rfl (mv ⟨_, rfl, ?_⟩); refine A1 7 rfl (ncb ⟨_, rfl, ?_⟩)
    refine A1 8 rfl (fdb ti76 ⟨_, rfl, ?_⟩); refine A1 9 rfl (ldb ti3 ⟨_, rfl, ?_⟩); refine A1 10 rfl (mv ⟨_, rfl, ?_⟩); refine A1 11 rfl (f_sub_lh ut9 ⟨_, rfl, ?_⟩); refine A1 12 rfl (mv ⟨_, rfl, ?_⟩); refine A1 13 rfl (ncb ⟨_, rfl, ?_⟩)
    refine A1 14 rfl (fdb ti76 ⟨_, rfl, ?_⟩); refine A2 15 rfl (sto ti9 ?_); refine A1 16 rfl (ncb ⟨_, rfl, ?_⟩); refine A1 17 rfl (fdb ti76 ⟨_, rfl, ?_⟩); refine A2 18 rfl (sto ti3 ?_); refine a_end ?_; refine fin_normal ?_
    refine fin_od (l := []) rfl rfl ([0]) ([scO s (spanB (fun x => nameB x false) s i) (s.extract i (spanB (fun x => nameB x false) s i)) i]) rfl rfl rfl ?_ ?_
    · repeat (first | exact boz | refine boc ?_)
    · have h := step_yes (tok_name hi hi1 (by omega) h7 (spanB_step hi1 (nameB_mono h7)).symm (by omega))
      refine ⟨rfl, ?_⟩
      rw [h.1, h.2.1, h.2.2, show i + (s.extract i (spanB (fun x => nameB x false) s i)).size = (spanB (fun x => nameB x false) s i) by rw [ByteArray.size_extract]; omega]; rfl
  (try simp only [nrm, Int.reduceEq, Int.reduceNe, Int.reduceLT, Int.reduceLE] at h7); refine sr ?_; refine o1 (mv ?_); refine o1 (ieq ?_); refine o1 (mv ?_)
  apply ops_or (yt := 77) (d := 75) 2 rfl rfl rfl (.none rfl) rfl rfl
  case h1 =>
    intro hb4 hK
    have hc := hb4; (try simp only [nrm, Int.reduceEq, Int.reduceNe, Int.reduceLT, Int.reduceLE] at hc)
    refine gye ?_ (hbw := by exact hb4); refine o1 (mv ?_); refine gye ?_ (hbw := by exact hb4); refine oc (cv ca74 rfl rfl (digit_spec (byteAt s i)) (fir .nil) ?_); exact hK [_, _] rfl rfl
  case h2 =>
    intro hb4 hK; refine gno ?_ (hbw := by exact hb4); refine gno ?_ (hbw := by exact hb4); exact hK [_, _] rfl
  refine o1 (asg ?_); refine nx ?_; refine cdf (fun h11 => ?_) (fun h11 => ?_)
  · (try simp only [nrm, Int.reduceEq, Int.reduceNe, Int.reduceLT, Int.reduceLE] at h11)
    refine kp [0] ?_; refine runs_region ?_; refine o1 (asg ?_); refine ops_nil ?_; refine inb_normal ?_; refine seq_normal ?_; refine runs_seq ?_; refine sr ?_; refine o1 (mv ?_); refine o1 (ilt ?_); refine nx ?_
    refine cdf (fun h19 => ?_) (fun h19 => ?_)
    · simp only [nrm, Int.reduceEq, Int.reduceNe, Int.reduceLT, Int.reduceLE] at h19
    (try simp only [nrm, Int.reduceEq, Int.reduceNe, Int.reduceLT, Int.reduceLE] at h19); refine sr ?_; refine o1 (mv ?_); refine o1 (ncb ?_); refine o1 (fdb ti76 ?_); refine oc (sto ti9 ?_); refine nx ?_; refine runs_ret ?_; refine seq_ret ?_
    refine fin_ret ?_; refine fin_od (l := []) rfl rfl ([0]) ([scO s p ⟨#[0]⟩ i]) rfl rfl rfl ?_ ?_
    · repeat (first | exact boz | refine boc ?_)
    · have h := step_no (tok_none hi hi1 (by omega) h7 (by simp only [digB, decide_eq_false_iff_not] at h11; omega))
      refine ⟨rfl, ?_⟩
      rw [h.1, h.2.1, h.2.2]; rfl
  (try simp only [nrm, Int.reduceEq, Int.reduceNe, Int.reduceLT, Int.reduceLE] at h11); refine kp [3, 0] ?_; refine sr ?_; refine o1 (mv ?_); refine o1 (ncb ?_); refine o1 (fdb ti76 ?_); refine o1 (ldb ti3 ?_); refine o1 (asg ?_); refine nx ?_
  refine runs_seq ?_; refine kp [4, 3, 0] ?_; refine sr ?_; refine o1 (mv ?_); refine o1 (ieq ?_); refine nx ?_; refine cdf (fun h13 => ?_) (fun h13 => ?_)
  · (try simp only [nrm, Int.reduceEq, Int.reduceNe, Int.reduceLT, Int.reduceLE] at h13)
    refine runs_skip ?_; refine seq_normal ?_; refine sr ?_; refine o1 (mv ?_); refine o1 (mv ?_)
    refine oc (ck ca70 rfl rfl (run_spec 74 _ (.inr rfl) digB ca74 (fun c _ _ => digit_spec c) s hs i p tok0 i hil.2) [0] rfl (boc .nil) (fir (fir (fir .nil))) ?_); refine o1 (asg ?_); refine nx ?_; refine kp [2, 4, 0] ?_; refine sr ?_
    refine o1 (mv ?_); refine o1 (mv ?_); refine o1 (isu ?_); refine o1 (asg ?_); refine nx ?_; refine sr ?_; refine o1 (mv ?_); refine o1 (ieq ?_); refine o1 (mv ?_)
    apply ops_or (yt := 97) (d := 95) 2 rfl rfl rfl (.none rfl) rfl rfl
    case h1 =>
      intro hb4 hK
      have hc := hb4; (try simp only [nrm, Int.reduceEq, Int.reduceNe, Int.reduceLT, Int.reduceLE] at hc)
      refine gye ?_ (hbw := by exact hb4); refine o1 (mv ?_); refine gye ?_ (hbw := by exact hb4); refine o1 (igt ?_); exact hK [_, _] rfl rfl
    case h2 =>
      intro hb4 hK; refine gno ?_ (hbw := by exact hb4); refine gno ?_ (hbw := by exact hb4); exact hK [_, _] rfl
    refine o1 (mv ?_)
    apply ops_or (yt := 110) (d := 99) 11 rfl rfl rfl (.none rfl) rfl rfl
    case h1 =>
      intro hb12 hK
      have hc := hb12; (try simp only [nrm, Int.reduceEq, Int.reduceNe, Int.reduceLT, Int.reduceLE] at hc)
      refine gye ?_ (hbw := by exact hb12); refine o1 (mv ?_); refine gye ?_ (hbw := by exact hb12); refine o1 (igt ?_); refine gye ?_ (hbw := by exact hb12); refine o1 (mv ?_)
      apply ops_and (yt := 109) (d := 102) 7 rfl rfl rfl (.yes rfl rfl rfl hb12) rfl rfl
      case h1 =>
        intro hb19 hK
        have hc := hb19; (try simp only [nrm, Int.reduceEq, Int.reduceNe, Int.reduceLT, Int.reduceLE] at hc)
        refine gye ?_ (hbw := by exact hb19); refine o1 (mv ?_); refine gye ?_ (hbw := by exact hb19); refine o1 (ncb ?_); refine gye ?_ (hbw := by exact hb19); refine o1 (fdb ti76 ?_); refine gye ?_ (hbw := by exact hb19); refine o1 (ldb ti9 ?_)
        refine gye ?_ (hbw := by exact hb19); refine o1 (mv ?_); refine gye ?_ (hbw := by exact hb19); refine o1 (byt ut9 ?_); refine gye ?_ (hbw := by exact hb19); refine o1 (ieq ?_); exact hK [_, _, _, _, _, _, _] rfl rfl
      case h2 =>
        intro hb19 hK; refine gno ?_ (hbw := by exact hb19); refine gno ?_ (hbw := by exact hb19); refine gno ?_ (hbw := by exact hb19); refine gno ?_ (hbw := by exact hb19); refine gno ?_ (hbw := by exact hb19); refine gno ?_ (hbw := by exact hb19)
        refine gno ?_ (hbw := by exact hb19); exact hK [_, _, _, _, _, _, _] rfl
      exact hK [_, _, _, _] rfl rfl
    case h2 =>
      intro hb12 hK; refine gno ?_ (hbw := by exact hb12); refine gno ?_ (hbw := by exact hb12); refine gno ?_ (hbw := by exact hb12); refine gud ?_; refine gud ?_; refine gud ?_; refine gud ?_; refine gud ?_; refine gud ?_; refine gud ?_
      refine gno ?_ (hbw := by exact hb12); exact hK [_, _, _, _, _, _, _, _, _, _, _] rfl
    refine nx ?_; refine cd (fun h17 => ?_) (fun h17 => ?_)
    · (try simp only [nrm, Int.reduceEq, Int.reduceNe, Int.reduceLT, Int.reduceLE] at h17)
      refine kp [0] ?_; refine runs_region ?_; refine o1 (asg ?_); refine ops_nil ?_; refine inb_normal ?_; refine seq_normal ?_; refine runs_seq ?_; refine sr ?_; refine o1 (mv ?_); refine o1 (ilt ?_); refine nx ?_
      refine cdf (fun h19 => ?_) (fun h19 => ?_)
      · simp only [nrm, Int.reduceEq, Int.reduceNe, Int.reduceLT, Int.reduceLE] at h19
      (try simp only [nrm, Int.reduceEq, Int.reduceNe, Int.reduceLT, Int.reduceLE] at h19); refine sr ?_; refine o1 (mv ?_); refine o1 (ncb ?_); refine o1 (fdb ti76 ?_); refine oc (sto ti9 ?_); refine nx ?_; refine runs_ret ?_; refine seq_ret ?_
      refine fin_ret ?_; refine fin_od (l := []) rfl rfl ([0]) ([scO s p ⟨#[0]⟩ i]) rfl rfl rfl ?_ ?_
      · repeat (first | exact boz | refine boc ?_)
      · have h := step_no (tok_numNo hi hi1 (by omega) h7 (by simp only [digB, decide_eq_true_eq] at h11; omega) (spanB_step hi1 (by rcases h11 with h11 | h11; omega; exact h11)).symm (if_neg h13) (by omega))
        refine ⟨rfl, ?_⟩
        rw [h.1, h.2.1, h.2.2]; rfl
    (try simp only [nrm, Int.reduceEq, Int.reduceNe, Int.reduceLT, Int.reduceLE] at h17); refine runs_skip ?_; refine inb_normal ?_; refine seq_normal ?_; refine runs_seq ?_; refine kp [2, 0] ?_; refine sr ?_; refine o1 (mv ?_)
    refine o1 (ilt ?_); refine nx ?_; refine cd (fun h19 => ?_) (fun h19 => ?_)
    · (try simp only [nrm, Int.reduceEq, Int.reduceNe, Int.reduceLT, Int.reduceLE] at h19); contradiction
    (try simp only [nrm, Int.reduceEq, Int.reduceNe, Int.reduceLT, Int.reduceLE] at h19); refine runs_skip ?_; refine seq_normal ?_; refine a_start ?_ (hm := by exact mixed); refine A1 0 rfl (mv ⟨_, rfl, ?_⟩); refine A1 1 rfl (mv ⟨_, rfl, ?_⟩)
    refine A1 2 rfl (mv ⟨_, rfl, ?_⟩); refine A1 3 rfl (ncb ⟨_, rfl, ?_⟩); refine A1 4 rfl (fdb ti76 ⟨_, rfl, ?_⟩); refine A1 5 rfl (ldb ti9 ⟨_, rfl, ?_⟩); refine A1 6 rfl (mv ⟨_, rfl, ?_⟩); refine A1 7 rfl (ncb ⟨_, rfl, ?_⟩)
    refine A1 8 rfl (fdb ti76 ⟨_, rfl, ?_⟩); refine A1 9 rfl (ldb ti3 ⟨_, rfl, ?_⟩); refine A1 10 rfl (mv ⟨_, rfl, ?_⟩); refine A1 11 rfl (f_sub_lh ut9 ⟨_, rfl, ?_⟩); refine A1 12 rfl (mv ⟨_, rfl, ?_⟩); refine A1 13 rfl (ncb ⟨_, rfl, ?_⟩)
    refine A1 14 rfl (fdb ti76 ⟨_, rfl, ?_⟩); refine A2 15 rfl (sto ti9 ?_); refine A1 16 rfl (ncb ⟨_, rfl, ?_⟩); refine A1 17 rfl (fdb ti76 ⟨_, rfl, ?_⟩); refine A2 18 rfl (sto ti3 ?_); refine a_end ?_; refine fin_normal ?_
    refine fin_od (l := []) rfl rfl ([0]) ([scO s (spanB digB s i) (s.extract i (spanB digB s i)) i]) rfl rfl rfl ?_ ?_
    · repeat (first | exact boz | refine boc ?_)
    · have h := step_yes (tok_num hi hi1 (by omega) h7 (by simp only [digB, decide_eq_true_eq] at h11; omega) (spanB_step hi1 (by rcases h11 with h11 | h11; omega; exact h11)).symm (if_neg h13) (by omega))
      refine ⟨rfl, ?_⟩
      rw [h.1, h.2.1, h.2.2, show i + (s.extract i (spanB digB s i)).size = (spanB digB s i) by rw [ByteArray.size_extract]; omega]; rfl
  (try simp only [nrm, Int.reduceEq, Int.reduceNe, Int.reduceLT, Int.reduceLE] at h13); refine runs_region ?_; refine o1 (mv ?_); refine o1 (iad ?_); refine o1 (asg ?_); refine nx ?_; refine kp [4, 0] ?_; refine sr ?_; refine o1 (mv ?_)
  refine o1 (mv ?_); refine oc (ck ca70 rfl rfl (run_spec 74 _ (.inr rfl) digB ca74 (fun c _ _ => digit_spec c) s hs (i + 1) p tok0 i (by omega)) [0] rfl (boc .nil) (fir (fir (fir .nil))) ?_); refine o1 (asg ?_); refine nx ?_; refine sr ?_
  refine o1 (mv ?_); refine o1 (mv ?_); refine o1 (isu ?_); refine o1 (asg ?_); refine nx ?_; refine kp [5, 2, 4, 0] ?_; refine sr ?_; refine o1 (mv ?_); refine o1 (ieq ?_); refine o1 (mv ?_)
  apply ops_or (yt := 97) (d := 95) 2 rfl rfl rfl (.none rfl) rfl rfl
  case h1 =>
    intro hb4 hK
    have hc := hb4; (try simp only [nrm, Int.reduceEq, Int.reduceNe, Int.reduceLT, Int.reduceLE] at hc)
    refine gye ?_ (hbw := by exact hb4); refine o1 (mv ?_); refine gye ?_ (hbw := by exact hb4); refine o1 (igt ?_); exact hK [_, _] rfl rfl
  case h2 =>
    intro hb4 hK; refine gno ?_ (hbw := by exact hb4); refine gno ?_ (hbw := by exact hb4); exact hK [_, _] rfl
  refine o1 (mv ?_)
  apply ops_or (yt := 110) (d := 99) 11 rfl rfl rfl (.none rfl) rfl rfl
  case h1 =>
    intro hb12 hK
    have hc := hb12; (try simp only [nrm, Int.reduceEq, Int.reduceNe, Int.reduceLT, Int.reduceLE] at hc)
    refine gye ?_ (hbw := by exact hb12); refine o1 (mv ?_); refine gye ?_ (hbw := by exact hb12); refine o1 (igt ?_); refine gye ?_ (hbw := by exact hb12); refine o1 (mv ?_)
    apply ops_and (yt := 109) (d := 102) 7 rfl rfl rfl (.yes rfl rfl rfl hb12) rfl rfl
    case h1 =>
      intro hb19 hK
      have hc := hb19; (try simp only [nrm, Int.reduceEq, Int.reduceNe, Int.reduceLT, Int.reduceLE] at hc)
      refine gye ?_ (hbw := by exact hb19); refine o1 (mv ?_); refine gye ?_ (hbw := by exact hb19); refine o1 (ncb ?_); refine gye ?_ (hbw := by exact hb19); refine o1 (fdb ti76 ?_); refine gye ?_ (hbw := by exact hb19); refine o1 (ldb ti9 ?_)
      refine gye ?_ (hbw := by exact hb19); refine o1 (mv ?_); refine gye ?_ (hbw := by exact hb19); refine o1 (byt ut9 ?_); refine gye ?_ (hbw := by exact hb19); refine o1 (ieq ?_); exact hK [_, _, _, _, _, _, _] rfl rfl
    case h2 =>
      intro hb19 hK; refine gno ?_ (hbw := by exact hb19); refine gno ?_ (hbw := by exact hb19); refine gno ?_ (hbw := by exact hb19); refine gno ?_ (hbw := by exact hb19); refine gno ?_ (hbw := by exact hb19); refine gno ?_ (hbw := by exact hb19)
      refine gno ?_ (hbw := by exact hb19); exact hK [_, _, _, _, _, _, _] rfl
    exact hK [_, _, _, _] rfl rfl
  case h2 =>
    intro hb12 hK; refine gno ?_ (hbw := by exact hb12); refine gno ?_ (hbw := by exact hb12); refine gno ?_ (hbw := by exact hb12); refine gud ?_; refine gud ?_; refine gud ?_; refine gud ?_; refine gud ?_; refine gud ?_; refine gud ?_
    refine gno ?_ (hbw := by exact hb12); exact hK [_, _, _, _, _, _, _, _, _, _, _] rfl
  refine nx ?_; refine cd (fun h17 => ?_) (fun h17 => ?_)
  · (try simp only [nrm, Int.reduceEq, Int.reduceNe, Int.reduceLT, Int.reduceLE] at h17)
    refine kp [0] ?_; refine runs_region ?_; refine o1 (asg ?_); refine ops_nil ?_; refine inb_normal ?_; refine seq_normal ?_; refine runs_seq ?_; refine sr ?_; refine o1 (mv ?_); refine o1 (ilt ?_); refine nx ?_
    refine cdf (fun h19 => ?_) (fun h19 => ?_)
    · simp only [nrm, Int.reduceEq, Int.reduceNe, Int.reduceLT, Int.reduceLE] at h19
    (try simp only [nrm, Int.reduceEq, Int.reduceNe, Int.reduceLT, Int.reduceLE] at h19); refine sr ?_; refine o1 (mv ?_); refine o1 (ncb ?_); refine o1 (fdb ti76 ?_); refine oc (sto ti9 ?_); refine nx ?_; refine runs_ret ?_; refine seq_ret ?_
    refine fin_ret ?_; refine fin_od (l := []) rfl rfl ([0]) ([scO s p ⟨#[0]⟩ i]) rfl rfl rfl ?_ ?_
    · repeat (first | exact boz | refine boc ?_)
    · have h := step_no (tok_numNo hi hi1 (by omega) h7 (by simp only [digB, decide_eq_true_eq] at h11; omega) rfl (if_pos h13) (by omega))
      refine ⟨rfl, ?_⟩
      rw [h.1, h.2.1, h.2.2]; rfl
  (try simp only [nrm, Int.reduceEq, Int.reduceNe, Int.reduceLT, Int.reduceLE] at h17); refine runs_skip ?_; refine inb_normal ?_; refine seq_normal ?_; refine runs_seq ?_; refine kp [2, 0] ?_; refine sr ?_; refine o1 (mv ?_)
  refine o1 (ilt ?_); refine nx ?_; refine cd (fun h19 => ?_) (fun h19 => ?_)
  · (try simp only [nrm, Int.reduceEq, Int.reduceNe, Int.reduceLT, Int.reduceLE] at h19); contradiction
  (try simp only [nrm, Int.reduceEq, Int.reduceNe, Int.reduceLT, Int.reduceLE] at h19); refine runs_skip ?_; refine seq_normal ?_; refine a_start ?_ (hm := by exact mixed); refine A1 0 rfl (mv ⟨_, rfl, ?_⟩); refine A1 1 rfl (mv ⟨_, rfl, ?_⟩)
  refine A1 2 rfl (mv ⟨_, rfl, ?_⟩); refine A1 3 rfl (ncb ⟨_, rfl, ?_⟩); refine A1 4 rfl (fdb ti76 ⟨_, rfl, ?_⟩); refine A1 5 rfl (ldb ti9 ⟨_, rfl, ?_⟩); refine A1 6 rfl (mv ⟨_, rfl, ?_⟩); refine A1 7 rfl (ncb ⟨_, rfl, ?_⟩)
  refine A1 8 rfl (fdb ti76 ⟨_, rfl, ?_⟩); refine A1 9 rfl (ldb ti3 ⟨_, rfl, ?_⟩); refine A1 10 rfl (mv ⟨_, rfl, ?_⟩); refine A1 11 rfl (f_sub_lh ut9 ⟨_, rfl, ?_⟩); refine A1 12 rfl (mv ⟨_, rfl, ?_⟩); refine A1 13 rfl (ncb ⟨_, rfl, ?_⟩)
  refine A1 14 rfl (fdb ti76 ⟨_, rfl, ?_⟩); refine A2 15 rfl (sto ti9 ?_); refine A1 16 rfl (ncb ⟨_, rfl, ?_⟩); refine A1 17 rfl (fdb ti76 ⟨_, rfl, ?_⟩); refine A2 18 rfl (sto ti3 ?_); refine a_end ?_; refine fin_normal ?_
  refine fin_od (l := []) rfl rfl ([0]) ([scO s (spanB digB s (i + 1)) (s.extract i (spanB digB s (i + 1))) i]) rfl rfl rfl ?_ ?_
  · repeat (first | exact boz | refine boc ?_)
  · have h := step_yes (tok_num hi hi1 (by omega) h7 (by simp only [digB, decide_eq_true_eq] at h11; omega) rfl (if_pos h13) (by omega))
    refine ⟨rfl, ?_⟩
    rw [h.1, h.2.1, h.2.2, show i + (s.extract i (spanB digB s (i + 1))).size = (spanB digB s (i + 1)) by rw [ByteArray.size_extract]; omega]; rfl
end Go.Proofs.YtneaancanfpdhaaDoor
namespace Go.Proofs.YtneaancanfpdhaaDoor
open Go Go.Vd Go.RowKit
attribute [local irreducible] Runs OpsR OpR FloatR AnyR AnyO
variable {gl : Nat → List D}

/-- a fault, as an error or as what is thrown -/
def fltD (code at' : Int) : D := .ifc 66 (.cp [.v (.int .i64 code), .v (.int .i64 at')])

theorem sfail_spec (s : ByteArray) (b : Nat) (tok : ByteArray) (pos : Nat) :
    Tri Tryd.prog gl 58 [scO s b tok pos] [.blk 0 0] fun out ob' => out = .pan (.d (fltD 1 pos)) ∧ ob' = [scO s b tok pos] := by
  unfold scO fltD
  refine triS_of_runs Tryd.func58 rfl Tryd.ntmps58 (rs := []) rfl rfl rfl 1 rfl ?_
  refine runs_region ?_; refine o1 (mv ?_); refine o1 (ncb ?_); refine o1 (fdb ti76 ?_); refine o1 (ldb ti3 ?_); refine o1 (bld ti31 ?_)
  refine oc (T := fun _ => False) (bx ti31 ?_ (hl := by simp only [List.length_cons, List.length_nil, Nat.reduceAdd]; rfl)); refine ops_freeze 1 rfl rfl rfl rfl rfl rfl ?_; refine o1 (f_iface_d ?_); refine oc (T := fun _ => False) (o_panic ?_)
  refine leave_d ([0]) ([scO s b tok pos]) rfl rfl rfl (by repeat (first | exact boz | refine boc ?_)) ?_; exact ⟨rfl, rfl⟩

/-- a scanner that stands at the token behind p -/
def scA (s : ByteArray) (p : Nat) : Ob := scO s (stepAt s p) (stepTok s p) (tokR s p).2.1
theorem stepAt_le {s : ByteArray} {p : Nat} (hp : p ≤ s.size) : p ≤ stepAt s p ∧ stepAt s p ≤ s.size := by
  have := tokR_at (s := s) hp
  unfold stepAt
  split <;> omega

theorem take_ok (s : ByteArray) (hs : s.size ≤ 1099511627776) (b : Nat) (hb : b ≤ s.size) (w : ByteArray) (pos : Nat) :
    Tri Tryd.prog gl 59 [scO s b w pos] [.blk 0 0, .d (.v (.string w))] fun out ob' => out = .ret (.d (.tup [])) ∧ ob' = [scA s b] := by
  unfold scO
  refine triS_of_runs Tryd.func59 rfl Tryd.ntmps59 (rs := []) rfl rfl rfl 1 rfl ?_
  refine runs_seq ?_; refine sr ?_; refine o1 (mv ?_); refine o1 (ncb ?_); refine o1 (fdb ti76 ?_); refine o1 (ldb ti9 ?_); refine o1 (mv ?_); refine o1 (sne ?_); refine nx ?_; refine cd (fun h0 => ?_) (fun h0 => ?_)
  · simp only [nrm, Int.reduceEq, Int.reduceNe, Int.reduceLT, Int.reduceLE] at h0
  (try simp only [nrm, Int.reduceEq, Int.reduceNe, Int.reduceLT, Int.reduceLE] at h0); refine runs_skip ?_; refine seq_normal ?_; refine kp [0] ?_; refine runs_region ?_; refine o1 (mv ?_)
  refine oc (ck ca55 rfl rfl (step_spec s hs b hb w pos) [0] rfl (boc .nil) (fir .nil) ?_); refine ops_nil ?_; refine fin_normal ?_; refine fin_od (l := []) rfl rfl ([0]) ([scA s b]) rfl rfl rfl ?_ ?_
  · repeat (first | exact boz | refine boc ?_)
  · exact ⟨rfl, rfl⟩

theorem take_bad (s : ByteArray) (b : Nat) (tok w : ByteArray) (pos : Nat) (hw : ¬ tok = w) :
    Tri Tryd.prog gl 59 [scO s b tok pos] [.blk 0 0, .d (.v (.string w))] fun out ob' => out = .pan (.d (fltD 1 pos)) ∧ ob' = [scO s b tok pos] := by
  unfold scO
  refine triS_of_runs Tryd.func59 rfl Tryd.ntmps59 (rs := []) rfl rfl rfl 1 rfl ?_
  refine runs_seq ?_; refine sr ?_; refine o1 (mv ?_); refine o1 (ncb ?_); refine o1 (fdb ti76 ?_); refine o1 (ldb ti9 ?_); refine o1 (mv ?_); refine o1 (sne ?_); refine nx ?_; refine cdf (fun h0 => ?_) (fun h0 => ?_)
  · (try simp only [nrm, Int.reduceEq, Int.reduceNe, Int.reduceLT, Int.reduceLE] at h0); contradiction
  (try simp only [nrm, Int.reduceEq, Int.reduceNe, Int.reduceLT, Int.reduceLE] at h0); refine kp [0] ?_; refine runs_region ?_; refine o1 (mv ?_)
  refine oc (op_callo ca58 rfl rfl rfl rfl (sfail_spec s b tok pos) [0] (boc .nil) rfl rfl rfl rfl (fir .nil) (fun s ob' hq => ?_) (fun s ob' hq => ?_))
  · cases hq.1
  obtain ⟨hq1, rfl⟩ := hq; cases hq1; refine ⟨_, _, _, _, _, rfl, rfl, rfl, rfl, rfl, ?_⟩; refine leave_d ([0]) ([scO s b tok pos]) rfl rfl rfl (by repeat (first | exact boz | refine boc ?_)) ?_; exact ⟨rfl, rfl⟩

theorem name_ok (s : ByteArray) (hs : s.size ≤ 1099511627776) (b : Nat) (hb : b ≤ s.size) (w : ByteArray) (pos : Nat) (hw : isNameB w = true) :
    Tri Tryd.prog gl 62 [scO s b w pos] [.blk 0 0] fun out ob' => out = .ret (.d (.v (.string w))) ∧ ob' = [scA s b] := by
  have hb0 := byteAt_bound w 0
  simp only [isNameB, Bool.and_eq_true, decide_eq_true_eq] at hw
  have hw2 := size_pos_of_ne hw.1
  have hem : ¬ w = ⟨#[]⟩ := hw.1
  unfold scO
  refine triS_of_runs Tryd.func62 rfl Tryd.ntmps62 (rs := [.tmp 2]) rfl rfl rfl 1 rfl ?_
  refine sr ?_; refine o1 (asg ?_); refine nx ?_; refine sr ?_; refine o1 (mv ?_); refine o1 (ncb ?_); refine o1 (fdb ti76 ?_); refine o1 (ldb ti9 ?_); refine o1 (asg ?_); refine nx ?_; refine runs_seq ?_; refine kp [3, 0] ?_; refine sr ?_
  refine o1 (mv ?_); refine o1 (seq1 ?_); refine o1 (mv ?_)
  apply ops_or (yt := 14) (d := 10) 4 rfl rfl rfl (.none rfl) rfl rfl
  case h1 =>
    intro hb4 hK
    have hc := hb4; (try simp only [nrm, Int.reduceEq, Int.reduceNe, Int.reduceLT, Int.reduceLE] at hc)
    refine gye ?_ (hbw := by exact hb4); refine o1 (mv ?_); refine gye ?_ (hbw := by exact hb4); refine o1 (byt ut9 ?_); refine gye ?_ (hbw := by exact hb4); refine oc (cv ca72 rfl rfl (letter_spec (byteAt w 0) hb0.1 hb0.2) (fir .nil) ?_)
    refine gye ?_ (hbw := by exact hb4); refine o1 (f_not ?_); exact hK [_, _, _, _] rfl rfl
  case h2 =>
    intro hb4 hK; refine gno ?_ (hbw := by exact hb4); refine gno ?_ (hbw := by exact hb4); refine gno ?_ (hbw := by exact hb4); refine gno ?_ (hbw := by exact hb4); exact hK [_, _, _, _] rfl
  refine nx ?_; refine cd (fun h2 => ?_) (fun h2 => ?_)
  · (try simp only [nrm, Int.reduceEq, Int.reduceNe, Int.reduceLT, Int.reduceLE] at h2); exfalso; rcases h2 with h | h; exact hem h; rw [hw.2] at h; cases h
  (try simp only [nrm, Int.reduceEq, Int.reduceNe, Int.reduceLT, Int.reduceLE] at h2); refine runs_skip ?_; refine seq_normal ?_; refine kp [3, 0] ?_; refine sr ?_; refine o1 (mv ?_)
  refine oc (ck ca55 rfl rfl (step_spec s hs b hb w pos) [0] rfl (boc .nil) (fir .nil) ?_); refine nx ?_; refine sr ?_; refine o1 (mv ?_); refine o1 (asg ?_); refine nx ?_; refine runs_ret ?_; refine fin_ret ?_
  refine fin_od ⟨_, _, rfl, rfl, rfl⟩ rfl ([0]) ([scA s b]) rfl rfl rfl ?_ ?_
  · repeat (first | exact boz | refine boc ?_)
  · exact ⟨rfl, rfl⟩

theorem name_bad (s : ByteArray) (b : Nat) (w : ByteArray) (pos : Nat) (hw : isNameB w = false) :
    Tri Tryd.prog gl 62 [scO s b w pos] [.blk 0 0] fun out ob' => out = .pan (.d (fltD 1 pos)) ∧ ob' = [scO s b w pos] := by
  have hb0 := byteAt_bound w 0
  have hw2 : ¬ w = ⟨#[]⟩ → 0 < w.size := fun h => size_pos_of_ne h
  unfold scO
  refine triS_of_runs Tryd.func62 rfl Tryd.ntmps62 (rs := [.tmp 2]) rfl rfl rfl 1 rfl ?_
  refine sr ?_; refine o1 (asg ?_); refine nx ?_; refine sr ?_; refine o1 (mv ?_); refine o1 (ncb ?_); refine o1 (fdb ti76 ?_); refine o1 (ldb ti9 ?_); refine o1 (asg ?_); refine nx ?_; refine runs_seq ?_; refine kp [3, 0] ?_; refine sr ?_
  refine o1 (mv ?_); refine o1 (seq1 ?_); refine o1 (mv ?_)
  apply ops_or (yt := 14) (d := 10) 4 rfl rfl rfl (.none rfl) rfl rfl
  case h1 =>
    intro hb4 hK
    have hc := hb4; (try simp only [nrm, Int.reduceEq, Int.reduceNe, Int.reduceLT, Int.reduceLE] at hc)
    refine gye ?_ (hbw := by exact hb4); refine o1 (mv ?_)
    have hw3 := hw2 hc
    refine gye ?_ (hbw := by exact hb4); refine o1 (byt ut9 ?_); refine gye ?_ (hbw := by exact hb4); refine oc (cv ca72 rfl rfl (letter_spec (byteAt w 0) hb0.1 hb0.2) (fir .nil) ?_); refine gye ?_ (hbw := by exact hb4); refine o1 (f_not ?_)
    exact hK [_, _, _, _] rfl rfl
  case h2 =>
    intro hb4 hK; refine gno ?_ (hbw := by exact hb4); refine gno ?_ (hbw := by exact hb4); refine gno ?_ (hbw := by exact hb4); refine gno ?_ (hbw := by exact hb4); exact hK [_, _, _, _] rfl
  refine nx ?_; refine cdf (fun h2 => ?_) (fun h2 => ?_)
  · (try simp only [nrm, Int.reduceEq, Int.reduceNe, Int.reduceLT, Int.reduceLE] at h2); exfalso; have h8 : isNameB w = true := (by simp only [isNameB, Bool.and_eq_true, decide_eq_true_eq]; exact ⟨h2.1, h2.2⟩); rw [hw] at h8; cases h8
  (try simp only [nrm, Int.reduceEq, Int.reduceNe, Int.reduceLT, Int.reduceLE] at h2); refine kp [3, 0] ?_; refine runs_region ?_; refine o1 (mv ?_)
  refine oc (op_callo ca58 rfl rfl rfl rfl (sfail_spec s b w pos) [0] (boc .nil) rfl rfl rfl rfl (fir .nil) (fun s ob' hq => ?_) (fun s ob' hq => ?_))
  · cases hq.1
  obtain ⟨hq1, rfl⟩ := hq; cases hq1; refine ⟨_, _, _, _, _, rfl, rfl, rfl, rfl, rfl, ?_⟩; refine leave_d ([0]) ([scO s b w pos]) rfl rfl rfl (by repeat (first | exact boz | refine boc ?_)) ?_; exact ⟨rfl, rfl⟩

theorem end_ok (s : ByteArray) (b pos : Nat) :
    Tri Tryd.prog gl 31 [scO s b .empty pos] [.blk 0 0] fun out ob' => out = .ret (.d (.tup [])) ∧ ob' = [scO s b .empty pos] := by
  unfold scO
  refine triS_of_runs Tryd.func31 rfl Tryd.ntmps31 (rs := []) rfl rfl rfl 1 rfl ?_
  refine sr ?_; refine o1 (mv ?_); refine o1 (ncb ?_); refine o1 (fdb ti76 ?_); refine o1 (ldb ti9 ?_); refine o1 (sne ?_); refine nx ?_; refine cd (fun h0 => ?_) (fun h0 => ?_)
  · (try simp only [nrm, Int.reduceEq, Int.reduceNe, Int.reduceLT, Int.reduceLE] at h0); contradiction
  (try simp only [nrm, Int.reduceEq, Int.reduceNe, Int.reduceLT, Int.reduceLE] at h0); refine runs_skip ?_; refine fin_normal ?_; refine fin_od (l := []) rfl rfl ([0]) ([scO s b .empty pos]) rfl rfl rfl ?_ ?_
  · repeat (first | exact boz | refine boc ?_)
  · exact ⟨rfl, rfl⟩
theorem end_bad (s : ByteArray) (b : Nat) (tok : ByteArray) (pos : Nat) (hw : ¬ tok = .empty) :
    Tri Tryd.prog gl 31 [scO s b tok pos] [.blk 0 0] fun out ob' => out = .pan (.d (fltD 1 pos)) ∧ ob' = [scO s b tok pos] := by
  unfold scO
  refine triS_of_runs Tryd.func31 rfl Tryd.ntmps31 (rs := []) rfl rfl rfl 1 rfl ?_
  refine sr ?_; refine o1 (mv ?_); refine o1 (ncb ?_); refine o1 (fdb ti76 ?_); refine o1 (ldb ti9 ?_); refine o1 (sne ?_); refine nx ?_; refine cdf (fun h0 => ?_) (fun h0 => ?_)
  · (try simp only [nrm, Int.reduceEq, Int.reduceNe, Int.reduceLT, Int.reduceLE] at h0); contradiction
  (try simp only [nrm, Int.reduceEq, Int.reduceNe, Int.reduceLT, Int.reduceLE] at h0); refine kp [0] ?_; refine runs_region ?_; refine o1 (mv ?_)
  refine oc (op_callo ca58 rfl rfl rfl rfl (sfail_spec s b tok pos) [0] (boc .nil) rfl rfl rfl rfl (fir .nil) (fun s ob' hq => ?_) (fun s ob' hq => ?_))
  · cases hq.1
  obtain ⟨hq1, rfl⟩ := hq; cases hq1; refine ⟨_, _, _, _, _, rfl, rfl, rfl, rfl, rfl, ?_⟩; refine leave_d ([0]) ([scO s b tok pos]) rfl rfl rfl (by repeat (first | exact boz | refine boc ?_)) ?_; exact ⟨rfl, rfl⟩
theorem new_spec (s : ByteArray) (hs : s.size ≤ 1099511627776) :
    Tri Tryd.prog gl 29 [] [.d (.v (.string s))] fun out ob' => out = .ret (.blk 0 0) ∧ ob' = [scA s 0] := by
  refine triS_of_runs Tryd.func29 rfl Tryd.ntmps29 (rs := [.tmp 2]) rfl rfl rfl 0 rfl ?_
  refine sr ?_; refine o1 (asg ?_); refine nx ?_; refine sr ?_; refine o1 (mv ?_); refine o1 (bld ti76 ?_); refine oc (T := fun _ => False) (bx ti76 ?_ (hl := by simp only [List.length_cons, List.length_nil, Nat.reduceAdd]; rfl))
  refine o1 (asg ?_); refine nx ?_; refine kp [3] ?_; refine sr ?_; refine o1 (mv ?_); refine oc (ck ca55 rfl rfl (step_spec s hs 0 (Nat.zero_le _) .empty 0) [0] rfl (boc .nil) (fir .nil) ?_); refine nx ?_; refine sr ?_; refine o1 (mv ?_)
  refine o1 (asg ?_); refine nx ?_; refine runs_ret ?_; refine fin_ret ?_; refine fin_o ⟨_, _, rfl, rfl, rfl⟩ [0] (.blk 0 0) ([scA s 0]) rfl rfl rfl ?_ rfl ?_ ?_
  · repeat (first | exact boz | refine boc ?_)
  · exact .refl _
  · exact ⟨rfl, rfl⟩
end Go.Proofs.YtneaancanfpdhaaDoor
namespace Go.Proofs.YtneaancanfpdhaaDoor
open Go Go.Vd Go.RowKit
attribute [local irreducible] Runs OpsR OpR FloatR AnyR AnyO
variable {gl : Nat → List D}

theorem step_tok {s : ByteArray} {p : Nat} (h : (tokR s p).1 ≠ .empty) : stepTok s p = (tokR s p).1 ∧ stepAt s p = (nextR s ⟨p, none⟩).2.p ∧ (nextR s ⟨p, none⟩).2.f = none := by
  have h2 : (tokR s p).2.2 = true := by
    cases h3 : (tokR s p).2.2 with
    | true => rfl
    | false => exact absurd (tokR_empty h3) h
  rw [nextR_ok h]
  unfold stepTok stepAt
  rw [if_pos h2, if_pos h2]
  exact ⟨rfl, rfl, rfl⟩
theorem step_emp {s : ByteArray} {p : Nat} (h : (tokR s p).1 = .empty) : stepTok s p = .empty ∨ stepTok s p = ⟨#[0]⟩ := by
  unfold stepTok
  split
  · exact .inl h
  · exact .inr rfl
theorem step_is {s : ByteArray} {p : Nat} {w : ByteArray} (h1 : w ≠ .empty) (h2 : w ≠ ⟨#[0]⟩) : stepTok s p = w ↔ (tokR s p).1 = w := by
  by_cases h : (tokR s p).1 = .empty
  · constructor
    · intro e; rcases step_emp h with h3 | h3
      · rw [h3] at e; exact absurd e.symm h1
      · rw [h3] at e; exact absurd e.symm h2
    · intro e; rw [h] at e; exact absurd e.symm h1
  · rw [(step_tok h).1]
theorem step_isName {s : ByteArray} {p : Nat} : isNameB (stepTok s p) = isNameB (tokR s p).1 := by
  by_cases h : (tokR s p).1 = .empty
  · rw [h]
    rcases step_emp h with h3 | h3 <;> rw [h3]
    decide +kernel
  · rw [(step_tok h).1]

/-- what a scanner's Level does, by what the reference's reader reads -/
def LvQ (s : ByteArray) (r : Lvl × RS) (out : Out) (ob' : List Ob) : Prop :=
  (r.2.f = none → out = .ret (.d r.1.d) ∧ ob' = [scA s r.2.p]) ∧ (∀ a, r.2.f = some a → out = .pan (.d (fltD 1 a)) ∧ ob' = [.dead])
theorem LvQ.ok {s : ByteArray} {r : Lvl × RS} {out : Out} {ob' : List Ob} (hf : r.2.f = none) (h : out = .ret (.d r.1.d) ∧ ob' = [scA s r.2.p]) : LvQ s r out ob' :=
  ⟨fun _ => h, fun a e => by rw [hf] at e; cases e⟩
theorem LvQ.bad {s : ByteArray} {r : Lvl × RS} {out : Out} {ob' : List Ob} {a : Nat} (hf : r.2.f = some a) (h : out = .pan (.d (fltD 1 a)) ∧ ob' = [.dead]) : LvQ s r out ob' :=
  ⟨fun e => (by rw [hf] at e; cases e), fun b e => by rw [hf] at e; cases e; exact h⟩
theorem LvQ.ret {s : ByteArray} {r : Lvl × RS} {v : SV} {ob' : List Ob} (h : LvQ s r (.ret v) ob') : r.2.f = none ∧ v = .d r.1.d ∧ ob' = [scA s r.2.p] := by
  cases hf : r.2.f with
  | none =>
    obtain ⟨h1, h2⟩ := h.1 hf
    cases h1
    exact ⟨rfl, rfl, h2⟩
  | some a => obtain ⟨h1, _⟩ := h.2 a hf; cases h1
theorem LvQ.pan {s : ByteArray} {r : Lvl × RS} {v : SV} {ob' : List Ob} (h : LvQ s r (.pan v) ob') : ∃ a, r.2.f = some a ∧ v = .d (fltD 1 a) ∧ ob' = [.dead] := by
  cases hf : r.2.f with
  | none => obtain ⟨h1, _⟩ := h.1 hf; cases h1
  | some a =>
    obtain ⟨h1, h2⟩ := h.2 a hf
    cases h1
    exact ⟨a, rfl, rfl, h2⟩

theorem stake_spec (s : ByteArray) (hs : s.size ≤ 1099511627776) (b : Nat) (hb : b ≤ s.size) (tok w : ByteArray) (pos : Nat) :
    Tri Tryd.prog gl 59 [scO s b tok pos] [.blk 0 0, .d (.v (.string w))] fun out ob' => (tok = w ∧ out = .ret (.d (.tup [])) ∧ ob' = [scA s b]) ∨ (¬ tok = w ∧ out = .pan (.d (fltD 1 pos)) ∧ ob' = [scO s b tok pos]) := by
  by_cases h : tok = w
  · subst h; exact (take_ok s hs b hb tok pos).mono fun o b hq => .inl ⟨rfl, hq⟩
  · exact (take_bad s b tok w pos h).mono fun o b hq => .inr ⟨h, hq⟩
theorem takeR_some {s w : ByteArray} {p a : Nat} : (takeR s w ⟨p, some a⟩).f = some a := by
  unfold takeR; dsimp only; split <;> rfl
theorem takeR_yes {s w : ByteArray} {p : Nat} (hw : w ≠ .empty) (h : (tokR s p).1 = w) : takeR s w ⟨p, none⟩ = ⟨stepAt s p, none⟩ := by
  have hne : (tokR s p).1 ≠ .empty := by rw [h]; exact hw
  have h2 : (tokR s p).2.2 = true := by
    cases h3 : (tokR s p).2.2 with
    | true => rfl
    | false => exact absurd (tokR_empty h3) hne
  unfold takeR stepAt; dsimp only
  rw [if_neg (by rintro (h3 | h3); rw [h2] at h3; cases h3; exact h3 h), if_pos h2]
theorem takeR_no {s w : ByteArray} {p : Nat} (h : ¬ (tokR s p).1 = w) : (takeR s w ⟨p, none⟩).f = some (tokR s p).2.1 := by
  unfold takeR; dsimp only
  rw [if_pos (.inr h)]; rfl
theorem nextR_eq {s : ByteArray} {p : Nat} (h : (tokR s p).1 ≠ .empty) : (nextR s ⟨p, none⟩).2 = ⟨stepAt s p, none⟩ := by
  obtain ⟨_, ha, hf⟩ := step_tok h
  rw [ha]
  cases hx : (nextR s ⟨p, none⟩).2 with
  | mk q f => rw [hx] at hf; simp only at hf ⊢; rw [hf]

theorem levelR_some {s : ByteArray} {p a : Nat} : ∀ n, levelR n s ⟨p, some a⟩ = (zeroL, ⟨p, some a⟩)
  | 0 => rfl
  | _ + 1 => rfl
theorem kind_one {w : ByteArray} (h : kindR w = 1) : w = ⟨#[115]⟩ := by
  unfold kindR at h
  split at h
  · assumption
  · split at h
    · cases h
    · split at h <;> cases h
theorem kind_two {w : ByteArray} (h : kindR w = 2) : w = ⟨#[109, 97, 120]⟩ := by
  unfold kindR at h
  split at h
  · cases h
  · split at h
    · assumption
    · split at h <;> cases h
theorem kind_three {w : ByteArray} (h : kindR w = 3) : w = ⟨#[105, 109, 97, 120]⟩ := by
  unfold kindR at h
  split at h
  · cases h
  · split at h
    · cases h
    · split at h
      · assumption
      · cases h

theorem slevel_spec (s : ByteArray) (hs : s.size ≤ 1099511627776) : ∀ (n p : Nat), p ≤ s.size → s.size < n + p →
    Tri Tryd.prog gl 61 [scA s p] [.blk 0 0] (LvQ s (levelR n s ⟨p, none⟩)) := by
  intro n
  induction n with
  | zero => intro p hp hn; omega
  | succ n ih =>
    intro p hp hn
    have hsl := stepAt_le hp
    by_cases c0 : (tokR s p).1 = ⟨#[48]⟩
    · have ht : stepTok s p = ⟨#[48]⟩ := (step_is (by decide) (by decide)).2 c0
      obtain ⟨_, ha, hf⟩ := step_tok (s := s) (p := p) (by rw [c0]; decide)
      rw [levelR_zero c0]
      unfold scA scO
      rw [ht]
      refine triS_of_runs Tryd.func61 rfl Tryd.ntmps61 (rs := [.cell 2 90]) rfl rfl rfl 1 rfl ?_
      refine sr ?_; refine oc (T := fun _ => False) (alc ti90 ?_ (hl := by simp only [List.length_cons, List.length_nil, Nat.reduceAdd]; rfl)); refine nx ?_; refine runs_seq ?_; refine sr ?_; refine o1 (mv ?_); refine o1 (ncb ?_)
      refine o1 (fdb ti76 ?_); refine o1 (ldb ti9 ?_); refine nx ?_; refine runs_block ?_; refine sr ?_; refine o1 (seq1 ?_); refine o1 (asg ?_); refine nx ?_; refine cdf (fun h2 => ?_) (fun h2 => ?_)
      · simp only [nrm, Int.reduceEq, Int.reduceNe, Int.reduceLT, Int.reduceLE] at h2
      (try simp only [nrm, Int.reduceEq, Int.reduceNe, Int.reduceLT, Int.reduceLE] at h2); refine kp [2, 0] ?_; refine sr ?_; refine o1 (mv ?_)
      refine oc (ck ca55 rfl rfl (step_spec s hs (stepAt s p) hsl.2 ⟨#[48]⟩ (tokR s p).2.1) [0] rfl (boc .nil) (fir .nil) ?_); refine nx ?_; refine sr ?_; refine o1 (bld ti90 ?_); refine oc (sto ti90 ?_); refine nx ?_; refine runs_ret ?_
      refine inb_ret ?_; refine seq_ret ?_; refine fin_ret ?_
      refine fin_odl ⟨_, _, rfl, (from_cell rfl rfl ti90 rfl rfl rfl rfl), rfl⟩ rfl (zeroL.d) (by repeat (first | exact .refl _ | exact .nil | refine .agg ?_ | refine .cons ?_ ?_)) ([0]) ([scA s (stepAt s p)]) rfl rfl rfl ?_ ?_
      · repeat (first | exact boz | refine boc ?_)
      · exact LvQ.ok hf ⟨rfl, by rw [ha]⟩
    have c0' : ¬ stepTok s p = ⟨#[48]⟩ := fun e => c0 ((step_is (by decide) (by decide)).1 e)
    cases c1 : isNameB (tokR s p).1 with
    | true =>
      have hne : (tokR s p).1 ≠ .empty := by
        intro e; rw [e] at c1; simp [isNameB] at c1
      obtain ⟨ht, ha, hf⟩ := step_tok hne
      have c2' : ¬ stepTok s p = ⟨#[40]⟩ := by
        intro e; rw [ht] at e; rw [e] at c1; exact absurd c1 (by decide +kernel)
      rw [levelR_name c0 c1]
      rw [← ht] at c1
      unfold scA scO
      refine triS_of_runs Tryd.func61 rfl Tryd.ntmps61 (rs := [.cell 2 90]) rfl rfl rfl 1 rfl ?_
      refine sr ?_; refine oc (T := fun _ => False) (alc ti90 ?_ (hl := by simp only [List.length_cons, List.length_nil, Nat.reduceAdd]; rfl)); refine nx ?_; refine runs_seq ?_; refine sr ?_; refine o1 (mv ?_); refine o1 (ncb ?_)
      refine o1 (fdb ti76 ?_); refine o1 (ldb ti9 ?_); refine nx ?_; refine runs_block ?_; refine sr ?_; refine o1 (seq1 ?_); refine o1 (asg ?_); refine nx ?_; refine cd (fun h2 => ?_) (fun h2 => ?_)
      · (try simp only [nrm, Int.reduceEq, Int.reduceNe, Int.reduceLT, Int.reduceLE] at h2); contradiction
      (try simp only [nrm, Int.reduceEq, Int.reduceNe, Int.reduceLT, Int.reduceLE] at h2); refine kp [7, 2, 0] ?_; refine sr ?_; refine o1 (seq1 ?_); refine o1 (asg ?_); refine nx ?_; refine cd (fun h5 => ?_) (fun h5 => ?_)
      · (try simp only [nrm, Int.reduceEq, Int.reduceNe, Int.reduceLT, Int.reduceLE] at h5); contradiction
      (try simp only [nrm, Int.reduceEq, Int.reduceNe, Int.reduceLT, Int.reduceLE] at h5); refine runs_skip ?_; refine inb_normal ?_; refine seq_normal ?_; refine sr ?_; refine o1 (mv ?_)
      refine oc (ck ca62 rfl rfl (name_ok s hs (stepAt s p) hsl.2 (stepTok s p) (tokR s p).2.1 c1) [0] rfl (boc .nil) (fir .nil) ?_); refine o1 (bld ti90 ?_); refine oc (sto ti90 ?_); refine nx ?_; refine runs_ret ?_; refine fin_ret ?_
      refine fin_odl ⟨_, _, rfl, (from_cell rfl rfl ti90 rfl rfl rfl rfl), rfl⟩ rfl ((Lvl.mk 4 (stepTok s p) []).d) (by repeat (first | exact .refl _ | exact .nil | refine .agg ?_ | refine .cons ?_ ?_)) ([0]) ([scA s (stepAt s p)]) rfl rfl rfl ?_ ?_
      · repeat (first | exact boz | refine boc ?_)
      · exact LvQ.ok hf ⟨by rw [ht], by rw [ha]⟩
    | false =>
      by_cases c2 : (tokR s p).1 = ⟨#[40]⟩
      · have hne : (tokR s p).1 ≠ .empty := by rw [c2]; decide
        have ht : stepTok s p = ⟨#[40]⟩ := (step_is (by decide) (by decide)).2 c2
        have e1 := nextR_eq hne
        rcases kindR_case (tokR s (stepAt s p)).1 with hk | ⟨hk, hne2⟩
        · rw [levelR_kind c0 c1 c2 (by rw [e1]; exact hk), e1]
          have k1 : ∀ w, kindR w ≠ 0 → w ≠ .empty → w ≠ ⟨#[0]⟩ → ¬ stepTok s (stepAt s p) = w := fun w h1 h2 h3 e => by
            rw [(step_is h2 h3).1 e] at hk; exact h1 hk
          unfold scA scO
          rw [ht]
          refine triS_of_runs Tryd.func61 rfl Tryd.ntmps61 (rs := [.cell 2 90]) rfl rfl rfl 1 rfl ?_
          refine sr ?_; refine oc (T := fun _ => False) (alc ti90 ?_ (hl := by simp only [List.length_cons, List.length_nil, Nat.reduceAdd]; rfl)); refine nx ?_; refine runs_seq ?_; refine sr ?_; refine o1 (mv ?_); refine o1 (ncb ?_)
          refine o1 (fdb ti76 ?_); refine o1 (ldb ti9 ?_); refine nx ?_; refine runs_block ?_; refine sr ?_; refine o1 (seq1 ?_); refine o1 (asg ?_); refine nx ?_; refine cd (fun h2 => ?_) (fun h2 => ?_)
          · (try simp only [nrm, Int.reduceEq, Int.reduceNe, Int.reduceLT, Int.reduceLE] at h2); contradiction
          (try simp only [nrm, Int.reduceEq, Int.reduceNe, Int.reduceLT, Int.reduceLE] at h2); refine kp [7, 2, 0] ?_; refine sr ?_; refine o1 (seq1 ?_); refine o1 (asg ?_); refine nx ?_; refine cdf (fun h5 => ?_) (fun h5 => ?_)
          · simp only [nrm, Int.reduceEq, Int.reduceNe, Int.reduceLT, Int.reduceLE] at h5
          (try simp only [nrm, Int.reduceEq, Int.reduceNe, Int.reduceLT, Int.reduceLE] at h5); refine sr ?_; refine o1 (mv ?_); refine oc (ck ca55 rfl rfl (step_spec s hs (stepAt s p) hsl.2 ⟨#[40]⟩ (tokR s p).2.1) [0] rfl (boc .nil) (fir .nil) ?_)
          refine nx ?_; refine kp [2, 0] ?_; refine sr ?_; refine oc (T := fun _ => False) (alc ti90 ?_ (hl := by simp only [List.length_cons, List.length_nil, Nat.reduceAdd]; rfl)); refine nx ?_; refine runs_seq ?_; refine sr ?_; refine o1 (mv ?_)
          refine o1 (ncb ?_); refine o1 (fdb ti76 ?_); refine o1 (ldb ti9 ?_); refine nx ?_; refine runs_block ?_; refine sr ?_; refine o1 (seq1 ?_); refine o1 (asg ?_); refine nx ?_; refine cd (fun h10 => ?_) (fun h10 => ?_)
          · (try simp only [nrm, Int.reduceEq, Int.reduceNe, Int.reduceLT, Int.reduceLE] at h10); exfalso; exact k1 _ (by decide) (by decide) (by decide) h10
          (try simp only [nrm, Int.reduceEq, Int.reduceNe, Int.reduceLT, Int.reduceLE] at h10); refine kp [20, 3, 2, 0] ?_; refine sr ?_; refine o1 (seq1 ?_); refine o1 (asg ?_); refine nx ?_; refine cd (fun h12 => ?_) (fun h12 => ?_)
          · (try simp only [nrm, Int.reduceEq, Int.reduceNe, Int.reduceLT, Int.reduceLE] at h12); exfalso; exact k1 _ (by decide) (by decide) (by decide) h12
          (try simp only [nrm, Int.reduceEq, Int.reduceNe, Int.reduceLT, Int.reduceLE] at h12); refine sr ?_; refine o1 (seq1 ?_); refine o1 (asg ?_); refine nx ?_; refine cd (fun h14 => ?_) (fun h14 => ?_)
          · (try simp only [nrm, Int.reduceEq, Int.reduceNe, Int.reduceLT, Int.reduceLE] at h14); exfalso; exact k1 _ (by decide) (by decide) (by decide) h14
          (try simp only [nrm, Int.reduceEq, Int.reduceNe, Int.reduceLT, Int.reduceLE] at h14); refine kp [3, 2, 0] ?_; refine runs_region ?_; refine o1 (mv ?_)
          refine oc (op_callo ca58 rfl rfl rfl rfl (sfail_spec s (stepAt s (stepAt s p)) (stepTok s (stepAt s p)) (tokR s (stepAt s p)).2.1) [0] (boc .nil) rfl rfl rfl rfl (fir .nil) (fun s ob' hq => ?_) (fun s ob' hq => ?_))
          · cases hq.1
          obtain ⟨hq1, rfl⟩ := hq; cases hq1; refine ⟨_, _, _, _, _, rfl, rfl, rfl, rfl, rfl, ?_⟩; refine leave_d ([0]) ([.dead]) rfl rfl rfl (by repeat (first | exact boz | refine bod ?_)) ?_
          exact LvQ.bad (a := (tokR s (stepAt s p)).2.1) rfl ⟨rfl, rfl⟩
        · have e2 := nextR_eq hne2
          have hl2 := stepAt_le hsl.2
          have hl1 : p < stepAt s p := by
            have h7 := tokR_at (s := s) hp
            have h8 := size_pos_of_ne hne
            have h9 := step_tok hne
            rw [h9.2.1, nextR_ok hne]; simp only; omega
          have ih1 := ih (stepAt s (stepAt s p)) hl2.2 (by omega)
          have hle1 := levelR_le (s := s) n (r := ⟨stepAt s (stepAt s p), none⟩) hl2.2
          rcases hk with hk | hk | hk
          · rw [levelR_one c0 c1 c2 (by rw [e1]; exact hk), e1, e2]
            have t2 : stepTok s (stepAt s p) = ⟨#[115]⟩ := (step_is (by decide) (by decide)).2 (kind_one hk)
            rcases hla : levelR n s ⟨stepAt s (stepAt s p), none⟩ with ⟨la, pa, fa⟩
            rw [hla] at ih1 hle1
            obtain ⟨ka, na, aa⟩ := la
            simp only at hle1
            unfold scA scO
            unfold scA scO at ih1
            rw [ht]
            refine triS_of_runs Tryd.func61 rfl Tryd.ntmps61 (rs := [.cell 2 90]) rfl rfl rfl 1 rfl ?_
            refine sr ?_; refine oc (T := fun _ => False) (alc ti90 ?_ (hl := by simp only [List.length_cons, List.length_nil, Nat.reduceAdd]; rfl)); refine nx ?_; refine runs_seq ?_; refine sr ?_; refine o1 (mv ?_); refine o1 (ncb ?_)
            refine o1 (fdb ti76 ?_); refine o1 (ldb ti9 ?_); refine nx ?_; refine runs_block ?_; refine sr ?_; refine o1 (seq1 ?_); refine o1 (asg ?_); refine nx ?_; refine cd (fun h2 => ?_) (fun h2 => ?_)
            · (try simp only [nrm, Int.reduceEq, Int.reduceNe, Int.reduceLT, Int.reduceLE] at h2); contradiction
            (try simp only [nrm, Int.reduceEq, Int.reduceNe, Int.reduceLT, Int.reduceLE] at h2); refine kp [7, 2, 0] ?_; refine sr ?_; refine o1 (seq1 ?_); refine o1 (asg ?_); refine nx ?_; refine cdf (fun h5 => ?_) (fun h5 => ?_)
            · simp only [nrm, Int.reduceEq, Int.reduceNe, Int.reduceLT, Int.reduceLE] at h5
            (try simp only [nrm, Int.reduceEq, Int.reduceNe, Int.reduceLT, Int.reduceLE] at h5); refine sr ?_; refine o1 (mv ?_)
            refine oc (op_callo ca55 rfl rfl rfl rfl (step_spec s hs (stepAt s p) hsl.2 ⟨#[40]⟩ (tokR s p).2.1) [0] (boc .nil) rfl rfl rfl rfl (fir .nil) (fun s ob' hq => ?_) (fun s ob' hq => ?_))
            rotate_left
            · first | exact hq.elim | cases hq.1
            obtain ⟨hq1, rfl⟩ := hq; cases hq1
            unfold scO
            rw [t2]
            refine ⟨_, _, _, _, _, rfl, rfl, rfl, rfl, rfl, ?_⟩; refine nx ?_; refine kp [2, 0] ?_; refine sr ?_; refine oc (T := fun _ => False) (alc ti90 ?_ (hl := by simp only [List.length_cons, List.length_nil, Nat.reduceAdd]; rfl)); refine nx ?_
            refine runs_seq ?_; refine sr ?_; refine o1 (mv ?_); refine o1 (ncb ?_); refine o1 (fdb ti76 ?_); refine o1 (ldb ti9 ?_); refine nx ?_; refine runs_block ?_; refine sr ?_; refine o1 (seq1 ?_); refine o1 (asg ?_); refine nx ?_
            refine cdf (fun h10 => ?_) (fun h10 => ?_)
            · simp only [nrm, Int.reduceEq, Int.reduceNe, Int.reduceLT, Int.reduceLE] at h10
            (try simp only [nrm, Int.reduceEq, Int.reduceNe, Int.reduceLT, Int.reduceLE] at h10); refine kp [3, 2, 0] ?_; refine runs_region ?_; refine o1 (fdb ti90 ?_); refine oc (sto ti3 ?_); refine ops_nil ?_; refine inb_normal ?_
            refine seq_normal ?_; refine sr ?_; refine o1 (mv ?_); refine oc (ck ca55 rfl rfl (step_spec s hs (stepAt s (stepAt s p)) hl2.2 ⟨#[115]⟩ (tokR s (stepAt s p)).2.1) [0] rfl (boc .nil) (fir .nil) ?_); refine nx ?_; refine runs_seq ?_
            skip
            refine a_start ?_ (hm := by exact mixed); refine A1 0 rfl (fdb ti90 ⟨_, rfl, ?_⟩); refine A1 1 rfl (ldb ti26 ⟨_, rfl, ?_⟩); refine A1 2 rfl (mv ⟨_, rfl, ?_⟩)
            refine A2 3 rfl (op_callo ca61 rfl rfl rfl rfl (ih1) [0] (boc .nil) rfl rfl rfl rfl (fir .nil) (fun s ob' hq => ?_) (fun s ob' hq => ?_))
            rotate_left
            · obtain ⟨a, hfa, rfl, rfl⟩ := hq.pan
              refine ⟨_, _, _, _, _, rfl, rfl, rfl, rfl, rfl, ?_⟩; refine leave_d ([0]) ([.dead]) rfl rfl rfl (by repeat (first | exact boz | refine bod ?_)) ?_
              simp only at hfa; subst hfa; exact LvQ.bad takeR_some ⟨rfl, rfl⟩
            obtain ⟨hfa, rfl, rfl⟩ := hq.ret; simp only at hfa; subst hfa; refine ⟨_, _, _, _, _, rfl, rfl, rfl, rfl, rfl, ?_⟩
            refine A2 (T := fun _ => False) 4 rfl (op_lit sl26 [.tmp 37] ti90 rfl rfl rfl rfl rfl rfl rfl (by decide) (by decide) (by decide) (by simp only [List.length_cons, List.length_nil, Nat.reduceAdd]; rfl) rfl ?_)
            refine A2 (T := fun _ => False) 5 rfl (op_append_nil sl26 rfl rfl rfl rfl rfl rfl (by simp only [List.length_cons, List.length_nil, Nat.reduceAdd]; rfl) rfl rfl (by decide) (by simp) (by first | decide | (simp only [maxLen, List.length_cons, List.length_nil, List.length_append, List.length_map]; omega) | omega) rfl rfl rfl ?_)
            refine A1 6 rfl (fdb ti90 ⟨_, rfl, ?_⟩); refine A2 7 rfl (sto ti26 ?_); refine a_end ?_; refine seq_normal ?_; refine runs_seq ?_; refine kp [3, 2, 0] ?_; refine sr ?_; refine o1 (fdb ti90 ?_); refine o1 (ldb ti3 ?_); refine o1 (ine ?_)
            refine nx ?_; refine cd (fun h18 => ?_) (fun h18 => ?_)
            · simp only [nrm, Int.reduceEq, Int.reduceNe, Int.reduceLT, Int.reduceLE] at h18
            (try simp only [nrm, Int.reduceEq, Int.reduceNe, Int.reduceLT, Int.reduceLE] at h18); refine runs_skip ?_; refine seq_normal ?_; refine sr ?_; refine o1 (mv ?_)
            refine oc (op_callo ca59 rfl rfl rfl rfl (stake_spec s hs (stepAt s pa) (stepAt_le hle1.2).2 (stepTok s pa) ⟨#[41]⟩ (tokR s pa).2.1) [0] (boc .nil) rfl rfl rfl rfl (fir (fir .nil)) (fun s ob' hq => ?_) (fun s ob' hq => ?_))
            rotate_left
            · rcases hq with ⟨_, hq1, _⟩ | ⟨htk, hq1, rfl⟩
              · cases hq1
              cases hq1; refine ⟨_, _, _, _, _, rfl, rfl, rfl, rfl, rfl, ?_⟩; refine leave_d ([0]) ([.dead]) rfl rfl rfl (by repeat (first | exact boz | refine bod ?_)) ?_
              exact LvQ.bad (takeR_no fun e => htk ((step_is (by decide) (by decide)).2 e)) ⟨rfl, rfl⟩
            rcases hq with ⟨htk, hq1, rfl⟩ | ⟨_, hq1, _⟩
            rotate_left
            · cases hq1
            cases hq1; refine ⟨_, _, _, _, _, rfl, rfl, rfl, rfl, rfl, ?_⟩; refine nx ?_; refine kp [3, 2] ?_; refine sr ?_; refine o1 (ldb ti90 ?_); refine oc (sto ti90 ?_); refine nx ?_; refine runs_ret ?_; refine inb_ret ?_; refine seq_ret ?_
            refine fin_ret ?_; refine fin_odl ⟨_, _, rfl, (from_cell rfl rfl ti90 rfl rfl rfl rfl), rfl⟩ rfl ((Lvl.mk 1 .empty [.mk ka na aa]).d) (by exact .refl _) ([0]) ([scA s (stepAt s pa)]) rfl rfl rfl ?_ ?_
            · repeat (first | exact boz | refine boc ?_)
            · rw [takeR_yes (by decide) ((step_is (by decide) (by decide)).1 htk)]
              exact LvQ.ok rfl ⟨rfl, rfl⟩
          · rw [levelR_two c0 c1 c2 (by rw [e1]; simp only [hk]; decide) (by rw [e1]; simp only [hk]; decide), e1, e2, hk]
            have t2 : stepTok s (stepAt s p) = ⟨#[109, 97, 120]⟩ := (step_is (by decide) (by decide)).2 (kind_two hk)
            rcases hla : levelR n s ⟨stepAt s (stepAt s p), none⟩ with ⟨la, pa, fa⟩
            rw [hla] at ih1 hle1
            obtain ⟨ka, na, aa⟩ := la
            simp only at hle1
            have ih2 := fun h => ih pa hle1.2 h
            have hle2 := levelR_le (s := s) n (r := ⟨pa, none⟩) hle1.2
            unfold scA scO
            unfold scA scO at ih1 ih2
            rw [ht]
            refine triS_of_runs Tryd.func61 rfl Tryd.ntmps61 (rs := [.cell 2 90]) rfl rfl rfl 1 rfl ?_
            refine sr ?_; refine oc (T := fun _ => False) (alc ti90 ?_ (hl := by simp only [List.length_cons, List.length_nil, Nat.reduceAdd]; rfl)); refine nx ?_; refine runs_seq ?_; refine sr ?_; refine o1 (mv ?_); refine o1 (ncb ?_)
            refine o1 (fdb ti76 ?_); refine o1 (ldb ti9 ?_); refine nx ?_; refine runs_block ?_; refine sr ?_; refine o1 (seq1 ?_); refine o1 (asg ?_); refine nx ?_; refine cd (fun h2 => ?_) (fun h2 => ?_)
            · (try simp only [nrm, Int.reduceEq, Int.reduceNe, Int.reduceLT, Int.reduceLE] at h2); contradiction
            (try simp only [nrm, Int.reduceEq, Int.reduceNe, Int.reduceLT, Int.reduceLE] at h2); refine kp [7, 2, 0] ?_; refine sr ?_; refine o1 (seq1 ?_); refine o1 (asg ?_); refine nx ?_; refine cdf (fun h5 => ?_) (fun h5 => ?_)
            · simp only [nrm, Int.reduceEq, Int.reduceNe, Int.reduceLT, Int.reduceLE] at h5
            (try simp only [nrm, Int.reduceEq, Int.reduceNe, Int.reduceLT, Int.reduceLE] at h5); refine sr ?_; refine o1 (mv ?_)
            refine oc (op_callo ca55 rfl rfl rfl rfl (step_spec s hs (stepAt s p) hsl.2 ⟨#[40]⟩ (tokR s p).2.1) [0] (boc .nil) rfl rfl rfl rfl (fir .nil) (fun s ob' hq => ?_) (fun s ob' hq => ?_))
            rotate_left
            · first | exact hq.elim | cases hq.1
            obtain ⟨hq1, rfl⟩ := hq; cases hq1
            unfold scO
            rw [t2]
            refine ⟨_, _, _, _, _, rfl, rfl, rfl, rfl, rfl, ?_⟩; refine nx ?_; refine kp [2, 0] ?_; refine sr ?_; refine oc (T := fun _ => False) (alc ti90 ?_ (hl := by simp only [List.length_cons, List.length_nil, Nat.reduceAdd]; rfl)); refine nx ?_
            refine runs_seq ?_; refine sr ?_; refine o1 (mv ?_); refine o1 (ncb ?_); refine o1 (fdb ti76 ?_); refine o1 (ldb ti9 ?_); refine nx ?_; refine runs_block ?_; refine sr ?_; refine o1 (seq1 ?_); refine o1 (asg ?_); refine nx ?_
            refine cd (fun h10 => ?_) (fun h10 => ?_)
            · (try simp only [nrm, Int.reduceEq, Int.reduceNe, Int.reduceLT, Int.reduceLE] at h10); contradiction
            (try simp only [nrm, Int.reduceEq, Int.reduceNe, Int.reduceLT, Int.reduceLE] at h10); refine kp [20, 3, 2, 0] ?_; refine sr ?_; refine o1 (seq1 ?_); refine o1 (asg ?_); refine nx ?_; refine cdf (fun h12 => ?_) (fun h12 => ?_)
            · simp only [nrm, Int.reduceEq, Int.reduceNe, Int.reduceLT, Int.reduceLE] at h12
            (try simp only [nrm, Int.reduceEq, Int.reduceNe, Int.reduceLT, Int.reduceLE] at h12); refine runs_region ?_; refine o1 (fdb ti90 ?_); refine oc (sto ti3 ?_); refine ops_nil ?_; refine inb_normal ?_; refine seq_normal ?_
            refine kp [3, 2, 0] ?_; refine sr ?_; refine o1 (mv ?_); refine oc (ck ca55 rfl rfl (step_spec s hs (stepAt s (stepAt s p)) hl2.2 ⟨#[109, 97, 120]⟩ (tokR s (stepAt s p)).2.1) [0] rfl (boc .nil) (fir .nil) ?_); refine nx ?_
            refine runs_seq ?_; refine a_start ?_ (hm := by exact mixed); refine A1 0 rfl (fdb ti90 ⟨_, rfl, ?_⟩); refine A1 1 rfl (ldb ti26 ⟨_, rfl, ?_⟩); refine A1 2 rfl (mv ⟨_, rfl, ?_⟩)
            refine A2 3 rfl (op_callo ca61 rfl rfl rfl rfl (ih1) [0] (boc .nil) rfl rfl rfl rfl (fir .nil) (fun s ob' hq => ?_) (fun s ob' hq => ?_))
            rotate_left
            · obtain ⟨a, hfa, rfl, rfl⟩ := hq.pan
              refine ⟨_, _, _, _, _, rfl, rfl, rfl, rfl, rfl, ?_⟩; refine leave_d ([0]) ([.dead]) rfl rfl rfl (by repeat (first | exact boz | refine bod ?_)) ?_
              simp only at hfa; subst hfa; rw [levelR_some]; exact LvQ.bad takeR_some ⟨rfl, rfl⟩
            obtain ⟨hfa, rfl, rfl⟩ := hq.ret; simp only at hfa; subst hfa; refine ⟨_, _, _, _, _, rfl, rfl, rfl, rfl, rfl, ?_⟩
            refine A2 (T := fun _ => False) 4 rfl (op_lit sl26 [.tmp 37] ti90 rfl rfl rfl rfl rfl rfl rfl (by decide) (by decide) (by decide) (by simp only [List.length_cons, List.length_nil, Nat.reduceAdd]; rfl) rfl ?_)
            refine A2 (T := fun _ => False) 5 rfl (op_append_nil sl26 rfl rfl rfl rfl rfl rfl (by simp only [List.length_cons, List.length_nil, Nat.reduceAdd]; rfl) rfl rfl (by decide) (by simp) (by first | decide | (simp only [maxLen, List.length_cons, List.length_nil, List.length_append, List.length_map]; omega) | omega) rfl rfl rfl ?_)
            refine A1 6 rfl (fdb ti90 ⟨_, rfl, ?_⟩); refine A2 7 rfl (sto ti26 ?_); refine a_end ?_; refine seq_normal ?_; refine runs_seq ?_; refine kp [3, 2, 0] ?_; refine sr ?_; refine o1 (fdb ti90 ?_); refine o1 (ldb ti3 ?_); refine o1 (ine ?_)
            refine nx ?_; refine cdf (fun h18 => ?_) (fun h18 => ?_)
            · simp only [nrm, Int.reduceEq, Int.reduceNe, Int.reduceLT, Int.reduceLE] at h18
            (try simp only [nrm, Int.reduceEq, Int.reduceNe, Int.reduceLT, Int.reduceLE] at h18)
            have ih3 := ih2 (by omega)
            rcases hlb : levelR n s ⟨pa, none⟩ with ⟨lb, pb, fb⟩
            rw [hlb] at ih3 hle2
            obtain ⟨kb, nb, ab⟩ := lb
            simp only at hle2
            refine a_start ?_ (hm := by exact mixed); refine A1 0 rfl (fdb ti90 ⟨_, rfl, ?_⟩); refine A1 1 rfl (ldb ti26 ⟨_, rfl, ?_⟩); refine A1 2 rfl (mv ⟨_, rfl, ?_⟩)
            refine A2 3 rfl (op_callo ca61 rfl rfl rfl rfl (ih3) [0] (boc .nil) rfl rfl rfl rfl (fir .nil) (fun s ob' hq => ?_) (fun s ob' hq => ?_))
            rotate_left
            · obtain ⟨a, hfa, rfl, rfl⟩ := hq.pan
              refine ⟨_, _, _, _, _, rfl, rfl, rfl, rfl, rfl, ?_⟩; refine leave_d ([0]) ([.dead]) rfl rfl rfl (by repeat (first | exact boz | refine bod ?_)) ?_
              simp only at hfa; subst hfa; exact LvQ.bad takeR_some ⟨rfl, rfl⟩
            obtain ⟨hfb, rfl, rfl⟩ := hq.ret; simp only at hfb; subst hfb; refine ⟨_, _, _, _, _, rfl, rfl, rfl, rfl, rfl, ?_⟩
            refine A2 (T := fun _ => False) 4 rfl (op_lit sl26 [.tmp 47] ti90 rfl rfl rfl rfl rfl rfl rfl (by decide) (by decide) (by decide) (by simp only [List.length_cons, List.length_nil, Nat.reduceAdd]; rfl) rfl ?_)
            refine A2 5 rfl (op_append sl26 rfl rfl rfl rfl rfl rfl rfl (.inl rfl) (by decide) (by simp) (by first | decide | (simp only [maxLen, List.length_cons, List.length_nil, List.length_append, List.length_map]; omega) | omega) rfl rfl rfl ?_)
            refine A1 6 rfl (fdb ti90 ⟨_, rfl, ?_⟩); refine A2 7 rfl (sto ti26 ?_); refine a_end ?_; refine seq_normal ?_; refine kp [3, 2, 0] ?_; refine sr ?_; refine o1 (mv ?_)
            refine oc (op_callo ca59 rfl rfl rfl rfl (stake_spec s hs (stepAt s pb) (stepAt_le hle2.2).2 (stepTok s pb) ⟨#[41]⟩ (tokR s pb).2.1) [0] (boc .nil) rfl rfl rfl rfl (fir (fir .nil)) (fun s ob' hq => ?_) (fun s ob' hq => ?_))
            rotate_left
            · rcases hq with ⟨_, hq1, _⟩ | ⟨htk, hq1, rfl⟩
              · cases hq1
              cases hq1; refine ⟨_, _, _, _, _, rfl, rfl, rfl, rfl, rfl, ?_⟩; refine leave_d ([0]) ([.dead]) rfl rfl rfl (by repeat (first | exact boz | refine bod ?_)) ?_
              exact LvQ.bad (takeR_no fun e => htk ((step_is (by decide) (by decide)).2 e)) ⟨rfl, rfl⟩
            rcases hq with ⟨htk, hq1, rfl⟩ | ⟨_, hq1, _⟩
            rotate_left
            · cases hq1
            cases hq1; refine ⟨_, _, _, _, _, rfl, rfl, rfl, rfl, rfl, ?_⟩; refine nx ?_; refine sr ?_; refine o1 (ldb ti90 ?_); refine oc (sto ti90 ?_); refine nx ?_; refine runs_ret ?_; refine inb_ret ?_; refine seq_ret ?_; refine fin_ret ?_
            refine fin_odl ⟨_, _, rfl, (from_cell rfl rfl ti90 rfl rfl rfl rfl), rfl⟩ rfl ((Lvl.mk 2 .empty [.mk ka na aa, .mk kb nb ab]).d) (by exact .refl _) ([0]) ([scA s (stepAt s pb)]) rfl rfl rfl ?_ ?_
            · repeat (first | exact boz | refine boc ?_)
            · rw [takeR_yes (by decide) ((step_is (by decide) (by decide)).1 htk)]
              exact LvQ.ok rfl ⟨rfl, rfl⟩
          · rw [levelR_two c0 c1 c2 (by rw [e1]; simp only [hk]; decide) (by rw [e1]; simp only [hk]; decide), e1, e2, hk]
            have t2 : stepTok s (stepAt s p) = ⟨#[105, 109, 97, 120]⟩ := (step_is (by decide) (by decide)).2 (kind_three hk)
            rcases hla : levelR n s ⟨stepAt s (stepAt s p), none⟩ with ⟨la, pa, fa⟩
            rw [hla] at ih1 hle1
            obtain ⟨ka, na, aa⟩ := la
            simp only at hle1
            have ih2 := fun h => ih pa hle1.2 h
            have hle2 := levelR_le (s := s) n (r := ⟨pa, none⟩) hle1.2
            unfold scA scO
            unfold scA scO at ih1 ih2
            rw [ht]
            refine triS_of_runs Tryd.func61 rfl Tryd.ntmps61 (rs := [.cell 2 90]) rfl rfl rfl 1 rfl ?_
            refine sr ?_; refine oc (T := fun _ => False) (alc ti90 ?_ (hl := by simp only [List.length_cons, List.length_nil, Nat.reduceAdd]; rfl)); refine nx ?_; refine runs_seq ?_; refine sr ?_; refine o1 (mv ?_); refine o1 (ncb ?_)
            refine o1 (fdb ti76 ?_); refine o1 (ldb ti9 ?_); refine nx ?_; refine runs_block ?_; refine sr ?_; refine o1 (seq1 ?_); refine o1 (asg ?_); refine nx ?_; refine cd (fun h2 => ?_) (fun h2 => ?_)
            · (try simp only [nrm, Int.reduceEq, Int.reduceNe, Int.reduceLT, Int.reduceLE] at h2); contradiction
            (try simp only [nrm, Int.reduceEq, Int.reduceNe, Int.reduceLT, Int.reduceLE] at h2); refine kp [7, 2, 0] ?_; refine sr ?_; refine o1 (seq1 ?_); refine o1 (asg ?_); refine nx ?_; refine cdf (fun h5 => ?_) (fun h5 => ?_)
            · simp only [nrm, Int.reduceEq, Int.reduceNe, Int.reduceLT, Int.reduceLE] at h5
            (try simp only [nrm, Int.reduceEq, Int.reduceNe, Int.reduceLT, Int.reduceLE] at h5); refine sr ?_; refine o1 (mv ?_)
            refine oc (op_callo ca55 rfl rfl rfl rfl (step_spec s hs (stepAt s p) hsl.2 ⟨#[40]⟩ (tokR s p).2.1) [0] (boc .nil) rfl rfl rfl rfl (fir .nil) (fun s ob' hq => ?_) (fun s ob' hq => ?_))
            rotate_left
            · first | exact hq.elim | cases hq.1
            obtain ⟨hq1, rfl⟩ := hq; cases hq1
            unfold scO
            rw [t2]
            refine ⟨_, _, _, _, _, rfl, rfl, rfl, rfl, rfl, ?_⟩; refine nx ?_; refine kp [2, 0] ?_; refine sr ?_; refine oc (T := fun _ => False) (alc ti90 ?_ (hl := by simp only [List.length_cons, List.length_nil, Nat.reduceAdd]; rfl)); refine nx ?_
            refine runs_seq ?_; refine sr ?_; refine o1 (mv ?_); refine o1 (ncb ?_); refine o1 (fdb ti76 ?_); refine o1 (ldb ti9 ?_); refine nx ?_; refine runs_block ?_; refine sr ?_; refine o1 (seq1 ?_); refine o1 (asg ?_); refine nx ?_
            refine cd (fun h10 => ?_) (fun h10 => ?_)
            · (try simp only [nrm, Int.reduceEq, Int.reduceNe, Int.reduceLT, Int.reduceLE] at h10); contradiction
            (try simp only [nrm, Int.reduceEq, Int.reduceNe, Int.reduceLT, Int.reduceLE] at h10); refine kp [20, 3, 2, 0] ?_; refine sr ?_; refine o1 (seq1 ?_); refine o1 (asg ?_); refine nx ?_; refine cd (fun h12 => ?_) (fun h12 => ?_)
            · (try simp only [nrm, Int.reduceEq, Int.reduceNe, Int.reduceLT, Int.reduceLE] at h12); contradiction
            (try simp only [nrm, Int.reduceEq, Int.reduceNe, Int.reduceLT, Int.reduceLE] at h12); refine sr ?_; refine o1 (seq1 ?_); refine o1 (asg ?_); refine nx ?_; refine cdf (fun h14 => ?_) (fun h14 => ?_)
            · simp only [nrm, Int.reduceEq, Int.reduceNe, Int.reduceLT, Int.reduceLE] at h14
            (try simp only [nrm, Int.reduceEq, Int.reduceNe, Int.reduceLT, Int.reduceLE] at h14); refine kp [3, 2, 0] ?_; refine runs_region ?_; refine o1 (fdb ti90 ?_); refine oc (sto ti3 ?_); refine ops_nil ?_; refine inb_normal ?_
            refine seq_normal ?_; refine sr ?_; refine o1 (mv ?_); refine oc (ck ca55 rfl rfl (step_spec s hs (stepAt s (stepAt s p)) hl2.2 ⟨#[105, 109, 97, 120]⟩ (tokR s (stepAt s p)).2.1) [0] rfl (boc .nil) (fir .nil) ?_); refine nx ?_
            refine runs_seq ?_; refine a_start ?_ (hm := by exact mixed); refine A1 0 rfl (fdb ti90 ⟨_, rfl, ?_⟩); refine A1 1 rfl (ldb ti26 ⟨_, rfl, ?_⟩); refine A1 2 rfl (mv ⟨_, rfl, ?_⟩)
            refine A2 3 rfl (op_callo ca61 rfl rfl rfl rfl (ih1) [0] (boc .nil) rfl rfl rfl rfl (fir .nil) (fun s ob' hq => ?_) (fun s ob' hq => ?_))
            rotate_left
            · obtain ⟨a, hfa, rfl, rfl⟩ := hq.pan
              refine ⟨_, _, _, _, _, rfl, rfl, rfl, rfl, rfl, ?_⟩; refine leave_d ([0]) ([.dead]) rfl rfl rfl (by repeat (first | exact boz | refine bod ?_)) ?_
              simp only at hfa; subst hfa; rw [levelR_some]; exact LvQ.bad takeR_some ⟨rfl, rfl⟩
            obtain ⟨hfa, rfl, rfl⟩ := hq.ret; simp only at hfa; subst hfa; refine ⟨_, _, _, _, _, rfl, rfl, rfl, rfl, rfl, ?_⟩
            refine A2 (T := fun _ => False) 4 rfl (op_lit sl26 [.tmp 37] ti90 rfl rfl rfl rfl rfl rfl rfl (by decide) (by decide) (by decide) (by simp only [List.length_cons, List.length_nil, Nat.reduceAdd]; rfl) rfl ?_)
            refine A2 (T := fun _ => False) 5 rfl (op_append_nil sl26 rfl rfl rfl rfl rfl rfl (by simp only [List.length_cons, List.length_nil, Nat.reduceAdd]; rfl) rfl rfl (by decide) (by simp) (by first | decide | (simp only [maxLen, List.length_cons, List.length_nil, List.length_append, List.length_map]; omega) | omega) rfl rfl rfl ?_)
            refine A1 6 rfl (fdb ti90 ⟨_, rfl, ?_⟩); refine A2 7 rfl (sto ti26 ?_); refine a_end ?_; refine seq_normal ?_; refine runs_seq ?_; refine kp [3, 2, 0] ?_; refine sr ?_; refine o1 (fdb ti90 ?_); refine o1 (ldb ti3 ?_); refine o1 (ine ?_)
            refine nx ?_; refine cdf (fun h18 => ?_) (fun h18 => ?_)
            · simp only [nrm, Int.reduceEq, Int.reduceNe, Int.reduceLT, Int.reduceLE] at h18
            (try simp only [nrm, Int.reduceEq, Int.reduceNe, Int.reduceLT, Int.reduceLE] at h18)
            have ih3 := ih2 (by omega)
            rcases hlb : levelR n s ⟨pa, none⟩ with ⟨lb, pb, fb⟩
            rw [hlb] at ih3 hle2
            obtain ⟨kb, nb, ab⟩ := lb
            simp only at hle2
            refine a_start ?_ (hm := by exact mixed); refine A1 0 rfl (fdb ti90 ⟨_, rfl, ?_⟩); refine A1 1 rfl (ldb ti26 ⟨_, rfl, ?_⟩); refine A1 2 rfl (mv ⟨_, rfl, ?_⟩)
            refine A2 3 rfl (op_callo ca61 rfl rfl rfl rfl (ih3) [0] (boc .nil) rfl rfl rfl rfl (fir .nil) (fun s ob' hq => ?_) (fun s ob' hq => ?_))
            rotate_left
            · obtain ⟨a, hfa, rfl, rfl⟩ := hq.pan
              refine ⟨_, _, _, _, _, rfl, rfl, rfl, rfl, rfl, ?_⟩; refine leave_d ([0]) ([.dead]) rfl rfl rfl (by repeat (first | exact boz | refine bod ?_)) ?_
              simp only at hfa; subst hfa; exact LvQ.bad takeR_some ⟨rfl, rfl⟩
            obtain ⟨hfb, rfl, rfl⟩ := hq.ret; simp only at hfb; subst hfb; refine ⟨_, _, _, _, _, rfl, rfl, rfl, rfl, rfl, ?_⟩
            refine A2 (T := fun _ => False) 4 rfl (op_lit sl26 [.tmp 47] ti90 rfl rfl rfl rfl rfl rfl rfl (by decide) (by decide) (by decide) (by simp only [List.length_cons, List.length_nil, Nat.reduceAdd]; rfl) rfl ?_)
            refine A2 5 rfl (op_append sl26 rfl rfl rfl rfl rfl rfl rfl (.inl rfl) (by decide) (by simp) (by first | decide | (simp only [maxLen, List.length_cons, List.length_nil, List.length_append, List.length_map]; omega) | omega) rfl rfl rfl ?_)
            refine A1 6 rfl (fdb ti90 ⟨_, rfl, ?_⟩); refine A2 7 rfl (sto ti26 ?_); refine a_end ?_; refine seq_normal ?_; refine kp [3, 2, 0] ?_; refine sr ?_; refine o1 (mv ?_)
            refine oc (op_callo ca59 rfl rfl rfl rfl (stake_spec s hs (stepAt s pb) (stepAt_le hle2.2).2 (stepTok s pb) ⟨#[41]⟩ (tokR s pb).2.1) [0] (boc .nil) rfl rfl rfl rfl (fir (fir .nil)) (fun s ob' hq => ?_) (fun s ob' hq => ?_))
            rotate_left
            · rcases hq with ⟨_, hq1, _⟩ | ⟨htk, hq1, rfl⟩
              · cases hq1
              cases hq1; refine ⟨_, _, _, _, _, rfl, rfl, rfl, rfl, rfl, ?_⟩; refine leave_d ([0]) ([.dead]) rfl rfl rfl (by repeat (first | exact boz | refine bod ?_)) ?_
              exact LvQ.bad (takeR_no fun e => htk ((step_is (by decide) (by decide)).2 e)) ⟨rfl, rfl⟩
            rcases hq with ⟨htk, hq1, rfl⟩ | ⟨_, hq1, _⟩
            rotate_left
            · cases hq1
            cases hq1; refine ⟨_, _, _, _, _, rfl, rfl, rfl, rfl, rfl, ?_⟩; refine nx ?_; refine sr ?_; refine o1 (ldb ti90 ?_); refine oc (sto ti90 ?_); refine nx ?_; refine runs_ret ?_; refine inb_ret ?_; refine seq_ret ?_; refine fin_ret ?_
            refine fin_odl ⟨_, _, rfl, (from_cell rfl rfl ti90 rfl rfl rfl rfl), rfl⟩ rfl ((Lvl.mk 3 .empty [.mk ka na aa, .mk kb nb ab]).d) (by exact .refl _) ([0]) ([scA s (stepAt s pb)]) rfl rfl rfl ?_ ?_
            · repeat (first | exact boz | refine boc ?_)
            · rw [takeR_yes (by decide) ((step_is (by decide) (by decide)).1 htk)]
              exact LvQ.ok rfl ⟨rfl, rfl⟩
      · have c2' : ¬ stepTok s p = ⟨#[40]⟩ := fun e => c2 ((step_is (by decide) (by decide)).1 e)
        rw [levelR_else c0 c1 c2]
        rw [← step_isName] at c1
        unfold scA scO
        refine triS_of_runs Tryd.func61 rfl Tryd.ntmps61 (rs := [.cell 2 90]) rfl rfl rfl 1 rfl ?_
        refine sr ?_; refine oc (T := fun _ => False) (alc ti90 ?_ (hl := by simp only [List.length_cons, List.length_nil, Nat.reduceAdd]; rfl)); refine nx ?_; refine runs_seq ?_; refine sr ?_; refine o1 (mv ?_); refine o1 (ncb ?_)
        refine o1 (fdb ti76 ?_); refine o1 (ldb ti9 ?_); refine nx ?_; refine runs_block ?_; refine sr ?_; refine o1 (seq1 ?_); refine o1 (asg ?_); refine nx ?_; refine cd (fun h2 => ?_) (fun h2 => ?_)
        · (try simp only [nrm, Int.reduceEq, Int.reduceNe, Int.reduceLT, Int.reduceLE] at h2); contradiction
        (try simp only [nrm, Int.reduceEq, Int.reduceNe, Int.reduceLT, Int.reduceLE] at h2); refine kp [7, 2, 0] ?_; refine sr ?_; refine o1 (seq1 ?_); refine o1 (asg ?_); refine nx ?_; refine cd (fun h5 => ?_) (fun h5 => ?_)
        · (try simp only [nrm, Int.reduceEq, Int.reduceNe, Int.reduceLT, Int.reduceLE] at h5); contradiction
        (try simp only [nrm, Int.reduceEq, Int.reduceNe, Int.reduceLT, Int.reduceLE] at h5); refine runs_skip ?_; refine inb_normal ?_; refine seq_normal ?_; refine sr ?_; refine o1 (mv ?_)
        refine oc (op_callo ca62 rfl rfl rfl rfl (name_bad s (stepAt s p) (stepTok s p) (tokR s p).2.1 c1) [0] (boc .nil) rfl rfl rfl rfl (fir .nil) (fun s ob' hq => ?_) (fun s ob' hq => ?_))
        · cases hq.1
        obtain ⟨hq1, rfl⟩ := hq; cases hq1; refine ⟨_, _, _, _, _, rfl, rfl, rfl, rfl, rfl, ?_⟩; refine leave_d ([0]) ([.dead]) rfl rfl rfl (by repeat (first | exact boz | refine bod ?_)) ?_; exact LvQ.bad (a := (tokR s p).2.1) rfl ⟨rfl, rfl⟩
end Go.Proofs.YtneaancanfpdhaaDoor
namespace Go.Proofs.YtneaancanfpdhaaDoor
open Go Go.Vd Go.RowKit
attribute [local irreducible] Runs OpsR OpR FloatR AnyR AnyO
variable {gl : Nat → List D}

theorem catch_ret (E : D) : TriDf Tryd.prog gl 28 [.cells [.d E] 40] [.blk 0 0] .ret (fun U' ob' => U' = .ret ∧ ob' = [.cells [.d E] 40]) := by
  refine triDf_recover (Q0 := fun out ob' => out = .ret (.d (.tup [])) ∧ ob' = [.cells [.d E] 40]) (U' := .ret) Tryd.func28 rfl Tryd.ntmps28 (rs := []) rfl rfl rfl 1 rfl (fun _ _ => rfl) rfl rfl rfl (.inl ⟨rfl, rfl, rfl⟩) ?_ ?_
  · rintro out ob' ⟨rfl, rfl⟩; exact ⟨⟨_, rfl⟩, rfl, rfl⟩
  refine runs_block ?_; refine sr ?_; refine o1 (f_ieql_nil ii20 ?_); refine nx ?_; refine cdf (fun h3 => ?_) (fun h3 => ?_)
  · simp only [nrm, Int.reduceEq, Int.reduceNe, Int.reduceLT, Int.reduceLE] at h3
  (try simp only [nrm, Int.reduceEq, Int.reduceNe, Int.reduceLT, Int.reduceLE] at h3); refine runs_region ?_; refine o1 (asg ?_); refine ops_nil ?_; refine inb_normal ?_; refine fin_normal ?_
  refine fin_od (l := []) rfl rfl ([0]) ([.cells [.d E] 40]) rfl rfl rfl ?_ ?_
  · repeat (first | exact boz | refine boc ?_)
  · exact ⟨rfl, rfl⟩
theorem catch_pan (E : D) (c a : Int) : TriDf Tryd.prog gl 28 [.cells [.d E] 40] [.blk 0 0] (.pan (fltD c a) false) (fun U' ob' => U' = .pan (fltD c a) true ∧ ob' = [.cells [.d (fltD c a)] 40]) := by
  refine triDf_recover (Q0 := fun out ob' => out = .ret (.d (.tup [])) ∧ ob' = [.cells [.d (fltD c a)] 40]) (U' := .pan (fltD c a) true) Tryd.func28 rfl Tryd.ntmps28 (rs := []) rfl rfl rfl 1 rfl (fun _ _ => rfl) rfl rfl rfl (.inr ⟨_, rfl, rfl, rfl⟩) ?_ ?_
  · rintro out ob' ⟨rfl, rfl⟩; exact ⟨⟨_, rfl⟩, rfl, rfl⟩
  unfold fltD
  refine runs_block ?_; refine sr ?_; refine o1 (f_ieql_d ii20 ?_); refine nx ?_; refine cd (fun h3 => ?_) (fun h3 => ?_)
  · simp only [nrm, Int.reduceEq, Int.reduceNe, Int.reduceLT, Int.reduceLE] at h3
  (try simp only [nrm, Int.reduceEq, Int.reduceNe, Int.reduceLT, Int.reduceLE] at h3); refine sr ?_; refine o1 (f_tassert_yes ?_); refine o1 (ex2 ?_); refine o1 (ex2 ?_); refine nx ?_; refine cdf (fun h5 => ?_) (fun h5 => ?_)
  · simp only [nrm, Int.reduceEq, Int.reduceNe, Int.reduceLT, Int.reduceLE] at h5
  (try simp only [nrm, Int.reduceEq, Int.reduceNe, Int.reduceLT, Int.reduceLE] at h5); refine kp [10, 0] ?_; refine sr ?_; refine o1 (asg ?_); refine nx ?_; refine runs_region ?_; refine o1 (mv ?_); refine o1 (mv ?_); refine o1 (f_iface_d ?_)
  refine o1 (ncb ?_); refine oc (sto ti40 ?_); refine ops_nil ?_; refine inb_normal ?_; refine fin_normal ?_; refine fin_od (l := []) rfl rfl ([0]) ([.cells [.d (fltD c a)] 40]) rfl rfl rfl ?_ ?_
  · repeat (first | exact boz | refine boc ?_)
  · exact ⟨rfl, rfl⟩

/-- an error, by its code and place -/
def errD (c a : Int) : D := if c = 0 then .v .nilIface else fltD c a
theorem errD_zero (a : Int) : errD 0 a = .v .nilIface := rfl
theorem errD_ne {c : Int} (h : ¬ c = 0) (a : Int) : errD c a = fltD c a := if_neg h
theorem doneR_some {s : ByteArray} {p a : Nat} : (doneR s ⟨p, some a⟩).f = some a := by
  unfold doneR; dsimp only; split <;> rfl
theorem doneR_no {s : ByteArray} {p : Nat} (h : ¬ stepTok s p = .empty) : (doneR s ⟨p, none⟩).f = some (tokR s p).2.1 := by
  unfold doneR; dsimp only
  rw [if_pos]; rfl
  cases h2 : (tokR s p).2.2 with
  | false => exact .inl rfl
  | true =>
    right; intro e; apply h; unfold stepTok; rw [if_pos h2, e]
theorem doneR_yes {s : ByteArray} {p : Nat} (h : stepTok s p = .empty) : (doneR s ⟨p, none⟩).f = none := by
  unfold doneR; dsimp only
  unfold stepTok at h
  split at h
  · rename_i h2
    rw [if_neg]; rintro (h3 | h3)
    · rw [h2] at h3; cases h3
    · exact h3 h
  · exact absurd h (by decide)
theorem send_spec (s : ByteArray) (b : Nat) (tok : ByteArray) (pos : Nat) :
    Tri Tryd.prog gl 31 [scO s b tok pos] [.blk 0 0] fun out ob' => (tok = .empty ∧ out = .ret (.d (.tup [])) ∧ ob' = [scO s b tok pos]) ∨ (¬ tok = .empty ∧ out = .pan (.d (fltD 1 pos)) ∧ ob' = [scO s b tok pos]) := by
  by_cases h : tok = .empty
  · subst h; exact (end_ok s b pos).mono fun o b hq => .inl ⟨rfl, hq⟩
  · exact (end_bad s b tok pos h).mono fun o b hq => .inr ⟨h, hq⟩

end Go.Proofs.YtneaancanfpdhaaDoor
namespace Go.Proofs.YtneaancanfpdhaaDoor
open Go Go.Vd Go.RowKit
attribute [local irreducible] Runs OpsR OpR FloatR AnyR AnyO
variable {g gl : Nat → List D}

/-- does the token begin with #? -/
def hashB (t : ByteArray) : Bool := decide (t ≠ .empty) && decide (byteAt t 0 = 35)
theorem hash_pre (t : ByteArray) : (1 ≤ t.size ∧ t.extract 0 1 = ⟨#[35]⟩) ↔ hashB t = true := by
  unfold hashB
  simp only [Bool.and_eq_true, decide_eq_true_eq]
  constructor
  · rintro ⟨h1, h2⟩
    refine ⟨fun e => by subst e; simp at h1, ?_⟩
    have h3 : byteAt (t.extract 0 1) 0 = byteAt t 0 := by rw [byteAt_extract t (by omega) h1]
    rw [← h3, h2]; rfl
  · rintro ⟨h1, h2⟩
    have h3 := size_pos h1
    refine ⟨h3, byteAt_inj (by rw [ByteArray.size_extract]; have : (ByteArray.mk #[35]).size = 1 := rfl; omega) fun i hi => ?_⟩
    rw [ByteArray.size_extract] at hi
    obtain rfl : i = 0 := by omega
    rw [byteAt_extract t (by omega) h3, Nat.zero_add, h2]; rfl

theorem hash_pre2 (t : ByteArray) : (decide (((ByteArray.mk #[35]).size : Int) ≤ (t.size : Int)) && decide (t.extract 0 (((ByteArray.mk #[35]).size : Nat) : Int).toNat = ⟨#[35]⟩)) = hashB t := by
  rw [Bool.eq_iff_iff, ← hash_pre, Bool.and_eq_true, decide_eq_true_eq, decide_eq_true_eq]
  show ((1 : Int) ≤ t.size ∧ t.extract 0 1 = _) ↔ _
  exact ⟨fun h => ⟨by omega, h.2⟩, fun h => ⟨by omega, h.2⟩⟩
theorem hasPrefix_spec (t : ByteArray) : TriD Tryd.prog gl 81 [.v (.string t), .v (.string ⟨#[35]⟩)] (· = .v (.bool (hashB t))) := by
  have h1s : (ByteArray.mk #[35]).size = 1 := rfl
  refine triD_of_runs Tryd.func81 rfl Tryd.ntmps81 (rs := [.tmp 4]) rfl rfl rfl ?_
  refine sr ?_; refine o1 (asg ?_); refine nx ?_; refine sr ?_; refine o1 (mv ?_); refine o1 (le3 ut9 ?_); refine o1 (mv ?_); refine o1 (le3 ut9 ?_); refine o1 (ige ?_); refine o1 (mv ?_)
  apply ops_and (yt := 16) (d := 10) 6 rfl rfl rfl (.none rfl) rfl rfl
  case h1 =>
    intro hb11 hK
    have hc := hb11; (try simp only [nrm, Int.reduceEq, Int.reduceNe, Int.reduceLT, Int.reduceLE] at hc)
    refine gye ?_ (hbw := by exact hb11); refine o1 (mv ?_); refine gye ?_ (hbw := by exact hb11); refine o1 (mv ?_); refine gye ?_ (hbw := by exact hb11); refine o1 (le3 ut9 ?_); refine gye ?_ (hbw := by exact hb11)
    refine o1 (fl_sub_h ut9 rfl rfl rfl (by omega) ?_); refine gye ?_ (hbw := by exact hb11); refine o1 (mv ?_); refine gye ?_ (hbw := by exact hb11); refine o1 (seq1 ?_); exact hK [_, _, _, _, _, _] rfl rfl
  case h2 =>
    intro hb11 hK; refine gno ?_ (hbw := by exact hb11); refine gno ?_ (hbw := by exact hb11); refine gno ?_ (hbw := by exact hb11); refine gno ?_ (hbw := by exact hb11); refine gno ?_ (hbw := by exact hb11); refine gno ?_ (hbw := by exact hb11)
    exact hK [_, _, _, _, _, _] rfl
  refine o1 (asg ?_); refine nx ?_; refine runs_ret ?_; refine fin_ret ?_; refine fin_d1 rfl rfl ?_
  rw [hash_pre2]
theorem cutLite_spec (t : ByteArray) : TriD Tryd.prog gl 75 [.v (.string t), .v (.string ⟨#[35]⟩)] (· = .tup [.v (.string (if hashB t then t.extract 1 t.size else t)), .v (.bool (hashB t))]) := by
  have h1s : (ByteArray.mk #[35]).size = 1 := rfl
  have hp := hash_pre t
  refine triD_of_runs Tryd.func75 rfl Tryd.ntmps75 (rs := [.tmp 4, .tmp 5]) rfl rfl rfl ?_
  refine sr ?_; refine o1 (asg ?_); refine o1 (asg ?_); refine nx ?_; refine runs_seq ?_; refine sr ?_; refine o1 (mv ?_); refine o1 (mv ?_); refine oc (cv ca81 rfl rfl (hasPrefix_spec t) (fir (fir .nil)) ?_); refine o1 (f_not ?_)
  refine nx ?_; refine cd (fun h1 => ?_) (fun h1 => ?_)
  · (try simp only [nrm, Int.reduceEq, Int.reduceNe, Int.reduceLT, Int.reduceLE] at h1)
    refine kp [0] ?_; refine sr ?_; refine o1 (mv ?_); refine o1 (asg ?_); refine o1 (asg ?_); refine nx ?_; refine runs_ret ?_; refine seq_ret ?_; refine fin_ret ?_; refine fin_d2 rfl rfl rfl ?_
    rw [h1]; rfl
  (try simp only [nrm, Int.reduceEq, Int.reduceNe, Int.reduceLT, Int.reduceLE] at h1); refine runs_skip ?_; refine seq_normal ?_; refine runs_seq ?_; refine kp [0, 1] ?_
  have hp1 := (hp.2 h1).1
  refine runs_region ?_; refine o1 (mv ?_); refine o1 (mv ?_); refine o1 (le3 ut9 ?_); refine o1 (fl_sub_l ut9 rfl rfl rfl (by omega) ?_); refine o1 (asg ?_); refine o1 (asg ?_); refine nx ?_; refine runs_ret ?_; refine fin_ret ?_
  refine fin_d2 rfl rfl rfl ?_
  rw [h1]; rfl
theorem cut_spec (t : ByteArray) : TriD Tryd.prog gl 56 [.v (.string t), .v (.string ⟨#[35]⟩)] (· = .tup [.v (.string (if hashB t then t.extract 1 t.size else t)), .v (.bool (hashB t))]) := by
  refine triD_of_runs Tryd.func56 rfl Tryd.ntmps56 (rs := [.tmp 4, .tmp 5]) rfl rfl rfl ?_
  refine sr ?_; refine o1 (asg ?_); refine o1 (asg ?_); refine nx ?_; refine sr ?_; refine o1 (mv ?_); refine o1 (mv ?_); refine oc (cv ca75 rfl rfl (cutLite_spec t) (fir (fir .nil)) ?_); refine o1 (ex2 ?_); refine o1 (ex2 ?_)
  refine o1 (asg ?_); refine o1 (asg ?_); refine nx ?_; refine runs_ret ?_; refine fin_ret ?_; refine fin_d2 rfl rfl rfl ?_
  rfl

theorem atoiIn_spec (t : ByteArray) (h1 : 1 ≤ t.size) (h5 : t.size ≤ 5) (hd : allDig t) : TriD Tryd.prog gl 76 [.v (.string t)] (· = .tup [.v (.int .i64 (numR t t.size)), .v .nilIface]) := by
  have hd0 := hd 0 (by omega)
  have hbl := bytesD_len t
  refine triD_of_runs Tryd.func76 rfl Tryd.ntmps76 (rs := [.tmp 2, .tmp 3]) rfl rfl rfl ?_
  refine sr ?_; refine o1 (asg ?_); refine o1 (asg ?_); refine nx ?_; refine sr ?_; refine o1 (mv ?_); refine o1 (le3 ut9 ?_); refine o1 (asg ?_); refine nx ?_; refine runs_seq ?_; refine kp [4, 0] ?_; refine sr ?_; refine o1 (mv ?_)
  refine ops_set 13 false rfl (by simp) ?_; refine gno ?_ (hbw := by exact rfl); refine gno ?_ (hbw := by exact rfl); refine gno ?_ (hbw := by exact rfl); refine gud ?_; refine gud ?_; refine gno ?_ (hbw := by exact rfl)
  refine o1 (f_pick_f ?_); refine o1 (mv ?_); refine ops_set 21 false rfl (by simp) ?_; refine gye ?_ (hbw := by exact rfl); refine o1 (mv ?_); refine ops_set 22 true rfl (by simp) ?_; refine gye ?_ (hbw := by exact rfl); refine o1 (mv ?_)
  refine gye ?_ (hbw := by exact rfl); refine o1 (ilt ?_); refine gye ?_ (hbw := by exact rfl); refine o1 (mv ?_); refine ops_set 25 true rfl (by simp; omega) ?_; refine gye ?_ (hbw := by exact rfl); refine o1 (mv ?_)
  refine gye ?_ (hbw := by exact rfl); refine o1 (ilt ?_); refine gye ?_ (hbw := by exact rfl); refine o1 (f_pick_t ?_); refine gye ?_ (hbw := by exact rfl); refine o1 (f_pick_t ?_); refine o1 (f_pick_f ?_); refine nx ?_
  refine cdf (fun h2 => ?_) (fun h2 => ?_)
  · (try simp only [nrm, Int.reduceEq, Int.reduceNe, Int.reduceLT, Int.reduceLE] at h2); omega
  (try simp only [nrm, Int.reduceEq, Int.reduceNe, Int.reduceLT, Int.reduceLE] at h2); refine kp [0] ?_; refine sr ?_; refine o1 (mv ?_); refine o1 (asg ?_); refine nx ?_; refine runs_seq ?_; refine sr ?_; refine o1 (mv ?_)
  refine o1 (byt ut9 ?_); refine o1 (ieq ?_); refine o1 (mv ?_)
  apply ops_or (yt := 38) (d := 35) 3 rfl rfl rfl (.none rfl) rfl rfl
  case h1 =>
    intro hb6 hK
    have hc := hb6; (try simp only [nrm, Int.reduceEq, Int.reduceNe, Int.reduceLT, Int.reduceLE] at hc)
    refine gye ?_ (hbw := by exact hb6); refine o1 (mv ?_); refine gye ?_ (hbw := by exact hb6); refine o1 (byt ut9 ?_); refine gye ?_ (hbw := by exact hb6); refine o1 (ieq ?_); exact hK [_, _, _] rfl rfl
  case h2 =>
    intro hb6 hK; refine gno ?_ (hbw := by exact hb6); refine gno ?_ (hbw := by exact hb6); refine gno ?_ (hbw := by exact hb6); exact hK [_, _, _] rfl
  refine nx ?_; refine cd (fun h4 => ?_) (fun h4 => ?_)
  · (try simp only [nrm, Int.reduceEq, Int.reduceNe, Int.reduceLT, Int.reduceLE] at h4); exfalso; have h0 : byteAt t (Int.toNat 0) = byteAt t 0 := rfl; rcases h4 with h | h <;> omega
  (try simp only [nrm, Int.reduceEq, Int.reduceNe, Int.reduceLT, Int.reduceLE] at h4); refine runs_skip ?_; refine seq_normal ?_; refine kp [5, 0] ?_; refine sr ?_; refine o1 (asg ?_); refine nx ?_; refine runs_seq ?_; refine sr ?_
  refine o1 (mv ?_); refine oc (T := fun _ => False) (op_bytes ut9 sl59 ui5 rfl rfl rfl rfl rfl ?_); refine o1 (le1 us59 ?_); refine o1 (mv ?_); refine nx ?_; refine runs_block ?_; refine kp [49, 48, 47, 6, 5] ?_
  apply runs_loop_c (ι := Nat) (fun i => [(49, int i), (6, int (numR t i))]) [48, 47, 5] (fun i => i ≤ t.size) (fun i => t.size - i) (0)
  case hk => exact rfl
  case hI =>
    exact Nat.zero_le _
  case hm =>
    refine mo ?_ (sly (sly (sly (sly (sly slz)))))
    repeat (first | exact boz | refine bod ?_)
  case h =>
    rintro i hinv
    try dsimp only at hinv
    refine kp [49, 6, 48, 47, 5] ?_; refine sr ?_; refine o1 (ilt ?_); refine nx ?_; refine runs_seq ?_; refine cdf (fun h10 => ?_) (fun h10 => ?_)
    · (try simp only [nrm, Int.reduceEq, Int.reduceNe, Int.reduceLT, Int.reduceLE] at h10)
      refine runs_exit ?_; refine seq_exit ?_; refine seq_exit ?_; refine inb_exit ?_; refine seq_normal ?_; refine runs_seq ?_; refine kp [6, 5] ?_; refine sr ?_; refine o1 (mv ?_); refine o1 (byt ut9 ?_); refine o1 (ieq ?_); refine nx ?_
      refine cd (fun h17 => ?_) (fun h17 => ?_)
      · (try simp only [nrm, Int.reduceEq, Int.reduceNe, Int.reduceLT, Int.reduceLE] at h17); omega
      (try simp only [nrm, Int.reduceEq, Int.reduceNe, Int.reduceLT, Int.reduceLE] at h17); refine runs_skip ?_; refine seq_normal ?_; refine kp [6] ?_; refine sr ?_; refine o1 (mv ?_); refine o1 (asg ?_); refine o1 (asg ?_); refine nx ?_
      refine runs_ret ?_; refine seq_ret ?_; refine fin_ret ?_; refine fin_d2 rfl rfl rfl ?_
      have hi : i = t.size := by omega
      subst hi
      rfl
    (try simp only [nrm, Int.reduceEq, Int.reduceNe, Int.reduceLT, Int.reduceLE] at h10); refine runs_skip ?_; refine seq_normal ?_; refine runs_seq ?_; refine runs_block ?_; refine runs_seq ?_
    have hdi := hd i (by omega)
    have hnb := numR_bound hd i (by omega) (by omega)
    have hs8 := sub8_digit hdi
    have hw : IntKind.wrap .i64 (sub8 (byteAt t i) 48) = byteAt t i - 48 := by rw [sub8_digit hdi]; exact wrap_digit (by omega)
    refine runs_region ?_; refine o1 (ixs us59 te59 ?_ (he := by exact (byte_at (show i < t.size by omega)))); refine o1 (ldc ti5 ?_); refine o1 (asg ?_); refine nx ?_; refine sr ?_; refine o1 (mv ?_); refine o1 (fl_sub8 rfl rfl rfl ?_)
    refine o1 (asg ?_); refine nx ?_; refine runs_seq ?_; refine kp [8, 49, 6, 48, 47, 5] ?_; refine sr ?_; refine o1 (mv ?_); refine o1 (igt ?_); refine nx ?_; refine cd (fun h13 => ?_) (fun h13 => ?_)
    · (try simp only [nrm, Int.reduceEq, Int.reduceNe, Int.reduceLT, Int.reduceLE] at h13); omega
    (try simp only [nrm, Int.reduceEq, Int.reduceNe, Int.reduceLT, Int.reduceLE] at h13); refine runs_skip ?_; refine seq_normal ?_; refine runs_region ?_; refine o1 (mv ?_); refine o1 (fl_mul rfl rfl rfl (by omega) ?_); refine o1 (mv ?_)
    refine o1 (fl_conv ui3 uo5 rfl rfl ?_); refine o1 (iad ?_); refine o1 (asg ?_); refine ops_nil ?_; refine inb_normal ?_; refine seq_normal ?_; refine kp [6, 49, 48, 47, 5] ?_; refine runs_region ?_; refine o1 (iad ?_); refine o1 (mv ?_)
    refine ops_nil ?_; refine seq_back ?_; refine back_i (i + 1) rfl ?_ ?_
    · exact ⟨by omega, by omega⟩
    · refine mo ?_ (sly (slx rfl (by exact Fit.of_eq (by rw [hw]; simp only [numR]; rw [Int.mul_comm]; rfl)) (sly (sly (sly slz)))))
      repeat (first | exact boz | refine bod ?_)
theorem atoi_spec (t : ByteArray) (h1 : 1 ≤ t.size) (h5 : t.size ≤ 5) (hd : allDig t) : TriD Tryd.prog gl 57 [.v (.string t)] (· = .tup [.v (.int .i64 (numR t t.size)), .v .nilIface]) := by
  refine triD_of_runs Tryd.func57 rfl Tryd.ntmps57 (rs := [.tmp 2, .tmp 3]) rfl rfl rfl ?_
  refine sr ?_; refine o1 (asg ?_); refine o1 (asg ?_); refine nx ?_; refine sr ?_; refine o1 (mv ?_); refine oc (cv ca76 rfl rfl (atoiIn_spec t h1 h5 hd) (fir .nil) ?_); refine o1 (mv ?_); refine o1 (ex2 ?_); refine o1 (ex2 ?_)
  refine o1 (asg ?_); refine o1 (asg ?_); refine nx ?_; refine runs_seq ?_; refine kp [5, 4, 0] ?_; refine sr ?_; refine o1 (mv ?_); refine o1 (f_ineq_nil ii40 ?_); refine nx ?_; refine cd (fun h2 => ?_) (fun h2 => ?_)
  · simp only [nrm, Int.reduceEq, Int.reduceNe, Int.reduceLT, Int.reduceLE] at h2
  (try simp only [nrm, Int.reduceEq, Int.reduceNe, Int.reduceLT, Int.reduceLE] at h2); refine runs_skip ?_; refine seq_normal ?_; refine kp [4] ?_; refine sr ?_; refine o1 (mv ?_); refine o1 (asg ?_); refine o1 (asg ?_); refine nx ?_
  refine runs_ret ?_; refine fin_ret ?_; refine fin_d2 rfl rfl rfl ?_
  rfl
end Go.Proofs.YtneaancanfpdhaaDoor
namespace Go.Proofs.YtneaancanfpdhaaDoor
open Go Go.Vd Go.RowKit
attribute [local irreducible] Runs OpsR OpR FloatR AnyR
variable {gl : Nat → List D}

/-- the place of a text, or -1 -/
def idxI (ps : List ByteArray) (s : ByteArray) : Int := match ps.findIdx? (· = s) with
  | some i => i
  | none => -1
theorem idxI_some {ps : List ByteArray} {s : ByteArray} {i : Nat} (h : i < ps.length) (h1 : s ∉ ps.take i) (h2 : ps[i] = s) : idxI ps s = i := by
  unfold idxI; rw [findIdx_some h h1 h2]
theorem idxI_none {ps : List ByteArray} {s : ByteArray} (h : s ∉ ps) : idxI ps s = -1 := by
  unfold idxI; rw [findIdx_none h]
theorem idxI_case (ps : List ByteArray) (s : ByteArray) : (s ∉ ps ∧ idxI ps s = -1) ∨ ∃ i, ∃ h : i < ps.length, s ∉ ps.take i ∧ ps[i] = s ∧ idxI ps s = i := by
  by_cases hm : s ∈ ps
  · right
    have h0 : (ps.findIdx? (· = s)).isSome = true := by rw [List.findIdx?_isSome]; simpa using hm
    obtain ⟨i, hi⟩ := Option.isSome_iff_exists.1 h0
    obtain ⟨h1, h2, h3⟩ := List.findIdx?_eq_some_iff_getElem.1 hi
    refine ⟨i, h1, fun hc => ?_, by simpa using h2, by unfold idxI; rw [hi]⟩
    obtain ⟨j, hj, e⟩ := List.mem_iff_getElem.1 hc
    simp only [List.length_take] at hj
    have := h3 j (by omega)
    simp only [List.getElem_take] at e
    simp [e] at this
  · exact .inl ⟨hm, idxI_none hm⟩

theorem index_spec (ps : List ByteArray) (s : ByteArray) (hl : ps.length ≤ 281474976710656) :
    TriD Tryd.prog gl 60 [strsD ps, .v (.string s)] (· = .v (.int .i64 (idxI ps s))) := by
  have hlp := strs_len ps
  refine triD_of_runs Tryd.func60 rfl Tryd.ntmps60 (rs := [.tmp 4]) rfl rfl rfl ?_
  refine sr ?_; refine o1 (asg ?_); refine nx ?_; refine runs_seq ?_; refine sr ?_; refine o1 (mv ?_); refine o1 (le1 us77 ?_); refine o1 (mv ?_); refine nx ?_; refine runs_block ?_; refine kp [8, 7, 0, 1] ?_
  apply runs_loop_c (ι := Nat) (fun i => [(8, int i)]) [7, 0, 1] (fun i => i ≤ ps.length ∧ s ∉ ps.take i) (fun i => ps.length - i) (0)
  case hk => exact rfl
  case hI =>
    exact ⟨Nat.zero_le _, by simp⟩
  case hm =>
    refine mo ?_ (sly (sly (sly (sly slz)))); exact boz
  case h =>
    rintro i hinv
    try dsimp only at hinv
    refine kp [8, 7, 0, 1] ?_; refine sr ?_; refine o1 (ilt ?_); refine nx ?_; refine runs_seq ?_; refine cdf (fun h2 => ?_) (fun h2 => ?_)
    · (try simp only [nrm, Int.reduceEq, Int.reduceNe, Int.reduceLT, Int.reduceLE] at h2)
      refine runs_exit ?_; refine seq_exit ?_; refine seq_exit ?_; refine inb_exit ?_; refine seq_normal ?_; refine kp [] ?_; refine sr ?_; refine o1 (asg ?_); refine nx ?_; refine runs_ret ?_; refine fin_ret ?_; refine fin_d1 rfl rfl ?_
      have h := hinv.2
      rw [List.take_of_length_le (by omega)] at h
      rw [idxI_none h]
    (try simp only [nrm, Int.reduceEq, Int.reduceNe, Int.reduceLT, Int.reduceLE] at h2); refine runs_skip ?_; refine seq_normal ?_; refine runs_seq ?_; refine runs_block ?_; refine sr ?_; refine o1 (mv ?_); refine o1 (asg ?_); refine nx ?_
    refine sr ?_; refine o1 (mv ?_); refine o1 (mv ?_); refine o1 (mv ?_); refine o1 (ixs us77 te77 ?_ (he := by exact (str_at (by omega)))); refine o1 (ldc ti9 ?_); refine o1 (seq1 ?_); refine nx ?_; refine cd (fun h4 => ?_) (fun h4 => ?_)
    · (try simp only [nrm, Int.reduceEq, Int.reduceNe, Int.reduceLT, Int.reduceLE] at h4)
      refine kp [5] ?_; refine sr ?_; refine o1 (mv ?_); refine o1 (asg ?_); refine nx ?_; refine runs_ret ?_; refine inb_ret ?_; refine seq_ret ?_; refine seq_ret ?_; refine inb_ret ?_; refine seq_ret ?_; refine fin_ret ?_
      refine fin_d1 rfl rfl ?_
      rw [idxI_some (show i < ps.length by omega) hinv.2 h4.symm]
    (try simp only [nrm, Int.reduceEq, Int.reduceNe, Int.reduceLT, Int.reduceLE] at h4); refine runs_skip ?_; refine inb_normal ?_; refine seq_normal ?_; refine kp [8, 7, 0, 1] ?_; refine runs_region ?_; refine o1 (iad ?_); refine o1 (mv ?_)
    refine ops_nil ?_; refine seq_back ?_; refine back_i (i + 1) rfl ?_ ?_
    · exact ⟨⟨by omega, not_mem_take_succ (by omega) hinv.2 (fun e => h4 e.symm)⟩, by omega⟩
    · refine mo ?_ (sly (sly (sly (sly slz))))
      exact boz

end Go.Proofs.YtneaancanfpdhaaDoor
namespace Go.Proofs.YtneaancanfpdhaaDoor
open Go Go.Vd Go.RowKit
attribute [local irreducible] Runs OpsR OpR FloatR AnyR AnyO
variable {g gl : Nat → List D}

theorem idx_kind (w : ByteArray) : idxI (wordsT.drop 1) w + 1 = kindT w := by
  have hl : wordsT.length = 7 := rfl
  rcases idxI_case (wordsT.drop 1) w with ⟨h1, h2⟩ | ⟨i, h0, _, h2, h3⟩
  · rw [h2]
    have h4 := kindT_le w
    rcases Nat.eq_zero_or_pos (kindT w) with h5 | h5
    · rw [h5]; rfl
    · exfalso
      have h6 := (kindT_word (w := w) (i := kindT w) h5 (by omega)).2 rfl
      apply h1
      rw [← h6]
      have h7 : 1 + (kindT w - 1) = kindT w := by omega
      exact List.mem_iff_getElem.2 ⟨kindT w - 1, by rw [List.length_drop]; omega, by simp only [List.getElem_drop, h7]⟩
  · rw [h3]
    simp only [List.length_drop] at h0
    have h4 : wordsT[i + 1] = w := by simp only [List.getElem_drop, Nat.add_comm 1 i] at h2; exact h2
    rw [(kindT_word (by omega) (by omega)).1 h4]; rfl
theorem kindT_emp : kindT .empty = 0 ∧ kindT ⟨#[0]⟩ = 0 := by decide
theorem step_kind {s : ByteArray} {p : Nat} : kindT (stepTok s p) = kindT (tokR s p).1 := by
  by_cases h : (tokR s p).1 = .empty
  · rw [h, kindT_emp.1]
    rcases step_emp h with h3 | h3 <;> rw [h3]
    · exact kindT_emp.1
    · exact kindT_emp.2
  · rw [(step_tok h).1]
theorem step_hash {s : ByteArray} {p : Nat} : hashB (stepTok s p) = hashB (tokR s p).1 := by
  by_cases h : (tokR s p).1 = .empty
  · rw [h]
    rcases step_emp h with h3 | h3 <;> rw [h3]
    decide
  · rw [(step_tok h).1]

/-- what term.Read does, by what the reference's reader reads -/
def TrQ (s : ByteArray) (r : Trm × RS) (out : Out) (ob' : List Ob) : Prop :=
  (r.2.f = none → out = .ret (.d r.1.d) ∧ ob' = [scA s r.2.p]) ∧ (∀ a, r.2.f = some a → out = .pan (.d (fltD 1 a)) ∧ ob' = [.dead])
theorem TrQ.ok {s : ByteArray} {r : Trm × RS} {out : Out} {ob' : List Ob} (hf : r.2.f = none) (h : out = .ret (.d r.1.d) ∧ ob' = [scA s r.2.p]) : TrQ s r out ob' :=
  ⟨fun _ => h, fun a e => by rw [hf] at e; cases e⟩
theorem TrQ.bad {s : ByteArray} {r : Trm × RS} {out : Out} {ob' : List Ob} {a : Nat} (hf : r.2.f = some a) (h : out = .pan (.d (fltD 1 a)) ∧ ob' = [.dead]) : TrQ s r out ob' :=
  ⟨fun e => (by rw [hf] at e; cases e), fun b e => by rw [hf] at e; cases e; exact h⟩
theorem TrQ.ret {s : ByteArray} {r : Trm × RS} {v : SV} {ob' : List Ob} (h : TrQ s r (.ret v) ob') : r.2.f = none ∧ v = .d r.1.d ∧ ob' = [scA s r.2.p] := by
  cases hf : r.2.f with
  | none =>
    obtain ⟨h1, h2⟩ := h.1 hf
    cases h1
    exact ⟨rfl, rfl, h2⟩
  | some a => obtain ⟨h1, _⟩ := h.2 a hf; cases h1
theorem TrQ.pan {s : ByteArray} {r : Trm × RS} {v : SV} {ob' : List Ob} (h : TrQ s r (.pan v) ob') : ∃ a, r.2.f = some a ∧ v = .d (fltD 1 a) ∧ ob' = [.dead] := by
  cases hf : r.2.f with
  | none => obtain ⟨h1, _⟩ := h.1 hf; cases h1
  | some a =>
    obtain ⟨h1, h2⟩ := h.2 a hf
    cases h1
    exact ⟨a, rfl, rfl, h2⟩

theorem termR_some {s : ByteArray} {p a : Nat} : ∀ n, termR n s ⟨p, some a⟩ = (zeroT, ⟨p, some a⟩)
  | 0 => rfl
  | _ + 1 => rfl
theorem parts_some {s : ByteArray} {n i j a : Nat} {r : RS} (h : (partsR (termR n s) i r).2.f = some a) : (partsR (termR n s) (i + j) r).2.f = some a := by
  induction j with
  | zero => exact h
  | succ j ih =>
    show (termR n s (partsR (termR n s) (i + j) r).2).2.f = some a
    rcases hx : (partsR (termR n s) (i + j) r).2 with ⟨q, f⟩
    rw [hx] at ih
    simp only at ih
    subst ih
    rw [termR_some]
theorem take_some {s w : ByteArray} {r : RS} {a : Nat} (h : r.f = some a) : (takeR s w r).f = some a := by
  obtain ⟨q, f⟩ := r
  simp only at h
  subst h
  exact takeR_some
theorem term_node {s : ByteArray} {p n k : Nat} (h1 : (tokR s p).1 = ⟨#[40]⟩) (hk : kindT (tokR s (stepAt s p)).1 = k) (h3 : ¬ k = 0) :
    termR (n + 1) s ⟨p, none⟩ = (.mk k 0 (headR s k ⟨stepAt s (stepAt s p), none⟩).1 (headR s k ⟨stepAt s (stepAt s p), none⟩).2.1 (partsR (termR n s) (partsOf k) (headR s k ⟨stepAt s (stepAt s p), none⟩).2.2).1, takeR s ⟨#[41]⟩ (partsR (termR n s) (partsOf k) (headR s k ⟨stepAt s (stepAt s p), none⟩).2.2).2) := by
  have e1 := nextR_eq (s := s) (p := p) (by rw [h1]; decide)
  have e2 := nextR_eq (s := s) (p := stepAt s p) (by intro e; rw [e] at hk; exact h3 (by rw [← hk]; exact kindT_emp.1))
  rcases hx : headR s k ⟨stepAt s (stepAt s p), none⟩ with ⟨nm, L, r3⟩
  rw [termR_node (nm := nm) (L := L) (r3 := r3) h1 (by rw [e1]; exact hk) h3 (by rw [e1, e2]; exact hx)]
theorem term_headbad {s : ByteArray} {p n k a : Nat} (h1 : (tokR s p).1 = ⟨#[40]⟩) (hk : kindT (tokR s (stepAt s p)).1 = k) (h3 : ¬ k = 0) (hf : (headR s k ⟨stepAt s (stepAt s p), none⟩).2.2.f = some a) : (termR (n + 1) s ⟨p, none⟩).2.f = some a := by
  rw [term_node h1 hk h3]
  refine take_some ?_
  have := parts_some (s := s) (n := n) (i := 0) (j := partsOf k) (r := (headR s k ⟨stepAt s (stepAt s p), none⟩).2.2) hf
  rwa [Nat.zero_add] at this
theorem term_partbad {s : ByteArray} {p n k a i : Nat} {nm : ByteArray} {L : List Lvl} {r3 : RS} (h1 : (tokR s p).1 = ⟨#[40]⟩) (hk : kindT (tokR s (stepAt s p)).1 = k) (h3 : ¬ k = 0) (h4 : headR s k ⟨stepAt s (stepAt s p), none⟩ = (nm, L, r3)) (hi : i + 1 ≤ partsOf k)
    (hf : (termR n s (partsR (termR n s) i r3).2).2.f = some a) : (termR (n + 1) s ⟨p, none⟩).2.f = some a := by
  rw [term_node h1 hk h3, h4]
  refine take_some ?_
  have := parts_some (s := s) (n := n) (i := i + 1) (j := partsOf k - (i + 1)) (r := r3) hf
  rwa [show i + 1 + (partsOf k - (i + 1)) = partsOf k by omega] at this
theorem term_takebad {s : ByteArray} {p n k q : Nat} {nm : ByteArray} {L : List Lvl} {r3 : RS} (h1 : (tokR s p).1 = ⟨#[40]⟩) (hk : kindT (tokR s (stepAt s p)).1 = k) (h3 : ¬ k = 0) (h4 : headR s k ⟨stepAt s (stepAt s p), none⟩ = (nm, L, r3))
    (h5 : (partsR (termR n s) (partsOf k) r3).2 = ⟨q, none⟩) (h6 : ¬ (tokR s q).1 = ⟨#[41]⟩) : (termR (n + 1) s ⟨p, none⟩).2.f = some (tokR s q).2.1 := by
  rw [term_node h1 hk h3, h4]
  simp only [h5]
  exact takeR_no h6
theorem term_good {s : ByteArray} {p n k q : Nat} {nm : ByteArray} {L : List Lvl} {r3 : RS} (h1 : (tokR s p).1 = ⟨#[40]⟩) (hk : kindT (tokR s (stepAt s p)).1 = k) (h3 : ¬ k = 0) (h4 : headR s k ⟨stepAt s (stepAt s p), none⟩ = (nm, L, r3))
    (h5 : (partsR (termR n s) (partsOf k) r3).2 = ⟨q, none⟩) (h6 : (tokR s q).1 = ⟨#[41]⟩) : termR (n + 1) s ⟨p, none⟩ = (.mk k 0 nm L (partsR (termR n s) (partsOf k) r3).1, ⟨stepAt s q, none⟩) := by
  rw [term_node h1 hk h3, h4]
  simp only [h5]
  rw [takeR_yes (by decide) h6]
theorem peek_step {s : ByteArray} {q : Nat} : peekR s ⟨q, none⟩ = ⟨#[41]⟩ ↔ stepTok s q = ⟨#[41]⟩ := by
  rw [step_is (by decide) (by decide)]
  unfold peekR
  split
  · rename_i h
    constructor
    · intro e; exact absurd e (by decide)
    · intro e
      rcases h with h | h
      · rw [tokR_empty h] at e; exact absurd e (by decide)
      · exact absurd rfl h
  · exact Iff.rfl
theorem name_yes {s : ByteArray} {p : Nat} (h : isNameB (tokR s p).1 = true) : nameR s ⟨p, none⟩ = ((tokR s p).1, ⟨stepAt s p, none⟩) := by
  have hne : (tokR s p).1 ≠ .empty := by
    intro e; rw [e] at h; simp [isNameB] at h
  have h2 : (tokR s p).2.2 = true := by
    cases h3 : (tokR s p).2.2 with
    | true => rfl
    | false => exact absurd (tokR_empty h3) hne
  unfold nameR stepAt; dsimp only
  rw [if_neg (by simp [h, h2]), if_pos h2]
theorem name_no {s : ByteArray} {p : Nat} (h : isNameB (tokR s p).1 = false) : (nameR s ⟨p, none⟩).2.f = some (tokR s p).2.1 := by
  unfold nameR; dsimp only
  rw [if_pos (.inr h)]; rfl
theorem sname_spec (s : ByteArray) (hs : s.size ≤ 1099511627776) (b : Nat) (hb : b ≤ s.size) (w : ByteArray) (pos : Nat) :
    Tri Tryd.prog gl 62 [scO s b w pos] [.blk 0 0] fun out ob' => (isNameB w = true ∧ out = .ret (.d (.v (.string w))) ∧ ob' = [scA s b]) ∨ (isNameB w = false ∧ out = .pan (.d (fltD 1 pos)) ∧ ob' = [scO s b w pos]) := by
  cases h : isNameB w with
  | true => exact (name_ok s hs b hb w pos h).mono fun o b hq => .inl ⟨rfl, hq⟩
  | false => exact (name_bad s b w pos h).mono fun o b hq => .inr ⟨rfl, hq⟩
theorem levels_bad {s : ByteArray} {r0 r' : RS} {m a : Nat} {acc : List Lvl} (h4 : levelsR (s.size + 2) s r0 = (acc ++ (levelsR m s r').1, (levelsR m s r').2)) (hm : 0 < m) (h : r'.f = none ∧ ¬ peekR s r' = ⟨#[41]⟩) (hf : (levelR (s.size + 1) s r').2.f = some a) : (levelsR (s.size + 2) s r0).2.f = some a := by
  rw [h4]
  obtain ⟨m, rfl⟩ : ∃ k, m = k + 1 := ⟨m - 1, by omega⟩
  simp only [levelsR]
  rw [if_pos h]
  simp only
  cases m with
  | zero => exact hf
  | succ m => simp only [levelsR]; rw [if_neg (by rintro ⟨e, _⟩; rw [hf] at e; cases e)]; exact hf

theorem head_one {s : ByteArray} {k : Nat} {r : RS} (h : k = 1) : headR s k r = (.empty, [(levelR (s.size + 1) s r).1], (levelR (s.size + 1) s r).2) := by unfold headR; rw [if_pos h]
theorem head_two {s : ByteArray} {k p : Nat} (h : k = 2) (hn : isNameB (tokR s p).1 = true) : headR s k ⟨p, none⟩ = ((tokR s p).1, (levelsR (s.size + 2) s ⟨stepAt s p, none⟩).1, (levelsR (s.size + 2) s ⟨stepAt s p, none⟩).2) := by
  unfold headR; rw [if_neg (by omega), if_pos h, name_yes hn]
theorem head_no {s : ByteArray} {k p : Nat} (h : k = 2) (hn : isNameB (tokR s p).1 = false) : (headR s k ⟨p, none⟩).2.2.f = some (tokR s p).2.1 := by
  have h1 := name_no hn
  unfold headR; rw [if_neg (by omega), if_pos h]
  show (levelsR (s.size + 1 + 1) s (nameR s ⟨p, none⟩).2).2.f = _
  simp only [levelsR]
  rw [if_neg (by rintro ⟨e, _⟩; rw [h1] at e; cases e)]
  exact h1
theorem head_else {s : ByteArray} {k : Nat} {r : RS} (h : ¬ k = 1) (h2 : ¬ k = 2) : headR s k r = (.empty, [], r) := by unfold headR; rw [if_neg h, if_neg h2]
theorem levels_stepN {s : ByteArray} {r0 : RS} {q qb m : Nat} {acc : List Lvl} {x : Lvl} (hinv : q ≤ s.size ∧ acc.length + m = s.size + 2 ∧ s.size - q < m ∧ levelsR (s.size + 2) s r0 = (acc ++ (levelsR m s ⟨q, none⟩).1, (levelsR m s ⟨q, none⟩).2))
    (h : ¬ peekR s ⟨q, none⟩ = ⟨#[41]⟩) (hX : levelR (s.size + 1) s ⟨q, none⟩ = (x, ⟨qb, none⟩)) :
    qb ≤ s.size ∧ (acc ++ [x]).length + (m - 1) = s.size + 2 ∧ s.size - qb < m - 1 ∧ levelsR (s.size + 2) s r0 = (acc ++ [x] ++ (levelsR (m - 1) s ⟨qb, none⟩).1, (levelsR (m - 1) s ⟨qb, none⟩).2) := by
  have := levels_step (r' := ⟨q, none⟩) (x := x) ⟨hinv.1, hinv.2.1, fun _ => hinv.2.2.1, hinv.2.2.2⟩ ⟨rfl, h⟩ (by rw [hX])
  rw [hX] at this
  exact ⟨this.1, this.2.1, this.2.2.1 rfl, this.2.2.2⟩

theorem sread_spec (s : ByteArray) (hs : s.size ≤ 1099511627776) : ∀ (n p : Nat), p ≤ s.size → s.size < n + p →
    Tri Tryd.prog (glQ g) 30 [scA s p] [.blk 0 0] (TrQ s (termR n s ⟨p, none⟩)) := by
  intro n
  induction n with
  | zero => intro p hp hn; omega
  | succ n ih =>
    intro p hp hn
    have hsl := stepAt_le hp
    cases hh : hashB (stepTok s p) with
    | true =>
      rw [step_hash] at hh
      have hh2 := hh
      simp only [hashB, Bool.and_eq_true, decide_eq_true_eq] at hh2
      obtain ⟨ht, ha, hf⟩ := step_tok (s := s) (p := p) hh2.1
      have hash := tok_hash (s := s) hp hh2.1 hh2.2
      have hex : ((tokR s p).1.extract 1 (tokR s p).1.size).size = (tokR s p).1.size - 1 := by rw [ByteArray.size_extract]; omega
      have h2s : 2 ≤ (tokR s p).1.size := tok_hash2 hp hh2.1 hh2.2
      have hne : (tokR s p).1 ≠ ⟨#[40]⟩ := by intro e; rw [e] at hh2; exact absurd hh2.2 (by decide)
      rw [termR_num ⟨hh2.1, .inl hh2.2⟩ hne]
      unfold scA scO
      rw [ht]
      refine triS_of_runs Tryd.func30 rfl Tryd.ntmps30 (rs := [.cell 2 29]) rfl rfl rfl 1 rfl ?_
      refine sr ?_; refine oc (T := fun _ => False) (alc ti29 ?_ (hl := by simp only [List.length_cons, List.length_nil, Nat.reduceAdd]; rfl)); refine nx ?_; refine runs_seq ?_; refine sr ?_; refine o1 (mv ?_); refine o1 (ncb ?_)
      refine o1 (fdb ti76 ?_); refine o1 (ldb ti9 ?_); refine oc (T := fun _ => False) (op_call ca56 rfl rfl rfl rfl (cut_spec (tokR s p).1) (fir (fir .nil)) (fun d hd => ?_)); obtain rfl := hd; rw [hh]; refine o1 (mv ?_); refine o1 (ex2 ?_)
      refine o1 (ex2 ?_); refine o1 (asg ?_); refine o1 (asg ?_); refine nx ?_; refine kp [4, 3, 2, 0] ?_; refine sr ?_; refine o1 (mv ?_); refine nx ?_; refine cdf (fun h2 => ?_) (fun h2 => ?_)
      · simp only [nrm, Int.reduceEq, Int.reduceNe, Int.reduceLT, Int.reduceLE] at h2
      (try simp only [nrm, Int.reduceEq, Int.reduceNe, Int.reduceLT, Int.reduceLE] at h2); refine sr ?_; refine o1 (mv ?_)
      refine oc (cv ca57 rfl rfl (atoi_spec ((tokR s p).1.extract 1 (tokR s p).1.size) (by omega) (by omega) hash.2.2) (fir .nil) ?_); refine o1 (mv ?_); refine o1 (ex2 ?_); refine o1 (ex2 ?_); refine o1 (asg ?_); refine o1 (asg ?_); refine nx ?_
      refine runs_seq ?_; refine kp [6, 5, 2, 0] ?_; refine sr ?_; refine o1 (mv ?_); refine o1 (f_ineq_nil ii40 ?_); refine nx ?_; refine cd (fun h4 => ?_) (fun h4 => ?_)
      · simp only [nrm, Int.reduceEq, Int.reduceNe, Int.reduceLT, Int.reduceLE] at h4
      (try simp only [nrm, Int.reduceEq, Int.reduceNe, Int.reduceLT, Int.reduceLE] at h4); refine runs_skip ?_; refine seq_normal ?_; refine sr ?_; refine o1 (mv ?_)
      refine oc (ck ca55 rfl rfl (step_spec s hs (stepAt s p) hsl.2 (tokR s p).1 (tokR s p).2.1) [0] rfl (boc .nil) (fir .nil) ?_); refine nx ?_; refine kp [5, 2] ?_; refine sr ?_; refine o1 (mv ?_); refine o1 (bld ti29 ?_)
      refine oc (sto ti29 ?_); refine nx ?_; refine runs_ret ?_; refine seq_ret ?_; refine fin_ret ?_
      refine fin_odl ⟨_, _, rfl, (from_cell rfl rfl ti29 rfl rfl rfl rfl), rfl⟩ rfl ((Trm.mk 0 (numR ((tokR s p).1.extract 1 (tokR s p).1.size) ((tokR s p).1.extract 1 (tokR s p).1.size).size) .empty [] []).d) (by repeat (first | exact .refl _ | exact .nil | refine .agg ?_ | refine .cons ?_ ?_)) ([0]) ([scA s (stepAt s p)]) rfl rfl rfl ?_ ?_
      · repeat (first | exact boz | refine boc ?_)
      · rw [hex]; exact TrQ.ok hf ⟨rfl, by rw [ha]⟩
    | false =>
      have hh2 := hh
      rw [step_hash] at hh2
      unfold scA scO
      refine triS_of_runs Tryd.func30 rfl Tryd.ntmps30 (rs := [.cell 2 29]) rfl rfl rfl 1 rfl ?_
      refine sr ?_; refine oc (T := fun _ => False) (alc ti29 ?_ (hl := by simp only [List.length_cons, List.length_nil, Nat.reduceAdd]; rfl)); refine nx ?_; refine runs_seq ?_; refine sr ?_; refine o1 (mv ?_); refine o1 (ncb ?_)
      refine o1 (fdb ti76 ?_); refine o1 (ldb ti9 ?_); refine oc (T := fun _ => False) (op_call ca56 rfl rfl rfl rfl (cut_spec (stepTok s p)) (fir (fir .nil)) (fun d hd => ?_)); obtain rfl := hd; rw [hh]; refine o1 (mv ?_); refine o1 (ex2 ?_)
      refine o1 (ex2 ?_); refine o1 (asg ?_); refine o1 (asg ?_); refine nx ?_; refine kp [4, 3, 2, 0] ?_; refine sr ?_; refine o1 (mv ?_); refine nx ?_; refine cd (fun h2 => ?_) (fun h2 => ?_)
      · simp only [nrm, Int.reduceEq, Int.reduceNe, Int.reduceLT, Int.reduceLE] at h2
      (try simp only [nrm, Int.reduceEq, Int.reduceNe, Int.reduceLT, Int.reduceLE] at h2); refine runs_skip ?_; refine seq_normal ?_; refine sr ?_; refine o1 (mv ?_)
      refine oc (op_callo ca59 rfl rfl rfl rfl (stake_spec s hs (stepAt s p) hsl.2 (stepTok s p) ⟨#[40]⟩ (tokR s p).2.1) [0] (boc .nil) rfl rfl rfl rfl (fir (fir .nil)) (fun s ob' hq => ?_) (fun s ob' hq => ?_))
      rotate_left
      · rcases hq with ⟨_, hq1, _⟩ | ⟨htk, hq1, rfl⟩
        · cases hq1
        cases hq1; refine ⟨_, _, _, _, _, rfl, rfl, rfl, rfl, rfl, ?_⟩; refine leave_d ([0]) ([.dead]) rfl rfl rfl (by repeat (first | exact boz | refine bod ?_)) ?_
        rw [termR_bad (by rintro ⟨ha, hb | hb⟩; rw [show hashB (tokR s p).1 = true by simp [hashB, ha, hb]] at hh2; cases hh2; exact htk ((step_is (by decide) (by decide)).2 hb))]; exact TrQ.bad (a := (tokR s p).2.1) rfl ⟨rfl, rfl⟩
      rcases hq with ⟨htk, hq1, rfl⟩ | ⟨_, hq1, _⟩
      rotate_left
      · cases hq1
      cases hq1
      have c2 : (tokR s p).1 = ⟨#[40]⟩ := (step_is (by decide) (by decide)).1 htk
      have hl2 := stepAt_le hsl.2
      have hl1 : p < stepAt s p := by
        have h7 := tokR_at (s := s) hp
        have h9 := step_tok (s := s) (p := p) (by rw [c2]; decide)
        rw [h9.2.1, nextR_ok (by rw [c2]; decide), c2]
        have : (ByteArray.mk #[40]).size = 1 := rfl
        simp only; omega
      unfold scA scO
      refine ⟨_, _, _, _, _, rfl, rfl, rfl, rfl, rfl, ?_⟩; refine nx ?_; refine runs_seq ?_; refine kp [2, 0] ?_; refine a_start ?_ (hm := by exact mixed); refine A1 0 rfl (fl_slice_arr ua95 ti9 rfl rfl rfl rfl rfl (by omega) rfl rfl ⟨_, rfl, ?_⟩)
      refine A1 1 rfl (mv ⟨_, rfl, ?_⟩); refine A1 2 rfl (ncb ⟨_, rfl, ?_⟩); refine A1 3 rfl (fdb ti76 ⟨_, rfl, ?_⟩); refine A1 4 rfl (ldb ti9 ⟨_, rfl, ?_⟩)
      refine A2 (T := fun _ => False) 5 rfl (op_call ca60 rfl rfl rfl rfl (index_spec (wordsT.drop 1) (stepTok s (stepAt s p)) (by decide)) (fir (fir .nil)) (fun d hd => ?_)); obtain rfl := hd
      have hik := idx_kind (stepTok s (stepAt s p))
      have hik2 := kindT_le (stepTok s (stepAt s p))
      refine A1 6 rfl (iad ⟨_, rfl, ?_⟩); refine A1 7 rfl (asg ⟨_, rfl, ?_⟩); refine a_end ?_; refine seq_normal ?_; refine runs_seq ?_; refine runs_seq ?_; refine kp [7, 2, 0] ?_
      rw [idx_kind, step_kind]
      have hkl := kindT_le (tokR s (stepAt s p)).1
      generalize hk : kindT (tokR s (stepAt s p)).1 = k at hkl ⊢
      refine runs_region ?_; refine o1 (mv ?_); refine o1 (ieq ?_); refine nx ?_; refine cd (fun h10 => ?_) (fun h10 => ?_)
      · (try simp only [nrm, Int.reduceEq, Int.reduceNe, Int.reduceLT, Int.reduceLE] at h10)
        refine runs_region ?_; refine o1 (mv ?_)
        refine oc (op_callo ca58 rfl rfl rfl rfl (sfail_spec s (stepAt s (stepAt s p)) (stepTok s (stepAt s p)) (tokR s (stepAt s p)).2.1) [0] (boc .nil) rfl rfl rfl rfl (fir .nil) (fun s ob' hq => ?_) (fun s ob' hq => ?_))
        · cases hq.1
        obtain ⟨hq1, rfl⟩ := hq; cases hq1; refine ⟨_, _, _, _, _, rfl, rfl, rfl, rfl, rfl, ?_⟩; refine leave_d ([0]) ([.dead]) rfl rfl rfl (by repeat (first | exact boz | refine bod ?_)) ?_
        rw [termR_kind c2 (by rw [nextR_eq (by rw [c2]; decide)]; show kindT (tokR s (stepAt s p)).1 = 0; omega), nextR_eq (by rw [c2]; decide)]; exact TrQ.bad (a := (tokR s (stepAt s p)).2.1) rfl ⟨rfl, rfl⟩
      (try simp only [nrm, Int.reduceEq, Int.reduceNe, Int.reduceLT, Int.reduceLE] at h10); refine runs_skip ?_; refine seq_normal ?_; refine sr ?_; refine o1 (mv ?_)
      refine oc (ck ca55 rfl rfl (step_spec s hs (stepAt s (stepAt s p)) hl2.2 (stepTok s (stepAt s p)) (tokR s (stepAt s p)).2.1) [0] rfl (boc .nil) (fir .nil) ?_); refine nx ?_; refine kp [7, 2, 0] ?_; refine sr ?_; refine o1 (mv ?_)
      refine o1 (bld ti29 ?_); refine oc (T := fun _ => False) (alc ti29 ?_ (hl := by simp only [List.length_cons, List.length_nil, Nat.reduceAdd]; rfl)); refine oc (sto ti29 ?_); refine nx ?_; refine runs_seq ?_; refine runs_nilrow 29 5 rfl ?_
      refine runs_region ?_; refine o1 (asg ?_); refine nx ?_; refine runs_seq ?_; refine sr ?_; refine o1 (mv ?_); refine nx ?_; refine kp [49, 9, 8, 2, 0] ?_
      apply runs_cut_o (ι := ByteArray × List Lvl × Nat) (fun ⟨nm, L, q0⟩ => [(9, int (partsOf k))]) (fun ⟨nm, L, q0⟩ => [scA s q0, .cells [.d (.v (.int .i64 0)), .d (.v (.int .i64 0)), .d (.v (.string .empty)), .d (.v (.slice none 0 0)), .d (.v (.slice none 0 0))] 29, .cells [.d (.v (.int .i64 k)), .d (.v (.int .i64 0)), .d (.v (.string nm)), .own 3 3 (lvls L), .d (.v (.slice none 0 0))] 29, .row 90 3, .nilrow 29 5]) [8, 2, 0] (fun ⟨nm, L, q0⟩ => headR s k ⟨(stepAt s (stepAt s p)), none⟩ = (nm, L, ⟨q0, none⟩) ∧ ¬ k = 0)
      case hk => exact rfl
      case h1 =>
        refine runs_block ?_; refine runs_seq ?_
        have hk0 : ¬ k = 0 := by omega
        refine runs_region ?_; refine o1 (ieq ?_); refine o1 (asg ?_); refine nx ?_; refine cd (fun h16 => ?_) (fun h16 => ?_)
        · (try simp only [nrm, Int.reduceEq, Int.reduceNe, Int.reduceLT, Int.reduceLE] at h16)
          refine kp [8, 2, 0] ?_
          have ihL := slevel_spec (gl := glQ g) s hs (s.size + 1) (stepAt s (stepAt s p)) hl2.2 (by omega)
          rcases hla : levelR (s.size + 1) s ⟨(stepAt s (stepAt s p)), none⟩ with ⟨⟨ka, na, aa⟩, ⟨pa, fa⟩⟩
          rw [hla] at ihL
          refine runs_region ?_; refine o1 (mv ?_); refine oc (op_callo ca61 rfl rfl rfl rfl (ihL) [0] (boc .nil) rfl rfl rfl rfl (fir .nil) (fun s ob' hq => ?_) (fun s ob' hq => ?_))
          rotate_left
          · obtain ⟨a, hfa, rfl, rfl⟩ := hq.pan
            refine ⟨_, _, _, _, _, rfl, rfl, rfl, rfl, rfl, ?_⟩; refine leave_d ([0]) ([.dead]) rfl rfl rfl (by repeat (first | exact boz | refine bod ?_)) ?_
            exact TrQ.bad (term_headbad c2 hk hk0 (by rw [head_one (by omega), hla]; exact hfa)) ⟨rfl, rfl⟩
          obtain ⟨hfa, rfl, rfl⟩ := hq.ret; simp only at hfa; subst hfa; refine ⟨_, _, _, _, _, rfl, rfl, rfl, rfl, rfl, ?_⟩
          refine oc (T := fun _ => False) (op_lit sl26 [.tmp 53] ti90 rfl rfl rfl rfl rfl rfl rfl (by decide) (by decide) (by decide) (by simp only [List.length_cons, List.length_nil, Nat.reduceAdd]; rfl) rfl ?_); refine o1 (fdb ti29 ?_)
          refine oc (sto ti26 ?_); refine o1 (asg ?_); refine ops_nil ?_; refine inb_normal ?_; refine seq_back ?_; refine back_c ((.empty, [Lvl.mk ka na aa], pa)) rfl ?_ ([0, 1, 2, 4, 3]) ?_
          · exact ⟨by rw [head_one (by omega), hla], hk0⟩
          · refine mo ?_ (slx rfl (by exact Fit.of_eq (by unfold partsOf; first | (rw [if_pos (by omega)]; rfl) | (rw [if_neg (by omega), if_pos (by omega)]; rfl) | (rw [if_neg (by omega), if_neg (by omega)]; rfl))) (sly (sly (sly slz))))
            repeat (first | exact boz | refine boc ?_ | refine bor ?_ | refine bonn ?_)
        (try simp only [nrm, Int.reduceEq, Int.reduceNe, Int.reduceLT, Int.reduceLE] at h16); refine sr ?_; refine o1 (ieq ?_); refine o1 (asg ?_); refine nx ?_; refine cdf (fun h18 => ?_) (fun h18 => ?_)
        · (try simp only [nrm, Int.reduceEq, Int.reduceNe, Int.reduceLT, Int.reduceLE] at h18)
          refine runs_seq ?_; refine kp [49, 9, 8, 2, 0] ?_; refine runs_nilrow 90 3 rfl ?_; refine runs_region ?_; refine o1 (ieq ?_); refine o1 (asg ?_); refine nx ?_; refine cdf (fun h22 => ?_) (fun h22 => ?_)
          · (try simp only [nrm, Int.reduceEq, Int.reduceNe, Int.reduceLT, Int.reduceLE] at h22)
            refine runs_skip ?_; refine inb_normal ?_; refine seq_back ?_; refine back_c ((.empty, [], (stepAt s (stepAt s p)))) rfl ?_ ([0, 1, 2, 4, 3]) ?_
            · exact ⟨head_else (by omega) (by omega), hk0⟩
            · refine mo ?_ (slx rfl (by exact Fit.of_eq (by unfold partsOf; first | (rw [if_pos (by omega)]; rfl) | (rw [if_neg (by omega), if_pos (by omega)]; rfl) | (rw [if_neg (by omega), if_neg (by omega)]; rfl))) (sly (sly (sly slz))))
              repeat (first | exact boz | exact fiz | refine boc ?_ | refine bonn ?_ | refine bon ?_ | refine boe ?_ ?_ | refine fir ?_ | refine .cons (.nil rfl) ?_)
          (try simp only [nrm, Int.reduceEq, Int.reduceNe, Int.reduceLT, Int.reduceLE] at h22); refine kp [8, 2, 0] ?_; refine runs_region ?_; refine o1 (asg ?_); refine ops_nil ?_; refine inb_normal ?_; refine seq_back ?_
          refine back_c ((.empty, [], (stepAt s (stepAt s p)))) rfl ?_ ([0, 1, 2, 4, 3]) ?_
          · exact ⟨head_else (by omega) (by omega), hk0⟩
          · refine mo ?_ (slx rfl (by exact Fit.of_eq (by unfold partsOf; first | (rw [if_pos (by omega)]; rfl) | (rw [if_neg (by omega), if_pos (by omega)]; rfl) | (rw [if_neg (by omega), if_neg (by omega)]; rfl))) (sly (sly (sly slz))))
            repeat (first | exact boz | exact fiz | refine boc ?_ | refine bonn ?_ | refine bon ?_ | refine boe ?_ ?_ | refine fir ?_ | refine .cons (.nil rfl) ?_)
        (try simp only [nrm, Int.reduceEq, Int.reduceNe, Int.reduceLT, Int.reduceLE] at h18); refine kp [8, 2, 0] ?_; refine sr ?_; refine o1 (mv ?_)
        refine oc (op_callo ca62 rfl rfl rfl rfl (sname_spec s hs (stepAt s (stepAt s (stepAt s p))) (stepAt_le hl2.2).2 (stepTok s (stepAt s (stepAt s p))) (tokR s (stepAt s (stepAt s p))).2.1) [0] (boc .nil) rfl rfl rfl rfl (fir .nil) (fun s ob' hq => ?_) (fun s ob' hq => ?_))
        rotate_left
        · rcases hq with ⟨_, hq1, _⟩ | ⟨hnm, hq1, rfl⟩
          · cases hq1
          cases hq1; refine ⟨_, _, _, _, _, rfl, rfl, rfl, rfl, rfl, ?_⟩; refine leave_d ([0]) ([.dead]) rfl rfl rfl (by repeat (first | exact boz | refine bod ?_)) ?_
          exact TrQ.bad (term_headbad c2 hk hk0 (head_no (by omega) (by rw [← step_isName]; exact hnm))) ⟨rfl, rfl⟩
        rcases hq with ⟨hnm, hq1, rfl⟩ | ⟨_, hq1, _⟩
        rotate_left
        · cases hq1
        cases hq1
        have hnm2 : isNameB (tokR s (stepAt s (stepAt s p))).1 = true := by rw [← step_isName]; exact hnm
        have hnt : (tokR s (stepAt s (stepAt s p))).1 = stepTok s (stepAt s (stepAt s p)) := (step_tok (by intro e; rw [e] at hnm2; simp [isNameB] at hnm2)).1.symm
        refine ⟨_, _, _, _, _, rfl, rfl, rfl, rfl, rfl, ?_⟩; refine o1 (fdb ti29 ?_); refine oc (sto ti9 ?_); refine o1 (asg ?_); refine nx ?_; refine runs_block ?_; refine kp [9, 8, 2, 0] ?_; refine runs_nilrow 90 3 rfl ?_
        apply runs_loop_o (ι := Nat × List Lvl × Nat) (fun ⟨m, acc, q⟩ => []) (fun ⟨m, acc, q⟩ => [scA s q, .cells [.d (.v (.int .i64 0)), .d (.v (.int .i64 0)), .d (.v (.string .empty)), .d (.v (.slice none 0 0)), .d (.v (.slice none 0 0))] 29, .cells [.d (.v (.int .i64 k)), .d (.v (.int .i64 0)), .d (.v (.string (stepTok s (stepAt s (stepAt s p))))), .own 4 3 (lvls acc), .d (.v (.slice none 0 0))] 29, .nilrow 29 5, .row 90 3]) [9, 8, 2, 0] (fun ⟨m, acc, q⟩ => q ≤ s.size ∧ acc.length + m = s.size + 2 ∧ s.size - q < m ∧ levelsR (s.size + 2) s ⟨stepAt s (stepAt s (stepAt s p)), none⟩ = (acc ++ (levelsR m s ⟨q, none⟩).1, (levelsR m s ⟨q, none⟩).2)) (fun ⟨m, acc, q⟩ => m) ((s.size + 2, [], stepAt s (stepAt s (stepAt s p)))) ([0, 1, 2, 3, 4])
        case hk => exact rfl
        case hI =>
          exact ⟨(stepAt_le hl2.2).2, by simp, by omega, rfl⟩
        case hm =>
          refine mo ?_ (sly (sly (sly (sly slz))))
          repeat (first | exact boz | exact fiz | refine boc ?_ | refine bonn ?_ | refine bon ?_ | refine boe ?_ ?_ | refine fir ?_ | refine .cons (.nil rfl) ?_)
        case h =>
          rintro ⟨m, acc, q⟩ hinv
          try dsimp only at hinv
          refine kp [9, 8, 2, 0] ?_; refine runs_seq ?_; refine sr ?_; refine o1 (mv ?_); refine o1 (ncb ?_); refine o1 (fdb ti76 ?_); refine o1 (ldb ti9 ?_); refine o1 (sne ?_); refine nx ?_; refine cdf (fun h20 => ?_) (fun h20 => ?_)
          · (try simp only [nrm, Int.reduceEq, Int.reduceNe, Int.reduceLT, Int.reduceLE] at h20)
            refine runs_exit ?_; refine seq_exit ?_; refine seq_exit ?_; refine inb_exit ?_; refine inb_normal ?_; refine seq_back ?_; refine back_c ((stepTok s (stepAt s (stepAt s p)), acc, q)) rfl ?_ ([0, 1, 2, 4, 3]) ?_
            · exact ⟨by rw [head_two (by omega) hnm2, hinv.2.2.2, levels_stop (by rintro ⟨_, hb⟩; exact hb (peek_step.2 h20)), List.append_nil, hnt], hk0⟩
            · refine mo ?_ (slx rfl (by exact Fit.of_eq (by unfold partsOf; first | (rw [if_pos (by omega)]; rfl) | (rw [if_neg (by omega), if_pos (by omega)]; rfl) | (rw [if_neg (by omega), if_neg (by omega)]; rfl))) (sly (sly (sly slz))))
              repeat (first | exact boz | refine boc ?_ | refine bor ?_ | refine bonn ?_)
          (try simp only [nrm, Int.reduceEq, Int.reduceNe, Int.reduceLT, Int.reduceLE] at h20); refine runs_skip ?_; refine seq_normal ?_; refine runs_block ?_; refine kp [9, 8, 2, 0] ?_
          have hm1 := hinv.2.2.1
          have hpk : ¬ peekR s ⟨q, none⟩ = ⟨#[41]⟩ := fun e => h20 (peek_step.1 e)
          have ihL := slevel_spec (gl := glQ g) s hs (s.size + 1) q hinv.1 (by omega)
          rcases hlb : levelR (s.size + 1) s ⟨q, none⟩ with ⟨⟨kb, nb, ab⟩, ⟨qb, fb⟩⟩
          rw [hlb] at ihL
          have hln := lvls_len acc
          have hlast : lvls acc ++ [[.v (.int .i64 kb), .v (.string nb), .sl 3 (lvls ab)]] = lvls (acc ++ [Lvl.mk kb nb ab]) := by rw [lvls_app]; rfl
          refine a_start ?_ (hm := by exact mixed); refine A1 0 rfl (fdb ti29 ⟨_, rfl, ?_⟩); refine A1 1 rfl (ldb ti26 ⟨_, rfl, ?_⟩); refine A1 2 rfl (mv ⟨_, rfl, ?_⟩)
          refine A2 3 rfl (op_callo ca61 rfl rfl rfl rfl (ihL) [0] (boc .nil) rfl rfl rfl rfl (fir .nil) (fun s ob' hq => ?_) (fun s ob' hq => ?_))
          rotate_left
          · obtain ⟨a, hfa, rfl, rfl⟩ := hq.pan
            refine ⟨_, _, _, _, _, rfl, rfl, rfl, rfl, rfl, ?_⟩; refine leave_d ([0]) ([.dead]) rfl rfl rfl (by repeat (first | exact boz | refine bod ?_)) ?_
            exact TrQ.bad (term_headbad c2 hk hk0 (by rw [head_two (by omega) hnm2]; exact levels_bad hinv.2.2.2 (by omega) ⟨rfl, hpk⟩ (by rw [hlb]; exact hfa))) ⟨rfl, rfl⟩
          obtain ⟨hfb, rfl, rfl⟩ := hq.ret; simp only at hfb; subst hfb; refine ⟨_, _, _, _, _, rfl, rfl, rfl, rfl, rfl, ?_⟩
          refine A2 (T := fun _ => False) 4 rfl (op_lit sl26 [.tmp 69] ti90 rfl rfl rfl rfl rfl rfl rfl (by decide) (by decide) (by decide) (by simp only [List.length_cons, List.length_nil, Nat.reduceAdd]; rfl) rfl ?_)
          refine A2 5 rfl (op_append sl26 rfl rfl rfl rfl rfl rfl rfl (.inl rfl) (by decide) (by simp) (by first | decide | (simp only [maxLen, List.length_cons, List.length_nil, List.length_append, List.length_map]; omega) | omega) rfl rfl rfl ?_)
          refine A1 6 rfl (fdb ti29 ⟨_, rfl, ?_⟩); refine A2 7 rfl (sto ti26 ?_); refine a_end ?_; refine inb_normal ?_; refine seq_back ?_
          rw [hlast]
          refine back_c ((m - 1, acc ++ [Lvl.mk kb nb ab], qb)) rfl ?_ ([0, 1, 2, 3, 4]) ?_
          · exact ⟨levels_stepN hinv hpk hlb, show m - 1 < m by omega⟩
          · refine mo ?_ (sly (sly (sly (sly slz))))
            repeat (first | exact boz | refine boc ?_ | refine bor ?_ | refine bonn ?_)
      case h2 =>
        rintro ⟨nm, L, q0⟩ hcut
        try dsimp only at hcut
        refine kp [9, 8, 2, 0] ?_; refine runs_seq ?_; refine runs_seq ?_; obtain ⟨hcut, hk0⟩ := hcut
        have hh3 := headR_le (s := s) k (r := ⟨(stepAt s (stepAt s p)), none⟩) hl2.2
        rw [hcut] at hh3
        dsimp only at hh3
        have hpl := partsOf_le k
        have hl2l := hl2.1
        refine runs_region ?_; refine o1 (mv ?_); refine o1 (mv ?_); refine nx ?_; refine runs_block ?_; refine kp [76, 75, 8, 2, 0] ?_
        apply runs_loop_o (ι := Nat × Nat) (fun ⟨i, q⟩ => [(76, int i)]) (fun ⟨i, q⟩ => [scA s q, .cells [.d (.v (.int .i64 0)), .d (.v (.int .i64 0)), .d (.v (.string .empty)), .d (.v (.slice none 0 0)), .d (.v (.slice none 0 0))] 29, .cells [.d (.v (.int .i64 k)), .d (.v (.int .i64 0)), .d (.v (.string nm)), .own 3 3 (lvls L), .own 4 5 (trms (partsR (termR n s) i ⟨q0, none⟩).1)] 29, .row 90 3, .row 29 5]) [75, 8, 2, 0] (fun ⟨i, q⟩ => i ≤ partsOf k ∧ q ≤ s.size ∧ stepAt s p ≤ q ∧ (partsR (termR n s) i ⟨q0, none⟩).2 = ⟨q, none⟩) (fun ⟨i, q⟩ => partsOf k - i) ((0, q0)) ([0, 1, 2, 3, 4])
        case hk => exact rfl
        case hI =>
          exact ⟨Nat.zero_le _, hh3.2, by omega, rfl⟩
        case hm =>
          refine mo ?_ (sly (sly (sly (sly (sly slz)))))
          repeat (first | exact boz | exact fiz | refine boc ?_ | refine bor ?_ | refine bon ?_ | refine boe ?_ ?_ | refine fir ?_ | refine .cons (.nil rfl) ?_)
        case h =>
          rintro ⟨i, q⟩ hinv
          try dsimp only at hinv
          refine kp [76, 75, 8, 2, 0] ?_; refine sr ?_; refine o1 (ilt ?_); refine nx ?_; refine runs_seq ?_; refine cdf (fun h25 => ?_) (fun h25 => ?_)
          · (try simp only [nrm, Int.reduceEq, Int.reduceNe, Int.reduceLT, Int.reduceLE] at h25)
            refine runs_exit ?_; refine seq_exit ?_; refine seq_exit ?_; refine inb_exit ?_; refine seq_normal ?_; refine runs_seq ?_; obtain ⟨hi1, hi2, hi3, hi4⟩ := hinv; obtain rfl : i = partsOf k := (by omega); refine runs_region ?_
            refine o1 (mv ?_); refine oc (op_callo ca59 rfl rfl rfl rfl (stake_spec s hs (stepAt s q) (stepAt_le hi2).2 (stepTok s q) ⟨#[41]⟩ (tokR s q).2.1) [0] (boc .nil) rfl rfl rfl rfl (fir (fir .nil)) (fun s ob' hq => ?_) (fun s ob' hq => ?_))
            rotate_left
            · rcases hq with ⟨_, hq1, _⟩ | ⟨htk2, hq1, rfl⟩
              · cases hq1
              cases hq1; refine ⟨_, _, _, _, _, rfl, rfl, rfl, rfl, rfl, ?_⟩; refine leave_d ([0]) ([.dead]) rfl rfl rfl (by repeat (first | exact boz | refine bod ?_)) ?_
              exact TrQ.bad (term_takebad c2 hk hk0 hcut hi4 (fun e => htk2 ((step_is (by decide) (by decide)).2 e))) ⟨rfl, rfl⟩
            rcases hq with ⟨htk2, hq1, rfl⟩ | ⟨_, hq1, _⟩
            rotate_left
            · cases hq1
            cases hq1; refine ⟨_, _, _, _, _, rfl, rfl, rfl, rfl, rfl, ?_⟩; refine nx ?_; refine kp [8, 2] ?_; refine sr ?_; refine o1 (ldb ti29 ?_); refine oc (sto ti29 ?_); refine nx ?_; refine runs_ret ?_; refine fin_ret ?_
            refine fin_odl ⟨_, _, rfl, (from_cell rfl rfl ti29 rfl rfl rfl rfl), rfl⟩ rfl ((Trm.mk k 0 nm L (partsR (termR n s) (partsOf k) ⟨q0, none⟩).1).d) (by exact .refl _) ([0]) ([scA s (stepAt s q)]) rfl rfl rfl ?_ ?_
            · repeat (first | exact boz | refine boc ?_)
            · rw [term_good c2 hk hk0 hcut hi4 ((step_is (by decide) (by decide)).1 htk2)]; exact TrQ.ok rfl ⟨rfl, rfl⟩
          (try simp only [nrm, Int.reduceEq, Int.reduceNe, Int.reduceLT, Int.reduceLE] at h25); refine runs_skip ?_; refine seq_normal ?_; refine runs_seq ?_; refine runs_block ?_; obtain ⟨hi1, hi2, hi3, hi4⟩ := id hinv
          have ihT := ih q hi2 (by omega)
          have hle := termR_le (s := s) n ⟨q, none⟩ hi2
          rcases hlc : termR n s ⟨q, none⟩ with ⟨⟨k2, n2, s2, l2, a2'⟩, ⟨qc, fc⟩⟩
          rw [hlc] at ihT hle
          simp only at hle
          have hln : (trms (partsR (termR n s) i ⟨q0, none⟩).1).length = i := by rw [trms_len, partsR_len]
          have hlast : trms (partsR (termR n s) i ⟨q0, none⟩).1 ++ [[.v (.int .i64 k2), .v (.int .i64 n2), .v (.string s2), .sl 3 (lvls l2), .sl 5 (trms a2')]] = trms (partsR (termR n s) (i + 1) ⟨q0, none⟩).1 := by simp only [partsR]; rw [hi4, hlc, trms_app]; rfl
          refine a_start ?_ (hm := by exact mixed); refine A1 0 rfl (fdb ti29 ⟨_, rfl, ?_⟩); refine A1 1 rfl (ldb ti27 ⟨_, rfl, ?_⟩); refine A1 2 rfl (mv ⟨_, rfl, ?_⟩)
          refine A2 3 rfl (op_callo ca30 rfl rfl rfl rfl (ihT) [0] (boc .nil) rfl rfl rfl rfl (fir .nil) (fun s ob' hq => ?_) (fun s ob' hq => ?_))
          rotate_left
          · obtain ⟨a, hfa, rfl, rfl⟩ := hq.pan
            refine ⟨_, _, _, _, _, rfl, rfl, rfl, rfl, rfl, ?_⟩; refine leave_d ([0]) ([.dead]) rfl rfl rfl (by repeat (first | exact boz | refine bod ?_)) ?_
            exact TrQ.bad (term_partbad c2 hk hk0 hcut (i := i) (by omega) (by rw [hi4, hlc]; exact hfa)) ⟨rfl, rfl⟩
          obtain ⟨hfc, rfl, rfl⟩ := hq.ret; simp only at hfc; subst hfc; refine ⟨_, _, _, _, _, rfl, rfl, rfl, rfl, rfl, ?_⟩
          refine A2 (T := fun _ => False) 4 rfl (op_lit sl27 [.tmp 81] ti29 rfl rfl rfl rfl rfl rfl rfl (by decide) (by decide) (by decide) (by simp only [List.length_cons, List.length_nil, Nat.reduceAdd]; rfl) rfl ?_)
          refine A2 5 rfl (op_append sl27 rfl rfl rfl rfl rfl rfl rfl (.inl rfl) (by decide) (by simp) (by first | decide | (simp only [maxLen, List.length_cons, List.length_nil, List.length_append, List.length_map]; omega) | omega) rfl rfl rfl ?_)
          refine A1 6 rfl (fdb ti29 ⟨_, rfl, ?_⟩); refine A2 7 rfl (sto ti27 ?_); refine a_end ?_; refine inb_normal ?_; refine seq_normal ?_; refine kp [76, 75, 8, 2, 0] ?_; refine runs_region ?_; refine o1 (iad ?_); refine o1 (mv ?_)
          refine ops_nil ?_; refine seq_back ?_
          rw [hlast]
          refine back_c ((i + 1, qc)) rfl ?_ ([0, 1, 2, 3, 4]) ?_
          · exact ⟨⟨by omega, hle.2, by omega, by simp only [partsR]; rw [hinv.2.2.2, hlc]⟩, show partsOf k - (i + 1) < partsOf k - i by omega⟩
          · refine mo ?_ (sly (sly (sly (sly (sly slz)))))
            repeat (first | exact boz | refine boc ?_ | refine bor ?_)
end Go.Proofs.YtneaancanfpdhaaDoor
namespace Go.Proofs.YtneaancanfpdhaaDoor
open Go Go.Vd Go.RowKit
attribute [local irreducible] Runs OpsR OpR FloatR AnyR AnyO
variable {g gl : Nat → List D}

theorem tclos_nil (x y z u v : D) : TriDf Tryd.prog gl 27 [.cells [.d (.v .nilIface)] 40, .cells [.d x, .d y, .d z, .d u, .d v] 29] [.blk 0 0, .blk 1 0] .ret (fun U' ob' => U' = .ret ∧ ob' = [.cells [.d (.v .nilIface)] 40, .cells [.d x, .d y, .d z, .d u, .d v] 29]) := by
  refine triDf_of_runs (Q0 := fun out ob' => out = .ret (.d (.tup [])) ∧ ob' = [.cells [.d (.v .nilIface)] 40, .cells [.d x, .d y, .d z, .d u, .d v] 29]) Tryd.func27 rfl Tryd.ntmps27 (rs := []) rfl rfl rfl 2 rfl ?_ ?_
  · rintro out ob' ⟨rfl, rfl⟩; exact ⟨⟨_, rfl⟩, rfl, rfl⟩
  refine sr ?_; refine o1 (ldb ti40 ?_); refine o1 (f_ineq_nil ii40 ?_); refine nx ?_; refine cd (fun h0 => ?_) (fun h0 => ?_)
  · simp only [nrm, Int.reduceEq, Int.reduceNe, Int.reduceLT, Int.reduceLE] at h0
  (try simp only [nrm, Int.reduceEq, Int.reduceNe, Int.reduceLT, Int.reduceLE] at h0); refine runs_skip ?_; refine fin_normal ?_
  refine fin_od (l := []) rfl rfl ([0, 1]) ([.cells [.d (.v .nilIface)] 40, .cells [.d x, .d y, .d z, .d u, .d v] 29]) rfl rfl rfl ?_ ?_
  · repeat (first | exact boz | refine boc ?_)
  · exact ⟨rfl, rfl⟩
theorem tclos_err (x y z u v : D) (c a : Int) : TriDf Tryd.prog gl 27 [.cells [.d (fltD c a)] 40, .cells [.d x, .d y, .d z, .d u, .d v] 29] [.blk 0 0, .blk 1 0] .ret (fun U' ob' => U' = .ret ∧ ob' = [.cells [.d (fltD c a)] 40, .cells [.d (.v (.int .i64 0)), .d (.v (.int .i64 0)), .d (.v (.string .empty)), .d (.v (.slice none 0 0)), .d (.v (.slice none 0 0))] 29]) := by
  refine triDf_of_runs (Q0 := fun out ob' => out = .ret (.d (.tup [])) ∧ ob' = [.cells [.d (fltD c a)] 40, .cells [.d (.v (.int .i64 0)), .d (.v (.int .i64 0)), .d (.v (.string .empty)), .d (.v (.slice none 0 0)), .d (.v (.slice none 0 0))] 29]) Tryd.func27 rfl Tryd.ntmps27 (rs := []) rfl rfl rfl 2 rfl ?_ ?_
  · rintro out ob' ⟨rfl, rfl⟩; exact ⟨⟨_, rfl⟩, rfl, rfl⟩
  unfold fltD
  refine sr ?_; refine o1 (ldb ti40 ?_); refine o1 (f_ineq_d ii40 ?_); refine nx ?_; refine cdf (fun h0 => ?_) (fun h0 => ?_)
  · simp only [nrm, Int.reduceEq, Int.reduceNe, Int.reduceLT, Int.reduceLE] at h0
  (try simp only [nrm, Int.reduceEq, Int.reduceNe, Int.reduceLT, Int.reduceLE] at h0); refine runs_region ?_; refine o1 (bld ti29 ?_); refine oc (sto ti29 ?_); refine ops_nil ?_; refine fin_normal ?_
  refine fin_od (l := []) rfl rfl ([0, 1]) ([.cells [.d (fltD c a)] 40, .cells [.d (.v (.int .i64 0)), .d (.v (.int .i64 0)), .d (.v (.string .empty)), .d (.v (.slice none 0 0)), .d (.v (.slice none 0 0))] 29]) rfl rfl rfl ?_ ?_
  · repeat (first | exact boz | refine boc ?_)
  · exact ⟨rfl, rfl⟩

theorem parseT_long {s : ByteArray} (h : s.size > 20000) : parseT s = (zeroT, 2, 0) := by unfold parseT; rw [if_pos h]
theorem parseT_fault {s : ByteArray} (h : ¬ s.size > 20000) {a : Nat} (hf : (doneR s (termR (s.size + 1) s ⟨0, none⟩).2).f = some a) : parseT s = (zeroT, 1, (a : Int)) := by
  unfold parseT; rw [if_neg h]; simp only [hf]
theorem parseT_fine {s : ByteArray} (h : ¬ s.size > 20000) (hf : (doneR s (termR (s.size + 1) s ⟨0, none⟩).2).f = none) : parseT s = ((termR (s.size + 1) s ⟨0, none⟩).1, 0, 0) := by
  unfold parseT; rw [if_neg h]; simp only [hf]
theorem tparse_spec (s : ByteArray) : TriD Tryd.prog (glQ g) 12 [.v (.string s)] (· = .tup [(parseT s).1.d, errD (parseT s).2.1 (parseT s).2.2]) := by
  rcases hla : termR (s.size + 1) s ⟨0, none⟩ with ⟨la, pa, fa⟩
  obtain ⟨ka, ma, na, la, aa⟩ := la
  refine triS_of_runsD Tryd.func12 rfl Tryd.ntmps12 (rs := [.cell 2 29, .cell 3 40]) rfl rfl rfl 0 rfl ?_
  refine sr ?_; refine oc (T := fun _ => False) (alc ti29 ?_ (hl := by simp only [List.length_cons, List.length_nil, Nat.reduceAdd]; rfl))
  refine oc (T := fun _ => False) (alc ti40 ?_ (hl := by simp only [List.length_cons, List.length_nil, Nat.reduceAdd]; rfl)); refine nx ?_; refine runs_seq ?_; refine sr ?_; refine o1 (mv ?_); refine o1 (le3 ut9 ?_); refine o1 (igt ?_)
  refine nx ?_; refine cd (fun h1 => ?_) (fun h1 => ?_)
  · (try simp only [nrm, Int.reduceEq, Int.reduceNe, Int.reduceLT, Int.reduceLE] at h1)
    refine kp [3, 2] ?_; refine sr ?_; refine o1 (ldb ti29 ?_); refine o1 (bld ti31 ?_); refine oc (T := fun _ => False) (bx ti31 ?_ (hl := by simp only [List.length_cons, List.length_nil, Nat.reduceAdd]; rfl))
    refine ops_freeze 2 rfl rfl rfl rfl rfl rfl ?_; refine o1 (f_iface_d ?_); refine oc (sto ti29 ?_); refine oc (sto ti40 ?_); refine nx ?_; refine runs_ret ?_; refine seq_ret ?_; refine fin_ret ?_
    refine fin_dl ⟨_, _, rfl, (from_cell rfl rfl ti29 rfl rfl rfl rfl), ⟨_, _, rfl, (from_cell rfl rfl ti40 rfl rfl rfl rfl), rfl⟩⟩ rfl (.tup [zeroT.d, fltD 2 0]) (by repeat (first | exact .refl _ | exact .nil | refine .agg ?_ | refine .tup ?_ | refine .cons ?_ ?_)) ?_
    rw [parseT_long (by omega)]; rfl
  (try simp only [nrm, Int.reduceEq, Int.reduceNe, Int.reduceLT, Int.reduceLE] at h1); refine runs_skip ?_; refine seq_normal ?_; refine rd_start ?_; refine rd_defer_c ca27 rfl rfl rfl rfl rfl rfl rfl rfl rfl ?_
  refine rd_defer_f ca28 rfl rfl rfl rfl rfl ?_; refine rd_go 2 rfl ?_; refine runs_seq ?_
  have hs : s.size ≤ 1099511627776 := by omega
  have hlv := sread_spec (g := g) s hs (s.size + 1) 0 (Nat.zero_le _) (by omega)
  rw [hla] at hlv
  unfold scA scO at hlv
  have hle := termR_le (s := s) (s.size + 1) ⟨0, none⟩ (Nat.zero_le _)
  rw [hla] at hle
  simp only at hle
  refine runs_region ?_; refine o1 (mv ?_); refine oc (op_callo ca29 rfl rfl rfl rfl (new_spec s hs) [] .nil rfl rfl rfl rfl (fir .nil) (fun s ob' hq => ?_) (fun s ob' hq => ?_))
  rotate_left
  · first | exact hq.elim | cases hq.1
  obtain ⟨hq1, rfl⟩ := hq; cases hq1
  unfold scA scO
  refine ⟨_, _, _, _, _, rfl, rfl, rfl, rfl, rfl, ?_⟩; refine o1 (asg ?_); refine nx ?_; refine kp [4, 3, 2] ?_; refine sr ?_; refine o1 (mv ?_)
  refine oc (op_callo ca30 rfl rfl rfl rfl (hlv) [2] (boc .nil) rfl rfl rfl rfl (fir .nil) (fun s ob' hq => ?_) (fun s ob' hq => ?_))
  rotate_left
  · obtain ⟨a, hfa, rfl, rfl⟩ := hq.pan
    refine ⟨_, _, _, _, _, rfl, rfl, rfl, rfl, rfl, ?_⟩
    simp only at hfa; subst hfa
    refine ⟨_, rfl, fun n => ?_⟩; refine lv_call (catch_pan _ 1 a) [1] (.cons rfl (.cells rfl (FitL.rfl _)) .nil) rfl rfl rfl rfl (.cons (.refl _) .nil) (fun U' ob' hq => ?_); obtain ⟨rfl, rfl⟩ := hq; refine ⟨_, _, _, _, rfl, rfl, rfl, rfl, ?_⟩
    refine lv_call (tclos_err _ _ _ _ _ 1 a) [1, 0] (.cons rfl (.cells rfl (FitL.rfl _)) (.cons rfl (.cells rfl (FitL.rfl _)) .nil)) rfl rfl rfl rfl (.cons (.refl _) (.cons (.refl _) .nil)) (fun U' ob' hq => ?_); obtain ⟨rfl, rfl⟩ := hq
    refine ⟨_, _, _, _, rfl, rfl, rfl, rfl, ?_⟩; refine lv_end rfl ?_
    refine fin_dl ⟨_, _, rfl, (from_cell rfl rfl ti29 rfl rfl rfl rfl), ⟨_, _, rfl, (from_cell rfl rfl ti40 rfl rfl rfl rfl), rfl⟩⟩ rfl (.tup [zeroT.d, fltD 1 a]) (.tup (.cons (.agg (.cons (.refl _) (.cons (.refl _) (.cons (.refl _) (.cons .nil (.cons .nil .nil)))))) (.cons (.refl _) .nil))) ?_
    rw [parseT_fault (by omega) (a := a) (by rw [hla]; exact doneR_some)]; rfl
  obtain ⟨hfa, rfl, rfl⟩ := hq.ret
  simp only at hfa; subst hfa
  unfold scA scO
  refine ⟨_, _, _, _, _, rfl, rfl, rfl, rfl, rfl, ?_⟩; refine oc (sto ti29 ?_); refine nx ?_; refine sr ?_; refine o1 (mv ?_)
  refine oc (op_callo ca31 rfl rfl rfl rfl (send_spec s (stepAt s pa) (stepTok s pa) (tokR s pa).2.1) [2] (boc .nil) rfl rfl rfl rfl (fir .nil) (fun s ob' hq => ?_) (fun s ob' hq => ?_))
  rotate_left
  · rcases hq with ⟨_, hq1, _⟩ | ⟨hte, hq1, rfl⟩
    · cases hq1
    cases hq1; refine ⟨_, _, _, _, _, rfl, rfl, rfl, rfl, rfl, ?_⟩; refine ⟨_, rfl, fun n => ?_⟩
    refine lv_call (catch_pan _ 1 (tokR s pa).2.1) [1] (.cons rfl (.cells rfl (FitL.rfl _)) .nil) rfl rfl rfl rfl (.cons (.refl _) .nil) (fun U' ob' hq => ?_); obtain ⟨rfl, rfl⟩ := hq; refine ⟨_, _, _, _, rfl, rfl, rfl, rfl, ?_⟩
    refine lv_call (tclos_err _ _ _ _ _ 1 (tokR s pa).2.1) [1, 0] (.cons rfl (.cells rfl (FitL.rfl _)) (.cons rfl (.cells rfl (FitL.rfl _)) .nil)) rfl rfl rfl rfl (.cons (.refl _) (.cons (.refl _) .nil)) (fun U' ob' hq => ?_)
    obtain ⟨rfl, rfl⟩ := hq; refine ⟨_, _, _, _, rfl, rfl, rfl, rfl, ?_⟩; refine lv_end rfl ?_
    refine fin_dl ⟨_, _, rfl, (from_cell rfl rfl ti29 rfl rfl rfl rfl), ⟨_, _, rfl, (from_cell rfl rfl ti40 rfl rfl rfl rfl), rfl⟩⟩ rfl (.tup [zeroT.d, fltD 1 (tokR s pa).2.1]) (.tup (.cons (.agg (.cons (.refl _) (.cons (.refl _) (.cons (.refl _) (.cons .nil (.cons .nil .nil)))))) (.cons (.refl _) .nil))) ?_
    rw [parseT_fault (by omega) (a := (tokR s pa).2.1) (by rw [hla]; exact doneR_no hte)]; rfl
  rcases hq with ⟨hte, hq1, rfl⟩ | ⟨_, hq1, _⟩
  rotate_left
  · cases hq1
  cases hq1; refine ⟨_, _, _, _, _, rfl, rfl, rfl, rfl, rfl, ?_⟩; refine nx ?_; refine kp [3, 2] ?_; refine sr ?_; refine o1 (ldb ti29 ?_); refine oc (sto ti29 ?_); refine oc (sto ti40 ?_); refine nx ?_; refine runs_ret ?_; refine finT_ret ?_
  refine lv_call (catch_ret _) [1] (.cons rfl (.cells rfl (FitL.rfl _)) .nil) rfl rfl rfl rfl (.cons (.refl _) .nil) (fun U' ob' hq => ?_); obtain ⟨rfl, rfl⟩ := hq; refine ⟨_, _, _, _, rfl, rfl, rfl, rfl, ?_⟩
  refine lv_call (tclos_nil _ _ _ _ _) [1, 0] (.cons rfl (.cells rfl (FitL.rfl _)) (.cons rfl (.cells rfl (FitL.rfl _)) .nil)) rfl rfl rfl rfl (.cons (.refl _) (.cons (.refl _) .nil)) (fun U' ob' hq => ?_); obtain ⟨rfl, rfl⟩ := hq
  refine ⟨_, _, _, _, rfl, rfl, rfl, rfl, ?_⟩; refine lv_end rfl ?_
  refine fin_dl ⟨_, _, rfl, (from_cell rfl rfl ti29 rfl rfl rfl rfl), ⟨_, _, rfl, (from_cell rfl rfl ti40 rfl rfl rfl rfl), rfl⟩⟩ rfl (.tup [(Trm.mk ka ma na la aa).d, .v .nilIface]) (by exact .refl _) ?_
  rw [parseT_fine (by omega) (by rw [hla]; exact doneR_yes hte), hla]; rfl
end Go.Proofs.YtneaancanfpdhaaDoor
namespace Go.Proofs.YtneaancanfpdhaaDoor
open Go Go.Vd Go.RowKit
attribute [local irreducible] Runs OpsR OpR FloatR AnyR AnyO
variable {gl : Nat → List D}

end Go.Proofs.YtneaancanfpdhaaDoor
namespace Go.Proofs.YtneaancanfpdhaaDoor
open Go Go.Vd Go.RowKit
attribute [local irreducible] Runs OpsR OpR FloatR AnyR AnyO
variable {g gl : Nat → List D}

theorem parseTerm_spec (s : ByteArray) : TriD Tryd.prog (glT g) 6 [.v (.string s)] (· = .tup [(parseT s).1.d, .agg [.v (.int .i64 (parseT s).2.1), .v (.int .i64 (parseT s).2.2)]]) := by
  refine triD_of_runs Tryd.func6 rfl Tryd.ntmps6 (rs := [.cell 2 29, .cell 3 31]) rfl rfl rfl ?_
  refine sr ?_; refine oc (T := fun _ => False) (alc ti29 ?_ (hl := by simp only [List.length_cons, List.length_nil, Nat.reduceAdd]; rfl))
  refine oc (T := fun _ => False) (alc ti31 ?_ (hl := by simp only [List.length_cons, List.length_nil, Nat.reduceAdd]; rfl)); refine nx ?_; refine runs_seq ?_; refine sr ?_; refine o1 (mv ?_); refine o1 (le3 ut9 ?_); refine o1 (igt ?_)
  refine nx ?_; refine cd (fun h1 => ?_) (fun h1 => ?_)
  · (try simp only [nrm, Int.reduceEq, Int.reduceNe, Int.reduceLT, Int.reduceLE] at h1)
    refine kp [3, 2] ?_; refine sr ?_; refine o1 (bld ti29 ?_); refine o1 (bld ti31 ?_); refine oc (sto ti29 ?_); refine oc (sto ti31 ?_); refine nx ?_; refine runs_ret ?_; refine seq_ret ?_; refine fin_ret ?_
    refine fin_dl ⟨_, _, rfl, (from_cell rfl rfl ti29 rfl rfl rfl rfl), ⟨_, _, rfl, (from_cell rfl rfl ti31 rfl rfl rfl rfl), rfl⟩⟩ rfl (.tup [zeroT.d, .agg [.v (.int .i64 2), .v (.int .i64 0)]]) (by repeat (first | exact .refl _ | exact .nil | refine .agg ?_ | refine .tup ?_ | refine .cons ?_ ?_)) ?_
    unfold parseT; rw [if_pos (by omega)]
  (try simp only [nrm, Int.reduceEq, Int.reduceNe, Int.reduceLT, Int.reduceLE] at h1); refine runs_skip ?_; refine seq_normal ?_; refine sr ?_; refine o1 (mv ?_); refine o1 (bld ti54 ?_)
  refine oc (T := fun _ => False) (bx ti54 ?_ (hl := by simp only [List.length_cons, List.length_nil, Nat.reduceAdd]; rfl)); refine o1 (asg ?_); refine nx ?_; refine runs_seq ?_; refine kp [4, 3, 2] ?_
  obtain ⟨k1, n1, s1, l1, a1, hX⟩ := Trm.case (termR (s.size + 1) s ⟨0, none⟩).1
  have hs : s.size ≤ 1099511627776 := by omega
  have hle := termR_le (s := s) (s.size + 1) ⟨0, none⟩ (Nat.zero_le _)
  refine runs_region ?_; refine o1 (mv ?_); refine oc (op_callo ca18 rfl rfl rfl rfl (term_spec s hs (s.size + 1) ⟨0, none⟩ (Nat.zero_le _) (by simp)) [2] (boc .nil) rfl rfl rfl rfl (fir .nil) (fun s ob' hq => ?_) (fun s ob' hq => ?_))
  rotate_left
  · first | exact hq.elim | cases hq.1
  obtain ⟨hq1, rfl⟩ := hq; rw [hX] at hq1; cases hq1; refine ⟨_, _, _, _, _, rfl, rfl, rfl, rfl, rfl, ?_⟩; refine oc (T := fun _ => False) (alc ti29 ?_ (hl := by simp only [List.length_cons, List.length_nil, Nat.reduceAdd]; rfl))
  refine oc (sto ti29 ?_); refine nx ?_; refine sr ?_; refine o1 (mv ?_); refine oc (ck ca19 rfl rfl (done_spec s (termR (s.size + 1) s ⟨0, none⟩).2 hs hle.2) [2] rfl (boc .nil) (fir .nil) ?_)
  refine oc (T := fun _ => False) (alc ti31 ?_ (hl := by simp only [List.length_cons, List.length_nil, Nat.reduceAdd]; rfl)); refine oc (sto ti31 ?_); refine nx ?_; refine runs_seq ?_; refine kp [6, 5, 3, 2] ?_; refine sr ?_
  refine o1 (fdb ti31 ?_); refine o1 (ldb ti3 ?_); refine o1 (ine ?_); refine nx ?_; refine cdf (fun h6 => ?_) (fun h6 => ?_)
  · (try simp only [nrm, Int.reduceEq, Int.reduceNe, Int.reduceLT, Int.reduceLE] at h6)
    refine runs_skip ?_; refine seq_normal ?_; refine runs_seq ?_; refine a_start ?_ (hm := by exact mixed); refine A1 0 rfl (ldb ti29 ⟨_, rfl, ?_⟩); refine A1 1 rfl (ldb ti31 ⟨_, rfl, ?_⟩); refine A2 2 rfl (sto ti29 ?_)
    refine A2 3 rfl (sto ti31 ?_); refine a_end ?_; refine seq_normal ?_; refine runs_ret ?_; refine fin_ret ?_
    refine fin_dl ⟨_, _, rfl, (from_cell rfl rfl ti29 rfl rfl rfl rfl), ⟨_, _, rfl, (from_cell rfl rfl ti31 rfl rfl rfl rfl), rfl⟩⟩ rfl (.tup [(Trm.mk k1 n1 s1 l1 a1).d, .agg [.v (.int .i64 (fcode (doneR s (termR (s.size + 1) s ⟨0, none⟩).2).f)), .v (.int .i64 (fat (doneR s (termR (s.size + 1) s ⟨0, none⟩).2).f))]]) (by exact .refl _) ?_
    rw [parseT_good (by omega) h6, hX]
  (try simp only [nrm, Int.reduceEq, Int.reduceNe, Int.reduceLT, Int.reduceLE] at h6); refine runs_seq ?_; refine kp [6, 3, 2] ?_; refine a_start ?_ (hm := by exact mixed); refine A1 0 rfl (bld ti29 ⟨_, rfl, ?_⟩)
  refine A1 1 rfl (ldb ti31 ⟨_, rfl, ?_⟩); refine A2 2 rfl (sto ti29 ?_); refine A2 3 rfl (sto ti31 ?_); refine a_end ?_; refine seq_normal ?_; refine runs_ret ?_; refine seq_ret ?_; refine fin_ret ?_
  refine fin_dl ⟨_, _, rfl, (from_cell rfl rfl ti29 rfl rfl rfl rfl), ⟨_, _, rfl, (from_cell rfl rfl ti31 rfl rfl rfl rfl), rfl⟩⟩ rfl (.tup [zeroT.d, .agg [.v (.int .i64 (fcode (doneR s (termR (s.size + 1) s ⟨0, none⟩).2).f)), .v (.int .i64 (fat (doneR s (termR (s.size + 1) s ⟨0, none⟩).2).f))]]) (by repeat (first | exact .refl _ | exact .nil | refine .agg ?_ | refine .tup ?_ | refine .cons ?_ ?_)) ?_
  rw [parseT_bad (by omega) h6]

end Go.Proofs.YtneaancanfpdhaaDoor
namespace Go.Proofs.YtneaancanfpdhaaDoor
open Go Go.Vd Go.RowKit
attribute [local irreducible] Runs OpsR OpR FloatR AnyR AnyO
variable {gl : Nat → List D}

theorem limit_spec (n : Int) (h0 : -9223372036854775808 ≤ n) (h1 : n ≤ 9223372036854775807) : TriD Tryd.prog gl 8 [.v (.int .i64 n)] (· = .v (.int .i64 (if n < 0 then (-(n + 1)) % 6 else n % 6))) := by
  refine triD_of_runs Tryd.func8 rfl Tryd.ntmps8 (rs := [.tmp 2]) rfl rfl rfl ?_
  refine sr ?_; refine o1 (asg ?_); refine nx ?_; refine runs_seq ?_; refine sr ?_; refine o1 (mv ?_); refine o1 (ilt ?_); refine nx ?_; refine cdf (fun h1 => ?_) (fun h1 => ?_)
  · (try simp only [nrm, Int.reduceEq, Int.reduceNe, Int.reduceLT, Int.reduceLE] at h1)
    refine runs_skip ?_; refine seq_normal ?_; refine sr ?_; refine o1 (mv ?_); refine o1 (f_rem ?_); refine o1 (asg ?_); refine nx ?_; refine runs_ret ?_; refine fin_ret ?_; refine fin_d1 rfl rfl ?_
    rw [if_neg (by omega)]
  (try simp only [nrm, Int.reduceEq, Int.reduceNe, Int.reduceLT, Int.reduceLE] at h1); refine runs_region ?_; refine o1 (mv ?_); refine o1 (iad ?_); refine o1 (f_neg64 ?_); refine o1 (asg ?_); refine nx ?_; refine kp [0] ?_; refine sr ?_
  refine o1 (mv ?_); refine o1 (f_rem ?_); refine o1 (asg ?_); refine nx ?_; refine runs_ret ?_; refine fin_ret ?_; refine fin_d1 rfl rfl ?_
  rw [if_pos (by omega)]

end Go.Proofs.YtneaancanfpdhaaDoor
namespace Go.Proofs.YtneaancanfpdhaaDoor
open Go Go.Vd Go.RowKit
attribute [local irreducible] Runs OpsR OpR FloatR AnyR AnyO
variable {g gl : Nat → List D}

section
variable {P : Program} {GL : Nat → List D} {o : Oper} {σ : St} {K : SV → List Nat → Prop}
theorem errD_ifc {c a : Int} (h : ¬ c = 0) : ∃ U d, errD c a = .ifc U d := by rw [errD_ne h]; exact ⟨_, _, rfl⟩
/-- an error, of which it is not known whether it is nil, against nil -/
theorem fl_ineq_err {T T' : TypeId} {x : Operand} {c a : Int} (hp : isIfc P T = true) (ho : o.op = .binOp .neq T x (.const .nilIface) T') (hx : evO GL σ.sl x = some (.d (errD c a))) (hK : K (.d (.v (.bool (decide (¬ c = 0))))) []) : FloatR P GL o σ K := by
  by_cases h : c = 0
  · subst h
    exact fl_ineq_nil hp ho hx hK
  · obtain ⟨U, d, hd⟩ := errD_ifc (a := a) h
    rw [hd] at hx
    rw [decide_eq_true h] at hK
    exact fl_ineq_d hp ho hx hK
end
/-- (lam #0 (app #0 #1)), #3, and what they become -/
def tA : Trm := .mk 4 0 .empty [] [.mk 0 0 .empty [] [], .mk 3 0 .empty [] [.mk 0 0 .empty [] [], .mk 0 1 .empty [] []]]
def tB : Trm := .mk 0 3 .empty [] []
def txA : ByteArray := ⟨#[40, 108, 97, 109, 32, 35, 48, 32, 40, 97, 112, 112, 32, 35, 48, 32, 35, 49, 41, 41]⟩
def txB : ByteArray := ⟨#[35, 51]⟩
def txC : ByteArray := ⟨#[40, 108, 97, 109, 32, 35, 51, 32, 40, 97, 112, 112, 32, 35, 48, 32, 35, 52, 41, 41]⟩
def txD : ByteArray := ⟨#[40, 108, 97, 109, 32, 35, 50, 32, 40, 97, 112, 112, 32, 35, 48, 32, 35, 51, 41, 41]⟩
def tC : Trm := .mk 4 0 .empty [] [.mk 0 3 .empty [] [], .mk 3 0 .empty [] [.mk 0 0 .empty [] [], .mk 0 4 .empty [] []]]
def tD : Trm := .mk 4 0 .empty [] [.mk 0 2 .empty [] [], .mk 3 0 .empty [] [.mk 0 0 .empty [] [], .mk 0 3 .empty [] []]]
theorem wr_A : wrT tA = txA := by decide +kernel
theorem wr_B : wrT tB = txB := by decide +kernel
theorem wr_C : wrT tC = txC := by decide +kernel
theorem wr_D : wrT tD = txD := by decide +kernel
theorem good_A : goodT tA := by
  refine ⟨fun l hl => (by cases hl), ⟨⟨fun l hl => (by cases hl), trivial, .inl ⟨rfl, by decide, by decide, rfl, rfl, rfl⟩⟩, ⟨fun l hl => (by cases hl), ⟨⟨fun l hl => (by cases hl), trivial, .inl ⟨rfl, by decide, by decide, rfl, rfl, rfl⟩⟩, ⟨fun l hl => (by cases hl), trivial, .inl ⟨rfl, by decide, by decide, rfl, rfl, rfl⟩⟩, trivial⟩, .inr (.inr (.inr (.inl ⟨by decide, rfl, rfl, rfl, rfl⟩)))⟩, trivial⟩, .inr (.inr (.inr (.inl ⟨by decide, rfl, rfl, rfl, rfl⟩)))⟩
theorem good_B : goodT tB := ⟨fun l hl => (by cases hl), trivial, .inl ⟨rfl, by decide, by decide, rfl, rfl, rfl⟩⟩
theorem read_A : parseT txA = (tA, 0, 0) := by rw [← wr_A]; exact parse_print good_A (by rw [wr_A]; decide)
theorem read_B : parseT txB = (tB, 0, 0) := by rw [← wr_B]; exact parse_print good_B (by rw [wr_B]; decide)
theorem sub_AB : substT tA tB = tC := by rfl
theorem lift_A : liftT tA 2 0 = tD := by rfl

theorem facts_spec (h3g : g 2 = wordsD) (h7g : g (laysM246_ren.g 17) = p10D) : TriD Tryd.prog (glQ g) 5 [] (· = .v (.bool true)) := by
  have q1 := tparse_spec (g := g) txA
  have q2 := tparse_spec (g := g) txB
  rw [read_A] at q1
  rw [read_B] at q2
  simp only [errD_zero] at q1 q2
  have okA : okT tA := by have := (parse_ok txA).1; rwa [read_A] at this
  have okB : okT tB := by have := (parse_ok txB).1; rwa [read_B] at this
  have s1 := subst_spec (gl := glQ g) (B := 999999) (by decide) 0 3 .empty [] [] (okT_num okB) (by decide) 4 0 .empty [] [.mk 0 0 .empty [] [], .mk 3 0 .empty [] [.mk 0 0 .empty [] [], .mk 0 1 .empty [] []]] (okT_num okA) (by decide)
  have l1 := lift_spec (gl := glQ g) (B := 999999) (m0 := 2) (fr := 0) (by decide) (by decide) (by decide) 4 0 .empty [] [.mk 0 0 .empty [] [], .mk 3 0 .empty [] [.mk 0 0 .empty [] [], .mk 0 1 .empty [] []]] (okT_num okA) (by decide)
  have okC : okT tC := by rw [← sub_AB]; exact (okT_subst (B := 99999) (M := 10) okA (good_num good_A) okB (good_num good_B) (by decide) (by decide) (by decide)).1
  have okD : okT tD := by rw [← lift_A]; exact okT_lift okA (good_num good_A) (by decide) (by decide)
  have p1 := tprint_spec h3g h7g 4 0 .empty [] [.mk 0 3 .empty [] [], .mk 3 0 .empty [] [.mk 0 0 .empty [] [], .mk 0 4 .empty [] []]] (by decide) okC
  have p2 := tprint_spec h3g h7g 4 0 .empty [] [.mk 0 2 .empty [] [], .mk 3 0 .empty [] [.mk 0 0 .empty [] [], .mk 0 3 .empty [] []]] (by decide) okD
  change TriD _ _ _ _ (fun d => d = .v (.string (wrT tC))) at p1
  change TriD _ _ _ _ (fun d => d = .v (.string (wrT tD))) at p2
  rw [wr_C] at p1
  rw [wr_D] at p2
  refine triD_of_runs Tryd.func5 rfl Tryd.ntmps5 (rs := [.tmp 0]) rfl rfl rfl ?_
  refine sr ?_; refine o1 (asg ?_); refine nx ?_; refine sr ?_; refine oc (cv ca12 rfl rfl (q1) (fir .nil) ?_); refine o1 (mv ?_); refine o1 (ex2 ?_); refine o1 (ex2 ?_)
  refine oc (T := fun _ => False) (alc ti29 ?_ (hl := by simp only [List.length_cons, List.length_nil, Nat.reduceAdd]; rfl)); refine oc (sto ti29 ?_); refine o1 (asg ?_); refine nx ?_; refine kp [2, 1] ?_; refine sr ?_
  refine oc (cv ca12 rfl rfl (q2) (fir .nil) ?_); refine o1 (mv ?_); refine o1 (ex2 ?_); refine o1 (ex2 ?_); refine oc (T := fun _ => False) (alc ti29 ?_ (hl := by simp only [List.length_cons, List.length_nil, Nat.reduceAdd]; rfl))
  refine oc (sto ti29 ?_); refine o1 (asg ?_); refine nx ?_; refine runs_seq ?_; refine kp [4, 3, 2, 1] ?_; refine sr ?_; refine o1 (mv ?_); refine o1 (f_ineq_nil ii40 ?_); refine o1 (mv ?_)
  apply ops_or (yt := 19) (d := 17) 2 rfl rfl rfl (.none rfl) rfl rfl
  case h1 =>
    intro hb4 hK
    have hc := hb4; (try simp only [nrm, Int.reduceEq, Int.reduceNe, Int.reduceLT, Int.reduceLE] at hc)
    refine gye ?_ (hbw := by exact hb4); refine o1 (mv ?_); refine gye ?_ (hbw := by exact hb4); refine o1 (f_ineq_nil ii40 ?_); exact hK [_, _] rfl rfl
  case h2 =>
    intro hb4 hK; refine gno ?_ (hbw := by exact hb4); refine gno ?_ (hbw := by exact hb4); exact hK [_, _] rfl
  refine nx ?_; refine cd (fun h3 => ?_) (fun h3 => ?_)
  · simp only [nrm, Int.reduceEq, Int.reduceNe, Int.reduceLT, Int.reduceLE] at h3
  (try simp only [nrm, Int.reduceEq, Int.reduceNe, Int.reduceLT, Int.reduceLE] at h3); refine runs_skip ?_; refine seq_normal ?_; refine kp [3, 1] ?_; refine sr ?_; refine o1 (ldb ti29 ?_); refine o1 (ldb ti29 ?_)
  refine oc (cv ca10 rfl rfl (s1) (fid (fid .nil)) ?_); refine oc (cv ca9 rfl rfl (p1) (fir .nil) ?_); refine o1 (asg ?_); refine nx ?_; refine kp [5, 1] ?_; refine sr ?_; refine o1 (ldb ti29 ?_)
  refine oc (cv ca11 rfl rfl (l1) (fid (fir (fir .nil))) ?_); refine oc (cv ca9 rfl rfl (p2) (fir .nil) ?_); refine o1 (asg ?_); refine nx ?_; refine kp [6, 5] ?_; refine sr ?_; refine o1 (mv ?_); refine o1 (seq1 ?_); refine o1 (mv ?_)
  apply ops_and (yt := 32) (d := 30) 2 rfl rfl rfl (.none rfl) rfl rfl
  case h1 =>
    intro hb5 hK
    have hc := hb5; (try simp only [nrm, Int.reduceEq, Int.reduceNe, Int.reduceLT, Int.reduceLE] at hc)
    refine gye ?_ (hbw := by exact hb5); refine o1 (mv ?_); refine gye ?_ (hbw := by exact hb5); refine o1 (seq1 ?_); exact hK [_, _] rfl rfl
  case h2 =>
    intro hb5 hK; refine gno ?_ (hbw := by exact hb5); refine gno ?_ (hbw := by exact hb5); exact hK [_, _] rfl
  refine o1 (asg ?_); refine nx ?_; refine runs_ret ?_; refine fin_ret ?_; refine fin_d1 rfl rfl ?_
  simp [txC, txD]

end Go.Proofs.YtneaancanfpdhaaDoor
