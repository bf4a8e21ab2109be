/-
  What is proved here, text by text: facts of the seat's types and functions, as the rules ask for them. contracts of the reference's functions on levels: among, Params, Worth, SameLevel. contracts of the reference's reader: nameByte, isName, token. contracts of the reference's reader: fail, next, take, done. contracts of the reference's reader: level, ParseLevel. what the reference's reader reads is a level. a level is the same as itself; the steps of a script, as data. from what a statement says of its argument to the states of the layer, and back: whatever lies in memory when the call begins is data that stays. the program's way to compare levels, in plain words: forms, their meeting, what they say of levels under all numbers. No program in sight. what is printed of a level is read again as that level. No program in sight. rules for digits (subtraction of bytes, a text's bytes as a slice); over any program. terms as data; what the reference's reader of terms computes, in plain words. terms whose variables are moved: lifting, substitution, closed terms, heads and arguments, as plain functions. parts of terms looked at, heads and arguments, as plain functions. laws of terms whose variables are moved: the substitution lemmas, as plain facts.
-/
import Derived.Test.YtneaancanfpdhaaGreatDoorI2
import Derived.Test.YtneaancanfpdhaaGreatDoorRows
import Derived.KernelRfl
import Derived.ProofKit
import Derived.LaidMore
import Derived.OpenShut
import Derived.Carry
import Derived.Stop.Joined
import Derived.Lib.ConvBytes
set_option linter.unusedSimpArgs false
set_option linter.unusedVariables false
namespace Go.Proofs.YtneaancanfpdhaaGreatDoor
open Go Go.Vd
theorem ti3 : tiOf Tryz.prog 3 = ⟨true, 1, false, [], false, [.int .i64 0], true, 0, none, [.int .i64]⟩ := by kernel_rfl
theorem ui3 : Tryz.prog.underlying 3 = some (.int .i64) := by kernel_rfl
theorem uo3 : (Tryz.prog.underlying 3).isSome = true := by kernel_rfl
theorem ub4 : Tryz.prog.underlying 4 = some .bool := by kernel_rfl
theorem ti5 : tiOf Tryz.prog 5 = ⟨true, 1, false, [], false, [.int .u8 0], true, 0, none, [.int .u8]⟩ := by kernel_rfl
theorem ui5 : Tryz.prog.underlying 5 = some (.int .u8) := by kernel_rfl
theorem uo5 : (Tryz.prog.underlying 5).isSome = true := by kernel_rfl
theorem ti9 : tiOf Tryz.prog 9 = ⟨true, 1, false, [], false, [.string .empty], true, 0, none, [.str]⟩ := by kernel_rfl
theorem ut9 : Tryz.prog.underlying 9 = some .string := by kernel_rfl
theorem ti22 : tiOf Tryz.prog 22 = ⟨true, 1, false, [], false, [.slice none 0 0], true, 25, none, [.slice]⟩ := by kernel_rfl
theorem us22 : Tryz.prog.underlying 22 = some (.slice (tiOf Tryz.prog 22).elem) := by kernel_rfl
theorem te22 : tiOf Tryz.prog (tiOf Tryz.prog 22).elem = ⟨true, 6, true, [(0, 1, false), (1, 1, false), (2, 1, false), (3, 1, false), (4, 1, false), (5, 1, false)], true, [.int .i64 0, .string .empty, .string .empty, .string .empty, .int .i64 0, .int .i64 0], true, 0, none, [.int .i64, .str, .str, .str, .int .i64, .int .i64]⟩ := by kernel_rfl
theorem ti25 : tiOf Tryz.prog 25 = ⟨true, 6, true, [(0, 1, false), (1, 1, false), (2, 1, false), (3, 1, false), (4, 1, false), (5, 1, false)], true, [.int .i64 0, .string .empty, .string .empty, .string .empty, .int .i64 0, .int .i64 0], true, 0, none, [.int .i64, .str, .str, .str, .int .i64, .int .i64]⟩ := by kernel_rfl
theorem ti28 : tiOf Tryz.prog 28 = ⟨true, 1, false, [], false, [.slice none 0 0], true, 45, none, [.slice]⟩ := by kernel_rfl
theorem us28 : Tryz.prog.underlying 28 = some (.slice (tiOf Tryz.prog 28).elem) := by kernel_rfl
theorem te28 : tiOf Tryz.prog (tiOf Tryz.prog 28).elem = ⟨true, 3, true, [(0, 1, false), (1, 1, false), (2, 1, false)], true, [.int .i64 0, .string .empty, .slice none 0 0], true, 0, none, [.int .i64, .str, .slice]⟩ := by kernel_rfl
theorem sl28 : SlTy Tryz.prog 28 45 3 48 := ⟨by kernel_rfl, by kernel_rfl, by kernel_rfl⟩
theorem ti29 : tiOf Tryz.prog 29 = ⟨true, 1, false, [], false, [.slice none 0 0], true, 31, none, [.slice]⟩ := by kernel_rfl
theorem us29 : Tryz.prog.underlying 29 = some (.slice (tiOf Tryz.prog 29).elem) := by kernel_rfl
theorem te29 : tiOf Tryz.prog (tiOf Tryz.prog 29).elem = ⟨true, 5, true, [(0, 1, false), (1, 1, false), (2, 1, false), (3, 1, false), (4, 1, false)], true, [.int .i64 0, .int .i64 0, .string .empty, .slice none 0 0, .slice none 0 0], true, 0, none, [.int .i64, .int .i64, .str, .slice, .slice]⟩ := by kernel_rfl
theorem sl29 : SlTy Tryz.prog 29 31 5 80 := ⟨by kernel_rfl, by kernel_rfl, by kernel_rfl⟩
theorem ti31 : tiOf Tryz.prog 31 = ⟨true, 5, true, [(0, 1, false), (1, 1, false), (2, 1, false), (3, 1, false), (4, 1, false)], true, [.int .i64 0, .int .i64 0, .string .empty, .slice none 0 0, .slice none 0 0], true, 0, none, [.int .i64, .int .i64, .str, .slice, .slice]⟩ := by kernel_rfl
theorem ti33 : tiOf Tryz.prog 33 = ⟨true, 2, true, [(0, 1, false), (1, 1, false)], true, [.int .i64 0, .int .i64 0], true, 0, none, [.int .i64, .int .i64]⟩ := by kernel_rfl
theorem ti42 : tiOf Tryz.prog 42 = ⟨true, 1, false, [], false, [.slice none 0 0], true, 9, none, [.slice]⟩ := by kernel_rfl
theorem us42 : Tryz.prog.underlying 42 = some (.slice (tiOf Tryz.prog 42).elem) := by kernel_rfl
theorem te42 : tiOf Tryz.prog (tiOf Tryz.prog 42).elem = ⟨true, 1, false, [], false, [.string .empty], true, 0, none, [.str]⟩ := by kernel_rfl
theorem sl42 : SlTy Tryz.prog 42 9 1 16 := ⟨by kernel_rfl, by kernel_rfl, by kernel_rfl⟩
theorem ti45 : tiOf Tryz.prog 45 = ⟨true, 3, true, [(0, 1, false), (1, 1, false), (2, 1, false)], true, [.int .i64 0, .string .empty, .slice none 0 0], true, 0, none, [.int .i64, .str, .slice]⟩ := by kernel_rfl
theorem ti71 : tiOf Tryz.prog 71 = ⟨true, 4, true, [(0, 1, false), (1, 1, false), (2, 2, true)], true, [.string .empty, .int .i64 0, .int .i64 0, .int .i64 0], true, 0, none, [.str, .int .i64, .int .i64, .int .i64]⟩ := by kernel_rfl
theorem ti88 : tiOf Tryz.prog 88 = ⟨true, 1, false, [], false, [.pointer none], true, 91, none, [.ptr]⟩ := by kernel_rfl
theorem up88 : Tryz.prog.underlying 88 = some (.pointer 91) := by kernel_rfl
theorem ti89 : tiOf Tryz.prog 89 = ⟨true, 1, false, [], false, [.slice none 0 0], true, 5, none, [.slice]⟩ := by kernel_rfl
theorem us89 : Tryz.prog.underlying 89 = some (.slice (tiOf Tryz.prog 89).elem) := by kernel_rfl
theorem sl89 : SlTy Tryz.prog 89 5 1 1 := ⟨by kernel_rfl, by kernel_rfl, by kernel_rfl⟩
theorem ti91 : tiOf Tryz.prog 91 = ⟨true, 2, true, [(0, 1, false), (1, 1, false)], true, [.pointer none, .slice none 0 0], true, 0, none, [.ptr, .slice]⟩ := by kernel_rfl
theorem ua121 : Tryz.prog.underlying 121 = some (.array 7 9) := by kernel_rfl
theorem up123 : Tryz.prog.underlying 123 = some (.pointer 5) := by kernel_rfl
theorem ti128 : tiOf Tryz.prog 128 = ⟨true, 1, false, [], false, [.map none], true, 0, none, [.map]⟩ := by kernel_rfl
theorem mt128 : MapTy Tryz.prog 128 9 3 := ⟨by kernel_rfl, by kernel_rfl, by kernel_rfl⟩
theorem uu136 : Tryz.prog.underlying 136 = some .unsafePointer := by kernel_rfl
theorem us153 : Tryz.prog.underlying 153 = some (.slice (tiOf Tryz.prog 153).elem) := by kernel_rfl
theorem te153 : tiOf Tryz.prog (tiOf Tryz.prog 153).elem = ⟨true, 1, false, [], false, [.int .i64 0], true, 0, none, [.int .i64]⟩ := by kernel_rfl
theorem sl153 : SlTy Tryz.prog 153 3 1 8 := ⟨by kernel_rfl, by kernel_rfl, by kernel_rfl⟩
theorem ua155 : Tryz.prog.underlying 155 = some (.array 4 9) := by kernel_rfl
theorem ui179 : Tryz.prog.underlying 179 = some (.int .u64) := by kernel_rfl
theorem ti185 : tiOf Tryz.prog 185 = ⟨true, 2, true, [(0, 1, false), (1, 1, false)], true, [.int .i64 0, .map none], true, 0, none, [.int .i64, .map]⟩ := by kernel_rfl
theorem ua197 : Tryz.prog.underlying 197 = some (.array 20 179) := by kernel_rfl
theorem ca6 : callable Tryz.prog 6 = true := by kernel_rfl
theorem ca9 : callable Tryz.prog 9 = true := by kernel_rfl
theorem ca10 : callable Tryz.prog 10 = true := by kernel_rfl
theorem ca11 : callable Tryz.prog 11 = true := by kernel_rfl
theorem ca12 : callable Tryz.prog 12 = true := by kernel_rfl
theorem ca13 : callable Tryz.prog 13 = true := by kernel_rfl
theorem ca14 : callable Tryz.prog 14 = true := by kernel_rfl
theorem ca15 : callable Tryz.prog 15 = true := by kernel_rfl
theorem ca16 : callable Tryz.prog 16 = true := by kernel_rfl
theorem ca17 : callable Tryz.prog 17 = true := by kernel_rfl
theorem ca18 : callable Tryz.prog 18 = true := by kernel_rfl
theorem ca19 : callable Tryz.prog 19 = true := by kernel_rfl
theorem ca20 : callable Tryz.prog 20 = true := by kernel_rfl
theorem ca21 : callable Tryz.prog 21 = true := by kernel_rfl
theorem ca22 : callable Tryz.prog 22 = true := by kernel_rfl
theorem ca23 : callable Tryz.prog 23 = true := by kernel_rfl
theorem ca24 : callable Tryz.prog 24 = true := by kernel_rfl
theorem ca25 : callable Tryz.prog 25 = true := by kernel_rfl
theorem ca26 : callable Tryz.prog 26 = true := by kernel_rfl
theorem ca27 : callable Tryz.prog 27 = true := by kernel_rfl
theorem ca28 : callable Tryz.prog 28 = true := by kernel_rfl
theorem ca29 : callable Tryz.prog 29 = true := by kernel_rfl
theorem ca30 : callable Tryz.prog 30 = true := by kernel_rfl
theorem ca31 : callable Tryz.prog 31 = true := by kernel_rfl
theorem ca32 : callable Tryz.prog 32 = true := by kernel_rfl
theorem ca42 : callable Tryz.prog 42 = true := by kernel_rfl
theorem ca43 : callable Tryz.prog 43 = true := by kernel_rfl
theorem ca44 : callable Tryz.prog 44 = true := by kernel_rfl
theorem ca45 : callable Tryz.prog 45 = true := by kernel_rfl
theorem ca46 : callable Tryz.prog 46 = true := by kernel_rfl
theorem ca47 : callable Tryz.prog 47 = true := by kernel_rfl
theorem ca48 : callable Tryz.prog 48 = true := by kernel_rfl
theorem ca49 : callable Tryz.prog 49 = true := by kernel_rfl
theorem ca50 : callable Tryz.prog 50 = true := by kernel_rfl
theorem ca51 : callable Tryz.prog 51 = true := by kernel_rfl
theorem ca52 : callable Tryz.prog 52 = true := by kernel_rfl
theorem ca54 : callable Tryz.prog 54 = true := by kernel_rfl
theorem ca55 : callable Tryz.prog 55 = true := by kernel_rfl
theorem ca56 : callable Tryz.prog 56 = true := by kernel_rfl
theorem ca57 : callable Tryz.prog 57 = true := by kernel_rfl
theorem ca58 : callable Tryz.prog 58 = true := by kernel_rfl
theorem ca59 : callable Tryz.prog 59 = true := by kernel_rfl
theorem ca60 : callable Tryz.prog 60 = true := by kernel_rfl
theorem ca61 : callable Tryz.prog 61 = true := by kernel_rfl
theorem ca62 : callable Tryz.prog 62 = true := by kernel_rfl
theorem ca63 : callable Tryz.prog 63 = true := by kernel_rfl
theorem ca64 : callable Tryz.prog 64 = true := by kernel_rfl
theorem ca65 : callable Tryz.prog 65 = true := by kernel_rfl
theorem ca66 : callable Tryz.prog 66 = true := by kernel_rfl
theorem ca67 : callable Tryz.prog 67 = true := by kernel_rfl
theorem ca68 : callable Tryz.prog 68 = true := by kernel_rfl
theorem ca69 : callable Tryz.prog 69 = true := by kernel_rfl
theorem ca79 : callable Tryz.prog 79 = true := by kernel_rfl
theorem ca81 : callable Tryz.prog 81 = true := by kernel_rfl
theorem ca82 : callable Tryz.prog 82 = true := by kernel_rfl
theorem ca83 : callable Tryz.prog 83 = true := by kernel_rfl
theorem ca84 : callable Tryz.prog 84 = true := by kernel_rfl
theorem ca85 : callable Tryz.prog 85 = true := by kernel_rfl
theorem ca86 : callable Tryz.prog 86 = true := by kernel_rfl
theorem ca87 : callable Tryz.prog 87 = true := by kernel_rfl
theorem ca88 : callable Tryz.prog 88 = true := by kernel_rfl
theorem ca89 : callable Tryz.prog 89 = true := by kernel_rfl
theorem ca90 : callable Tryz.prog 90 = true := by kernel_rfl
theorem ca91 : callable Tryz.prog 91 = true := by kernel_rfl
theorem ca92 : callable Tryz.prog 92 = true := by kernel_rfl
theorem ca93 : callable Tryz.prog 93 = true := by kernel_rfl
theorem ca94 : callable Tryz.prog 94 = true := by kernel_rfl
theorem ca95 : callable Tryz.prog 95 = true := by kernel_rfl
theorem ca96 : callable Tryz.prog 96 = true := by kernel_rfl
theorem ca97 : callable Tryz.prog 97 = true := by kernel_rfl
theorem ca98 : callable Tryz.prog 98 = true := by kernel_rfl
theorem ca99 : callable Tryz.prog 99 = true := by kernel_rfl
theorem ca100 : callable Tryz.prog 100 = true := by kernel_rfl
theorem ca111 : callable Tryz.prog 111 = true := by kernel_rfl
theorem ca113 : callable Tryz.prog 113 = true := by kernel_rfl
theorem ca114 : callable Tryz.prog 114 = true := by kernel_rfl
theorem ca115 : callable Tryz.prog 115 = true := by kernel_rfl
theorem ca116 : callable Tryz.prog 116 = true := by kernel_rfl
theorem ca117 : callable Tryz.prog 117 = true := by kernel_rfl
theorem ca132 : callable Tryz.prog 132 = true := by kernel_rfl
theorem ca133 : callable Tryz.prog 133 = true := by kernel_rfl
theorem ca134 : callable Tryz.prog 134 = true := by kernel_rfl
theorem ca135 : callable Tryz.prog 135 = true := by kernel_rfl
theorem ca150 : callable Tryz.prog 150 = true := by kernel_rfl
theorem ca151 : callable Tryz.prog 151 = true := by kernel_rfl
theorem ca160 : callable Tryz.prog 160 = true := by kernel_rfl
theorem mixed : Tryz.prog.follows .mixedOrders = true := by kernel_rfl
end Go.Proofs.YtneaancanfpdhaaGreatDoor
namespace Go.Proofs.YtneaancanfpdhaaGreatDoor
open Go Go.Vd Go.RowKit
attribute [local irreducible] Runs OpsR OpR FloatR AnyR
variable {gl : Nat → List D}
theorem among_spec (name : ByteArray) (l : List ByteArray) (hl : l.length ≤ 281474976710656) : TriD Tryz.prog gl 96 [.v (.string name), strsD l] (· = .v (.bool (memB name l))) := by
  refine triD_of_runs Tryz.func96 rfl Tryz.ntmps96 (rs := [.tmp 4]) rfl rfl rfl ?_
  have hlen := strs_len l
  refine sr ?_; refine o1 (asg ?_); refine nx ?_; refine runs_seq ?_; refine sr ?_; refine o1 (asg ?_); refine nx ?_; refine runs_block ?_; refine kp [5, 0, 1] ?_
  apply runs_loop_c (ι := Nat) (fun i => [(5, int i)]) [0, 1] (fun i => i ≤ l.length ∧ name ∉ l.take i) (fun i => l.length - i) (0)
  case hk => exact rfl
  case hI =>
    exact ⟨by omega, by simp⟩
  case hm =>
    refine mo ?_ (sly (sly (sly slz))); exact boz
  case h =>
    rintro i hinv
    try dsimp only at hinv
    refine kp [5, 0, 1] ?_; refine runs_seq ?_; refine sr ?_; refine o1 (mv ?_); refine o1 (mv ?_); refine o1 (le1 us42 ?_); refine o1 (ilt ?_); refine nx ?_; refine cdf (fun h2 => ?_) (fun h2 => ?_)
    · (try simp only [nrm, Int.reduceEq, Int.reduceNe, Int.reduceLT, Int.reduceLE] at h2)
      refine runs_exit ?_; refine seq_exit ?_; refine seq_exit ?_; refine inb_exit ?_; refine seq_normal ?_; refine kp [] ?_; refine sr ?_; refine o1 (asg ?_); refine nx ?_; refine runs_ret ?_; refine fin_ret ?_; refine fin_d1 rfl rfl ?_
      rw [memB_false]
      have : l.take i = l := List.take_of_length_le (by omega)
      rw [← this]; exact hinv.2
    (try simp only [nrm, Int.reduceEq, Int.reduceNe, Int.reduceLT, Int.reduceLE] at h2); refine runs_skip ?_; refine seq_normal ?_; refine runs_seq ?_; refine runs_block ?_; refine kp [5, 0, 1] ?_; refine sr ?_; refine o1 (mv ?_)
    refine o1 (mv ?_); refine o1 (ixs us42 te42 ?_ (he := by exact (str_at (by omega)))); refine o1 (ldc ti9 ?_); refine o1 (mv ?_); refine o1 (seq1 ?_); refine nx ?_; refine cd (fun h4 => ?_) (fun h4 => ?_)
    · (try simp only [nrm, Int.reduceEq, Int.reduceNe, Int.reduceLT, Int.reduceLE] at h4)
      refine kp [] ?_; refine sr ?_; refine o1 (asg ?_); refine nx ?_; refine runs_ret ?_; refine inb_ret ?_; refine seq_ret ?_; refine seq_ret ?_; refine inb_ret ?_; refine seq_ret ?_; refine fin_ret ?_; refine fin_d1 rfl rfl ?_
      rw [memB_true (by omega) h4]
    (try simp only [nrm, Int.reduceEq, Int.reduceNe, Int.reduceLT, Int.reduceLE] at h4); refine runs_skip ?_; refine inb_normal ?_; refine seq_normal ?_; refine kp [5, 0, 1] ?_; refine runs_region ?_; refine o1 (mv ?_); refine o1 (iad ?_)
    refine o1 (asg ?_); refine ops_nil ?_; refine seq_back ?_; refine back_i (i + 1) rfl ?_ ?_
    · exact ⟨⟨by omega, not_mem_take_succ (by omega) hinv.2 h4⟩, by omega⟩
    · refine mo ?_ (sly (sly (sly slz)))
      exact boz
theorem params_spec : ∀ (n : Nat) (k : Int) (s : ByteArray) (args : List Lvl) (ah : List ByteArray), (Lvl.mk k s args).size ≤ n → ah.length + (Lvl.mk k s args).size ≤ 1099511627776 →
    Tri Tryz.prog gl 59 [.row 9 1] [.d (Lvl.mk k s args).d, .own 0 1 (strs ah)] fun out ob' => out = .ret (.own 0 1 (strs ((Lvl.mk k s args).params ah))) ∧ ob' = [.row 9 1] := by
  intro n
  induction n with
  | zero => intro k s args ah h; simp [Lvl.size] at h
  | succ n ih =>
    intro k s args ah hn hb
    have hsz : sizes args ≤ n := by simp [Lvl.size] at hn; omega
    have hlen := lvls_len args
    have hlen2 := strs_len ah
    have hlb := lvls_size args
    simp only [Lvl.size] at hb
    refine triS_of_runs Tryz.func59 rfl Tryz.ntmps59 (rs := [.tmp 4]) rfl rfl rfl 1 rfl ?_
    refine sr ?_; refine oc (T := fun _ => False) (bx ti45 ?_ (hl := by simp only [List.length_cons, List.length_nil, Nat.reduceAdd]; rfl)); refine o1 (asg ?_); refine nx ?_; refine runs_seq ?_; refine sr ?_; refine o1 (fdb ti45 ?_)
    refine o1 (ldb ti3 ?_); refine o1 (ieq ?_); refine nx ?_; refine cd (fun h1 => ?_) (fun h1 => ?_)
    · (try simp only [nrm, Int.reduceEq, Int.reduceNe, Int.reduceLT, Int.reduceLE] at h1)
      refine kp [2, 1] ?_; refine sr ?_; refine o1 (fdb ti45 ?_); refine o1 (ldb ti9 ?_); refine o1 (mv ?_); refine oc (cv ca96 rfl rfl (among_spec s ah (by omega)) (fir (fid .nil)) ?_); refine o1 (asg ?_); refine nx ?_; refine runs_seq ?_
      refine kp [5, 2, 1] ?_; refine sr ?_; refine o1 (mv ?_); refine o1 (f_not ?_); refine nx ?_; refine cdf (fun h3 => ?_) (fun h3 => ?_)
      · (try simp only [nrm, Int.reduceEq, Int.reduceNe, Int.reduceLT, Int.reduceLE] at h3)
        refine runs_skip ?_; refine seq_normal ?_; refine kp [1] ?_; refine sr ?_; refine o1 (mv ?_); refine o1 (asg ?_); refine nx ?_; refine runs_ret ?_; refine seq_ret ?_; refine fin_ret ?_
        refine fin_o ⟨_, _, rfl, rfl, rfl⟩ [0] (.own 0 1 (strs ah)) ([.row 9 1]) rfl rfl rfl ?_ rfl ?_ ?_
        · repeat (first | exact boz | refine bor ?_)
        · exact .refl _
        · refine ⟨?_, rfl⟩; simp only [Lvl.params, if_pos (show k = 4 by omega), h3]; rfl
      (try simp only [nrm, Int.reduceEq, Int.reduceNe, Int.reduceLT, Int.reduceLE] at h3); refine runs_region ?_; refine o1 (mv ?_); refine o1 (fdb ti45 ?_); refine o1 (ldb ti9 ?_)
      refine oc (T := fun _ => False) (op_lit sl42 [.tmp 18] ti9 rfl rfl rfl rfl rfl rfl rfl (by decide) (by decide) (by decide) (by simp only [List.length_cons, List.length_nil, Nat.reduceAdd]; rfl) rfl ?_)
      refine oc (op_append sl42 rfl rfl rfl rfl rfl rfl rfl (.inl rfl) (by decide) (by simp) (by first | decide | (simp only [maxLen, List.length_cons, List.length_nil, List.length_append, List.length_map]; omega) | omega) rfl rfl rfl ?_)
      refine o1 (asg ?_); refine nx ?_; refine kp [1] ?_; refine sr ?_; refine o1 (mv ?_); refine o1 (asg ?_); refine nx ?_; refine runs_ret ?_; refine seq_ret ?_; refine fin_ret ?_
      refine fin_o ⟨_, _, rfl, rfl, rfl⟩ [0] (.own 0 1 (strs (ah ++ [s]))) ([.row 9 1]) rfl rfl rfl ?_ rfl ?_ ?_
      · repeat (first | exact boz | refine bor ?_)
      · exact Fit.of_eq (by rw [← strs_app]; rfl)
      · refine ⟨?_, rfl⟩; simp only [Lvl.params, if_pos (show k = 4 by omega), h3]; rfl
    (try simp only [nrm, Int.reduceEq, Int.reduceNe, Int.reduceLT, Int.reduceLE] at h1); refine runs_skip ?_; refine seq_normal ?_; refine runs_seq ?_; refine kp [2, 1] ?_; refine sr ?_; refine o1 (asg ?_); refine nx ?_; refine runs_block ?_
    apply runs_loop_c (ι := Nat) (fun i => [(6, int i), (1, .own 0 1 (strs (paramsL (args.take i) ah)))]) [2] (fun i => i ≤ args.length) (fun i => args.length - i) (0)
    case hk => exact rfl
    case hI =>
      exact Nat.zero_le _
    case hm =>
      refine mo ?_ (sly (sly (sly slz)))
      repeat (first | exact boz | refine boc ?_ | refine bor ?_)
    case h =>
      rintro i hinv
      try dsimp only at hinv
      refine kp [6, 1, 2] ?_; refine runs_seq ?_; refine sr ?_; refine o1 (mv ?_); refine o1 (fdb ti45 ?_); refine o1 (ldb ti28 ?_); refine o1 (le1 us28 ?_); refine o1 (ilt ?_); refine nx ?_; refine cdf (fun h7 => ?_) (fun h7 => ?_)
      · (try simp only [nrm, Int.reduceEq, Int.reduceNe, Int.reduceLT, Int.reduceLE] at h7)
        refine runs_exit ?_; refine seq_exit ?_; refine seq_exit ?_; refine inb_exit ?_; refine seq_normal ?_; refine kp [1] ?_; refine sr ?_; refine o1 (mv ?_); refine o1 (asg ?_); refine nx ?_; refine runs_ret ?_; refine fin_ret ?_
        refine fin_o ⟨_, _, rfl, rfl, rfl⟩ [0] (.own 0 1 (strs (paramsL (args.take i) ah))) ([.row 9 1]) rfl rfl rfl ?_ rfl ?_ ?_
        · repeat (first | exact boz | refine bor ?_)
        · exact .refl _
        · refine ⟨?_, rfl⟩; simp only [Lvl.params, if_neg (show ¬ k = 4 by omega)]; rw [List.take_of_length_le (by omega)]
      (try simp only [nrm, Int.reduceEq, Int.reduceNe, Int.reduceLT, Int.reduceLE] at h7); refine runs_skip ?_; refine seq_normal ?_; refine runs_seq ?_; refine runs_block ?_; refine kp [6, 1, 2] ?_; refine runs_region ?_; refine o1 (fdb ti45 ?_)
      refine o1 (ldb ti28 ?_); refine o1 (mv ?_); obtain ⟨k', s', a', hget⟩ := lvl_get (show i < args.length by omega)
      have hsz' := size_get hget
      have hlt := paramsL_len (args.take i) ah
      have hst := sizes_take hget
      have hsl := sizes_take_le args (i + 1)
      refine o1 (ixs us28 te28 ?_ (he := by exact (lvl_at hget))); refine o1 (ldc ti45 ?_); refine o1 (mv ?_)
      refine oc (op_callo ca59 rfl rfl rfl rfl (ih k' s' a' (paramsL (args.take i) ah) (by omega) (by omega)) [0] (bor .nil) rfl rfl rfl rfl (fid (fir .nil)) (fun s ob' hq => ?_) (fun s ob' hq => ?_))
      rotate_left
      · first | exact hq.elim | cases hq.1
      obtain ⟨hq1, rfl⟩ := hq; cases hq1
      rw [← paramsL_take hget]; refine ⟨_, _, _, _, _, rfl, rfl, rfl, rfl, rfl, ?_⟩
      refine o1 (asg ?_); refine ops_nil ?_; refine inb_normal ?_; refine seq_normal ?_; refine kp [1, 6, 2] ?_; refine runs_region ?_; refine o1 (mv ?_); refine o1 (iad ?_); refine o1 (asg ?_); refine ops_nil ?_; refine seq_back ?_
      refine back_i (i + 1) rfl ?_ ?_
      · exact ⟨by omega, by omega⟩
      · refine mo ?_ (sly (sly (sly slz)))
        repeat (first | exact boz | refine boc ?_ | refine bor ?_)
end Go.Proofs.YtneaancanfpdhaaGreatDoor
namespace Go.Proofs.YtneaancanfpdhaaGreatDoor
open Go Go.Vd Go.RowKit
attribute [local irreducible] Runs OpsR OpR FloatR AnyR
variable {gl : Nat → List D}
theorem nameByte_spec (c : Int) (first : Bool) : TriD Tryz.prog gl 114 [.v (.int .u8 c), .v (.bool first)] (· = .v (.bool (nameB c first))) := by
  refine triD_of_runs Tryz.func114 rfl Tryz.ntmps114 (rs := [.tmp 4]) rfl rfl rfl ?_
  refine sr ?_; refine o1 (asg ?_); refine nx ?_; refine sr ?_; refine o1 (mv ?_); refine o1 (ige ?_); refine o1 (mv ?_)
  apply ops_and (yt := 10) (d := 8) 2 rfl rfl rfl (.none rfl) rfl rfl
  case h1 =>
    intro hb5 hK
    have hc := hb5; (try simp only [nrm, Int.reduceEq, Int.reduceNe, Int.reduceLT, Int.reduceLE] at hc)
    refine gye ?_ (hbw := by exact hb5); refine o1 (mv ?_); refine gye ?_ (hbw := by exact hb5); refine o1 (ile ?_); exact hK [_, _] rfl rfl
  case h2 =>
    intro hb5 hK; refine gno ?_ (hbw := by exact hb5); refine gno ?_ (hbw := by exact hb5); exact hK [_, _] rfl
  refine o1 (mv ?_)
  apply ops_or (yt := 18) (d := 12) 6 rfl rfl rfl (.none rfl) rfl rfl
  case h1 =>
    intro hb12 hK
    have hc := hb12; (try simp only [nrm, Int.reduceEq, Int.reduceNe, Int.reduceLT, Int.reduceLE] at hc)
    refine gye ?_ (hbw := by exact hb12); refine o1 (mv ?_); refine gye ?_ (hbw := by exact hb12); refine o1 (ige ?_); refine gye ?_ (hbw := by exact hb12); refine o1 (mv ?_)
    apply ops_and (yt := 17) (d := 15) 2 rfl rfl rfl (.yes rfl rfl rfl hb12) rfl rfl
    case h1 =>
      intro hb19 hK
      have hc := hb19; (try simp only [nrm, Int.reduceEq, Int.reduceNe, Int.reduceLT, Int.reduceLE] at hc)
      refine gye ?_ (hbw := by exact hb19); refine o1 (mv ?_); refine gye ?_ (hbw := by exact hb19); refine o1 (ile ?_); exact hK [_, _] rfl rfl
    case h2 =>
      intro hb19 hK; refine gno ?_ (hbw := by exact hb19); refine gno ?_ (hbw := by exact hb19); exact hK [_, _] rfl
    exact hK [_, _, _, _] rfl rfl
  case h2 =>
    intro hb12 hK; refine gno ?_ (hbw := by exact hb12); refine gno ?_ (hbw := by exact hb12); refine gno ?_ (hbw := by exact hb12); refine gud ?_; refine gud ?_; refine gno ?_ (hbw := by exact hb12); exact hK [_, _, _, _, _, _] rfl
  refine o1 (mv ?_)
  apply ops_or (yt := 22) (d := 20) 2 rfl rfl rfl (.none rfl) rfl rfl
  case h1 =>
    intro hb28 hK
    have hc := hb28; (try simp only [nrm, Int.reduceEq, Int.reduceNe, Int.reduceLT, Int.reduceLE] at hc)
    refine gye ?_ (hbw := by exact hb28); refine o1 (mv ?_); refine gye ?_ (hbw := by exact hb28); refine o1 (ieq ?_); exact hK [_, _] rfl rfl
  case h2 =>
    intro hb28 hK; refine gno ?_ (hbw := by exact hb28); refine gno ?_ (hbw := by exact hb28); exact hK [_, _] rfl
  refine o1 (asg ?_); refine nx ?_; refine kp [5, 0, 1] ?_; refine sr ?_; refine o1 (mv ?_); refine o1 (mv ?_)
  apply ops_or (yt := 43) (d := 25) 18 rfl rfl rfl (.none rfl) rfl rfl
  case h1 =>
    intro hb2 hK
    have hc := hb2; (try simp only [nrm, Int.reduceEq, Int.reduceNe, Int.reduceLT, Int.reduceLE] at hc)
    refine gye ?_ (hbw := by exact hb2); refine o1 (mv ?_); refine gye ?_ (hbw := by exact hb2); refine o1 (f_not ?_); refine gye ?_ (hbw := by exact hb2); refine o1 (mv ?_)
    apply ops_and (yt := 42) (d := 28) 14 rfl rfl rfl (.yes rfl rfl rfl hb2) rfl rfl
    case h1 =>
      intro hb9 hK
      have hc := hb9; (try simp only [nrm, Int.reduceEq, Int.reduceNe, Int.reduceLT, Int.reduceLE] at hc)
      refine gye ?_ (hbw := by exact hb9); refine o1 (mv ?_); refine gye ?_ (hbw := by exact hb9); refine o1 (ige ?_); refine gye ?_ (hbw := by exact hb9); refine o1 (mv ?_)
      apply ops_and (yt := 33) (d := 31) 2 rfl rfl rfl (.yes rfl rfl rfl hb9) rfl rfl
      case h1 =>
        intro hb15 hK
        have hc := hb15; (try simp only [nrm, Int.reduceEq, Int.reduceNe, Int.reduceLT, Int.reduceLE] at hc)
        refine gye ?_ (hbw := by exact hb15); refine o1 (mv ?_); refine gye ?_ (hbw := by exact hb15); refine o1 (ile ?_); exact hK [_, _] rfl rfl
      case h2 =>
        intro hb15 hK; refine gno ?_ (hbw := by exact hb15); refine gno ?_ (hbw := by exact hb15); exact hK [_, _] rfl
      refine gye ?_ (hbw := by exact hb9); refine o1 (mv ?_)
      apply ops_or (yt := 37) (d := 35) 2 rfl rfl rfl (.yes rfl rfl rfl hb9) rfl rfl
      case h1 =>
        intro hb22 hK
        have hc := hb22; (try simp only [nrm, Int.reduceEq, Int.reduceNe, Int.reduceLT, Int.reduceLE] at hc)
        refine gye ?_ (hbw := by exact hb22); refine o1 (mv ?_); refine gye ?_ (hbw := by exact hb22); refine o1 (ieq ?_); exact hK [_, _] rfl rfl
      case h2 =>
        intro hb22 hK; refine gno ?_ (hbw := by exact hb22); refine gno ?_ (hbw := by exact hb22); exact hK [_, _] rfl
      refine gye ?_ (hbw := by exact hb9); refine o1 (mv ?_)
      apply ops_or (yt := 41) (d := 39) 2 rfl rfl rfl (.yes rfl rfl rfl hb9) rfl rfl
      case h1 =>
        intro hb30 hK
        have hc := hb30; (try simp only [nrm, Int.reduceEq, Int.reduceNe, Int.reduceLT, Int.reduceLE] at hc)
        refine gye ?_ (hbw := by exact hb30); refine o1 (mv ?_); refine gye ?_ (hbw := by exact hb30); refine o1 (ieq ?_); exact hK [_, _] rfl rfl
      case h2 =>
        intro hb30 hK; refine gno ?_ (hbw := by exact hb30); refine gno ?_ (hbw := by exact hb30); exact hK [_, _] rfl
      exact hK [_, _, _, _, _, _, _, _] rfl rfl
    case h2 =>
      intro hb9 hK; refine gno ?_ (hbw := by exact hb9); refine gno ?_ (hbw := by exact hb9); refine gno ?_ (hbw := by exact hb9); refine gud ?_; refine gud ?_; refine gno ?_ (hbw := by exact hb9); refine gno ?_ (hbw := by exact hb9)
      refine gud ?_; refine gud ?_; refine gno ?_ (hbw := by exact hb9); refine gno ?_ (hbw := by exact hb9); refine gud ?_; refine gud ?_; refine gno ?_ (hbw := by exact hb9); exact hK [_, _, _, _, _, _, _, _, _, _, _, _, _, _] rfl
    exact hK [_, _, _, _] rfl rfl
  case h2 =>
    intro hb2 hK; refine gno ?_ (hbw := by exact hb2); refine gno ?_ (hbw := by exact hb2); refine gno ?_ (hbw := by exact hb2); refine gud ?_; refine gud ?_; refine gud ?_; refine gud ?_; refine gud ?_; refine gud ?_; refine gud ?_
    refine gud ?_; refine gud ?_; refine gud ?_; refine gud ?_; refine gud ?_; refine gud ?_; refine gud ?_; refine gno ?_ (hbw := by exact hb2); exact hK [_, _, _, _, _, _, _, _, _, _, _, _, _, _, _, _, _, _] rfl
  refine o1 (asg ?_); refine nx ?_; refine runs_ret ?_; refine fin_ret ?_; refine fin_d1 rfl rfl ?_
  congr 2
  rw [Bool.eq_iff_iff]
  cases first <;> simp only [nameB, Bool.or_eq_true, Bool.and_eq_true, decide_eq_true_eq, Bool.not_eq_true', Bool.not_true, Bool.not_false, Bool.false_eq_true, Bool.true_eq_false, true_and, false_and, or_false, reduceCtorEq] <;> constructor <;> intro h <;> omega
theorem isName_spec (t : ByteArray) : TriD Tryz.prog gl 97 [.v (.string t)] (· = .v (.bool (isNameB t))) := by
  refine triD_of_runs Tryz.func97 rfl Tryz.ntmps97 (rs := [.tmp 2]) rfl rfl rfl ?_
  refine sr ?_; refine o1 (asg ?_); refine nx ?_; refine sr ?_; refine o1 (mv ?_); refine o1 (sne ?_); refine o1 (mv ?_)
  apply ops_and (yt := 8) (d := 5) 3 rfl rfl rfl (.none rfl) rfl rfl
  case h1 =>
    intro hb5 hK
    have hc := hb5; (try simp only [nrm, Int.reduceEq, Int.reduceNe, Int.reduceLT, Int.reduceLE] at hc)
    refine gye ?_ (hbw := by exact hb5); refine o1 (mv ?_)
    have hpos := size_pos_of_ne hc
    refine gye ?_ (hbw := by exact hb5); refine o1 (byt ut9 ?_); refine gye ?_ (hbw := by exact hb5); refine oc (cv ca114 rfl rfl (nameByte_spec (byteAt t (0 : Int).toNat) true) (fir (fir .nil)) ?_); exact hK [_, _, _] rfl rfl
  case h2 =>
    intro hb5 hK; refine gno ?_ (hbw := by exact hb5); refine gno ?_ (hbw := by exact hb5); refine gno ?_ (hbw := by exact hb5); exact hK [_, _, _] rfl
  refine o1 (asg ?_); refine nx ?_; refine runs_ret ?_; refine fin_ret ?_; refine fin_d1 rfl rfl ?_
  congr 2
  unfold isNameB
  rw [show (0 : Int).toNat = 0 from rfl]
  have e : (⟨#[]⟩ : ByteArray) = .empty := rfl
  rw [e]
  simp
theorem ws_yes {s : ByteArray} {i : Nat} (h : byteAt s i = 32 ∨ byteAt s i = 9 ∨ byteAt s i = 10) : wsB (byteAt s i) = true := by simpa [wsB] using h
theorem token_spec (s : ByteArray) (p : Nat) (c a : Int) (hs : s.size ≤ 1099511627776) (hp : p ≤ s.size) :
    Tri Tryz.prog gl 82 [.cells [.d (.v (.string s)), .d (.v (.int .i64 p)), .d (.v (.int .i64 c)), .d (.v (.int .i64 a))] 71] [.blk 0 0]
      fun out ob' => out = .ret (.d (.tup [.v (.string (tokR s p).1), .v (.int .i64 (tokR s p).2.1), .v (.bool (tokR s p).2.2)])) ∧ ob' = [.cells [.d (.v (.string s)), .d (.v (.int .i64 p)), .d (.v (.int .i64 c)), .d (.v (.int .i64 a))] 71] := by
  refine triS_of_runs Tryz.func82 rfl Tryz.ntmps82 (rs := [.tmp 2, .tmp 3, .tmp 4]) rfl rfl rfl 1 rfl ?_
  refine sr ?_; refine o1 (asg ?_); refine o1 (asg ?_); refine o1 (asg ?_); refine nx ?_; refine sr ?_; refine o1 (mv ?_); refine o1 (ncb ?_); refine o1 (fdb ti71 ?_); refine o1 (ldb ti3 ?_); refine o1 (asg ?_); refine nx ?_
  refine runs_seq ?_; refine runs_block ?_; refine kp [5, 0] ?_
  apply runs_loop_c (ι := Nat) (fun i => [(5, int i)]) [0] (fun i => i ≤ s.size ∧ spanB wsB s p = spanB wsB s i) (fun i => s.size - i) (p)
  case hk => exact rfl
  case hI =>
    exact ⟨hp, rfl⟩
  case hm =>
    refine mo ?_ (sly (sly slz))
    repeat (first | exact boz | refine boc ?_)
  case h =>
    rintro i hinv
    try dsimp only at hinv
    refine kp [5, 0] ?_; refine runs_seq ?_; refine sr ?_; refine o1 (mv ?_); refine o1 (mv ?_); refine o1 (ncb ?_); refine o1 (fdb ti71 ?_); refine o1 (ldb ti9 ?_); refine o1 (le3 ut9 ?_); refine o1 (ilt ?_); refine o1 (mv ?_)
    apply ops_and (yt := 46) (d := 21) 25 rfl rfl rfl (.none rfl) rfl rfl
    case h1 =>
      intro hb15 hK
      have hc := hb15; (try simp only [nrm, Int.reduceEq, Int.reduceNe, Int.reduceLT, Int.reduceLE] at hc)
      refine gye ?_ (hbw := by exact hb15); refine o1 (mv ?_); refine gye ?_ (hbw := by exact hb15); refine o1 (ncb ?_); refine gye ?_ (hbw := by exact hb15); refine o1 (fdb ti71 ?_); refine gye ?_ (hbw := by exact hb15); refine o1 (ldb ti9 ?_)
      refine gye ?_ (hbw := by exact hb15); refine o1 (mv ?_); refine gye ?_ (hbw := by exact hb15); refine o1 (byt ut9 ?_); refine gye ?_ (hbw := by exact hb15); refine o1 (ieq ?_); refine gye ?_ (hbw := by exact hb15); refine o1 (mv ?_)
      apply ops_or (yt := 36) (d := 29) 7 rfl rfl rfl (.yes rfl rfl rfl hb15) rfl rfl
      case h1 =>
        intro hb30 hK
        have hc := hb30; (try simp only [nrm, Int.reduceEq, Int.reduceNe, Int.reduceLT, Int.reduceLE] at hc)
        refine gye ?_ (hbw := by exact hb30); refine o1 (mv ?_); refine gye ?_ (hbw := by exact hb30); refine o1 (ncb ?_); refine gye ?_ (hbw := by exact hb30); refine o1 (fdb ti71 ?_); refine gye ?_ (hbw := by exact hb30); refine o1 (ldb ti9 ?_)
        refine gye ?_ (hbw := by exact hb30); refine o1 (mv ?_); refine gye ?_ (hbw := by exact hb30); refine o1 (byt ut9 ?_); refine gye ?_ (hbw := by exact hb30); refine o1 (ieq ?_); exact hK [_, _, _, _, _, _, _] rfl rfl
      case h2 =>
        intro hb30 hK; refine gno ?_ (hbw := by exact hb30); refine gno ?_ (hbw := by exact hb30); refine gno ?_ (hbw := by exact hb30); refine gno ?_ (hbw := by exact hb30); refine gno ?_ (hbw := by exact hb30); refine gno ?_ (hbw := by exact hb30)
        refine gno ?_ (hbw := by exact hb30); exact hK [_, _, _, _, _, _, _] rfl
      refine gye ?_ (hbw := by exact hb15); refine o1 (mv ?_)
      apply ops_or (yt := 45) (d := 38) 7 rfl rfl rfl (.yes rfl rfl rfl hb15) rfl rfl
      case h1 =>
        intro hb48 hK
        have hc := hb48; (try simp only [nrm, Int.reduceEq, Int.reduceNe, Int.reduceLT, Int.reduceLE] at hc)
        refine gye ?_ (hbw := by exact hb48); refine o1 (mv ?_); refine gye ?_ (hbw := by exact hb48); refine o1 (ncb ?_); refine gye ?_ (hbw := by exact hb48); refine o1 (fdb ti71 ?_); refine gye ?_ (hbw := by exact hb48); refine o1 (ldb ti9 ?_)
        refine gye ?_ (hbw := by exact hb48); refine o1 (mv ?_); refine gye ?_ (hbw := by exact hb48); refine o1 (byt ut9 ?_); refine gye ?_ (hbw := by exact hb48); refine o1 (ieq ?_); exact hK [_, _, _, _, _, _, _] rfl rfl
      case h2 =>
        intro hb48 hK; refine gno ?_ (hbw := by exact hb48); refine gno ?_ (hbw := by exact hb48); refine gno ?_ (hbw := by exact hb48); refine gno ?_ (hbw := by exact hb48); refine gno ?_ (hbw := by exact hb48); refine gno ?_ (hbw := by exact hb48)
        refine gno ?_ (hbw := by exact hb48); exact hK [_, _, _, _, _, _, _] rfl
      exact hK [_, _, _, _, _, _, _, _, _, _, _] rfl rfl
    case h2 =>
      intro hb15 hK; refine gno ?_ (hbw := by exact hb15); refine gno ?_ (hbw := by exact hb15); refine gno ?_ (hbw := by exact hb15); refine gno ?_ (hbw := by exact hb15); refine gno ?_ (hbw := by exact hb15); refine gno ?_ (hbw := by exact hb15)
      refine gno ?_ (hbw := by exact hb15); refine gno ?_ (hbw := by exact hb15); refine gud ?_; refine gud ?_; refine gud ?_; refine gud ?_; refine gud ?_; refine gud ?_; refine gud ?_; refine gno ?_ (hbw := by exact hb15)
      refine gno ?_ (hbw := by exact hb15); refine gud ?_; refine gud ?_; refine gud ?_; refine gud ?_; refine gud ?_; refine gud ?_; refine gud ?_; refine gno ?_ (hbw := by exact hb15)
      exact hK [_, _, _, _, _, _, _, _, _, _, _, _, _, _, _, _, _, _, _, _, _, _, _, _, _] rfl
    refine nx ?_; refine cd (fun h2 => ?_) (fun h2 => ?_)
    · (try simp only [nrm, Int.reduceEq, Int.reduceNe, Int.reduceLT, Int.reduceLE] at h2)
      refine runs_skip ?_; refine seq_normal ?_; refine runs_block ?_; refine kp [5, 0] ?_; refine runs_region ?_; refine o1 (mv ?_); refine o1 (iad ?_); refine o1 (asg ?_); refine ops_nil ?_; refine inb_normal ?_; refine seq_back ?_
      refine back_i (i + 1) rfl ?_ ?_
      · exact ⟨⟨by omega, hinv.2.trans (spanB_step (by omega) (ws_yes (by omega)))⟩, by omega⟩
      · refine mo ?_ (sly (sly slz))
        repeat (first | exact boz | refine boc ?_)
    (try simp only [nrm, Int.reduceEq, Int.reduceNe, Int.reduceLT, Int.reduceLE] at h2); refine runs_exit ?_; refine seq_exit ?_; refine seq_exit ?_; refine inb_exit ?_; refine seq_normal ?_; refine runs_seq ?_; refine kp [5, 0] ?_; refine sr ?_
    refine o1 (mv ?_); refine o1 (mv ?_); refine o1 (ncb ?_); refine o1 (fdb ti71 ?_); refine o1 (ldb ti9 ?_); refine o1 (le3 ut9 ?_); refine o1 (ieq ?_); refine nx ?_; refine cd (fun h4 => ?_) (fun h4 => ?_)
    · (try simp only [nrm, Int.reduceEq, Int.reduceNe, Int.reduceLT, Int.reduceLE] at h4)
      refine kp [5] ?_; refine sr ?_; refine o1 (mv ?_); refine o1 (asg ?_); refine o1 (asg ?_); refine o1 (asg ?_); refine nx ?_; refine runs_ret ?_; refine seq_ret ?_; refine fin_ret ?_
      refine fin_od ⟨_, _, rfl, rfl, ⟨_, _, rfl, rfl, ⟨_, _, rfl, rfl, rfl⟩⟩⟩ rfl ([0]) ([.cells [.d (.v (.string s)), .d (.v (.int .i64 p)), .d (.v (.int .i64 c)), .d (.v (.int .i64 a))] 71]) rfl rfl rfl ?_ ?_
      · repeat (first | exact boz | refine boc ?_)
      · rw [tok_end hinv.2 (by omega)]; exact ⟨rfl, rfl⟩
    (try simp only [nrm, Int.reduceEq, Int.reduceNe, Int.reduceLT, Int.reduceLE] at h4); refine runs_skip ?_; refine seq_normal ?_; refine runs_seq ?_; refine kp [5, 0] ?_
    have hsp := hinv.2.trans (spanB_end (by rintro ⟨h8, h9⟩; have h10 : byteAt s i = 32 ∨ byteAt s i = 9 ∨ byteAt s i = 10 := (by simpa [wsB] using h9); omega))
    refine runs_region ?_; refine o1 (mv ?_); refine o1 (iad ?_); refine o1 (asg ?_); refine nx ?_; refine sr ?_; refine o1 (mv ?_); refine o1 (ncb ?_); refine o1 (fdb ti71 ?_); refine o1 (ldb ti9 ?_); refine o1 (mv ?_); refine o1 (byt ut9 ?_)
    refine o1 (asg ?_); refine nx ?_; refine kp [7, 6, 5, 0] ?_; refine sr ?_; refine o1 (mv ?_); refine oc (cv ca114 rfl rfl (nameByte_spec (byteAt s i) true) (fir (fir .nil)) ?_); refine o1 (asg ?_); refine nx ?_; refine runs_seq ?_
    refine runs_block ?_; refine sr ?_; refine o1 (mv ?_); refine o1 (ieq ?_); refine o1 (mv ?_)
    apply ops_or (yt := 74) (d := 72) 2 rfl rfl rfl (.none rfl) rfl rfl
    case h1 =>
      intro hb4 hK
      have hc := hb4; (try simp only [nrm, Int.reduceEq, Int.reduceNe, Int.reduceLT, Int.reduceLE] at hc)
      refine gye ?_ (hbw := by exact hb4); refine o1 (mv ?_); refine gye ?_ (hbw := by exact hb4); refine o1 (ieq ?_); exact hK [_, _] rfl rfl
    case h2 =>
      intro hb4 hK; refine gno ?_ (hbw := by exact hb4); refine gno ?_ (hbw := by exact hb4); exact hK [_, _] rfl
    refine o1 (asg ?_); refine nx ?_; refine cd (fun h10 => ?_) (fun h10 => ?_)
    · (try simp only [nrm, Int.reduceEq, Int.reduceNe, Int.reduceLT, Int.reduceLE] at h10)
      refine runs_skip ?_; refine inb_normal ?_; refine seq_normal ?_; refine kp [6, 5, 0] ?_; refine sr ?_; refine o1 (mv ?_); refine o1 (ncb ?_); refine o1 (fdb ti71 ?_); refine o1 (ldb ti9 ?_); refine o1 (mv ?_); refine o1 (mv ?_)
      refine o1 (f_sub_lh ut9 ?_); refine o1 (mv ?_); refine o1 (asg ?_); refine o1 (asg ?_); refine o1 (asg ?_); refine nx ?_; refine runs_ret ?_; refine fin_ret ?_
      refine fin_od ⟨_, _, rfl, rfl, ⟨_, _, rfl, rfl, ⟨_, _, rfl, rfl, rfl⟩⟩⟩ rfl ([0]) ([.cells [.d (.v (.string s)), .d (.v (.int .i64 p)), .d (.v (.int .i64 c)), .d (.v (.int .i64 a))] 71]) rfl rfl rfl ?_ ?_
      · repeat (first | exact boz | refine boc ?_)
      · rw [tok_par hsp (by omega) (by omega)]; exact ⟨rfl, rfl⟩
    (try simp only [nrm, Int.reduceEq, Int.reduceNe, Int.reduceLT, Int.reduceLE] at h10); refine kp [8, 7, 6, 5, 0] ?_; refine sr ?_; refine o1 (mv ?_); refine o1 (asg ?_); refine nx ?_; refine cd (fun h11 => ?_) (fun h11 => ?_)
    · (try simp only [nrm, Int.reduceEq, Int.reduceNe, Int.reduceLT, Int.reduceLE] at h11)
      refine runs_seq ?_; refine runs_block ?_; refine kp [6, 5, 0] ?_
      apply runs_loop_c (ι := Nat) (fun q => [(6, int q)]) [5, 0] (fun q => i < q ∧ q ≤ s.size ∧ spanB (nameB · false) s (i + 1) = spanB (nameB · false) s q) (fun q => s.size - q) (i + 1)
      case hk => exact rfl
      case hI =>
        exact ⟨by omega, by omega, rfl⟩
      case hm =>
        refine mo ?_ (sly (sly (sly slz)))
        repeat (first | exact boz | refine boc ?_)
      case h =>
        rintro q hinv
        try dsimp only at hinv
        refine kp [6, 5, 0] ?_; refine runs_seq ?_; refine sr ?_; refine o1 (mv ?_); refine o1 (mv ?_); refine o1 (ncb ?_); refine o1 (fdb ti71 ?_); refine o1 (ldb ti9 ?_); refine o1 (le3 ut9 ?_); refine o1 (ilt ?_); refine o1 (mv ?_)
        apply ops_and (yt := 92) (d := 85) 7 rfl rfl rfl (.none rfl) rfl rfl
        case h1 =>
          intro hb15 hK
          have hc := hb15; (try simp only [nrm, Int.reduceEq, Int.reduceNe, Int.reduceLT, Int.reduceLE] at hc)
          refine gye ?_ (hbw := by exact hb15); refine o1 (mv ?_); refine gye ?_ (hbw := by exact hb15); refine o1 (ncb ?_); refine gye ?_ (hbw := by exact hb15); refine o1 (fdb ti71 ?_); refine gye ?_ (hbw := by exact hb15); refine o1 (ldb ti9 ?_)
          refine gye ?_ (hbw := by exact hb15); refine o1 (mv ?_); refine gye ?_ (hbw := by exact hb15); refine o1 (byt ut9 ?_); refine gye ?_ (hbw := by exact hb15); refine oc (cv ca114 rfl rfl (nameByte_spec (byteAt s q) false) (fir (fir .nil)) ?_)
          exact hK [_, _, _, _, _, _, _] rfl rfl
        case h2 =>
          intro hb15 hK; refine gno ?_ (hbw := by exact hb15); refine gno ?_ (hbw := by exact hb15); refine gno ?_ (hbw := by exact hb15); refine gno ?_ (hbw := by exact hb15); refine gno ?_ (hbw := by exact hb15); refine gno ?_ (hbw := by exact hb15)
          refine gno ?_ (hbw := by exact hb15); exact hK [_, _, _, _, _, _, _] rfl
        refine nx ?_; refine cd (fun h12 => ?_) (fun h12 => ?_)
        · (try simp only [nrm, Int.reduceEq, Int.reduceNe, Int.reduceLT, Int.reduceLE] at h12)
          refine runs_skip ?_; refine seq_normal ?_; refine runs_block ?_; refine kp [6, 5, 0] ?_; refine runs_region ?_; refine o1 (mv ?_); refine o1 (iad ?_); refine o1 (asg ?_); refine ops_nil ?_; refine inb_normal ?_; refine seq_back ?_
          refine back_i (q + 1) rfl ?_ ?_
          · exact ⟨⟨by omega, by omega, hinv.2.2.trans (spanB_step (by omega) (by simpa using h12.2))⟩, by omega⟩
          · refine mo ?_ (sly (sly (sly slz)))
            repeat (first | exact boz | refine boc ?_)
        (try simp only [nrm, Int.reduceEq, Int.reduceNe, Int.reduceLT, Int.reduceLE] at h12); refine runs_exit ?_; refine seq_exit ?_; refine seq_exit ?_; refine inb_exit ?_; refine seq_normal ?_; refine kp [6, 5, 0] ?_; refine sr ?_
        refine o1 (mv ?_); refine o1 (mv ?_); refine o1 (isu ?_); refine o1 (igt ?_); refine nx ?_; refine cd (fun h14 => ?_) (fun h14 => ?_)
        · (try simp only [nrm, Int.reduceEq, Int.reduceNe, Int.reduceLT, Int.reduceLE] at h14)
          refine kp [5] ?_; refine sr ?_; refine o1 (mv ?_); refine o1 (asg ?_); refine o1 (asg ?_); refine o1 (asg ?_); refine nx ?_; refine runs_ret ?_; refine inb_ret ?_; refine seq_ret ?_; refine fin_ret ?_
          refine fin_od ⟨_, _, rfl, rfl, ⟨_, _, rfl, rfl, ⟨_, _, rfl, rfl, rfl⟩⟩⟩ rfl ([0]) ([.cells [.d (.v (.string s)), .d (.v (.int .i64 p)), .d (.v (.int .i64 c)), .d (.v (.int .i64 a))] 71]) rfl rfl rfl ?_ ?_
          · repeat (first | exact boz | refine boc ?_)
          · rw [tok_nameNo hsp (by omega) (by omega) h11 (spanB_run hinv.2.2 h12) (by omega)]; exact ⟨rfl, rfl⟩
        (try simp only [nrm, Int.reduceEq, Int.reduceNe, Int.reduceLT, Int.reduceLE] at h14); refine runs_skip ?_; refine inb_normal ?_; refine seq_normal ?_; refine kp [6, 5, 0] ?_; refine sr ?_; refine o1 (mv ?_); refine o1 (ncb ?_)
        refine o1 (fdb ti71 ?_); refine o1 (ldb ti9 ?_); refine o1 (mv ?_); refine o1 (mv ?_); refine o1 (f_sub_lh ut9 ?_); refine o1 (mv ?_); refine o1 (asg ?_); refine o1 (asg ?_); refine o1 (asg ?_); refine nx ?_; refine runs_ret ?_
        refine fin_ret ?_; refine fin_od ⟨_, _, rfl, rfl, ⟨_, _, rfl, rfl, ⟨_, _, rfl, rfl, rfl⟩⟩⟩ rfl ([0]) ([.cells [.d (.v (.string s)), .d (.v (.int .i64 p)), .d (.v (.int .i64 c)), .d (.v (.int .i64 a))] 71]) rfl rfl rfl ?_ ?_
        · repeat (first | exact boz | refine boc ?_)
        · rw [tok_name hsp (by omega) (by omega) h11 (spanB_run hinv.2.2 h12) (by omega)]; exact ⟨rfl, rfl⟩
    (try simp only [nrm, Int.reduceEq, Int.reduceNe, Int.reduceLT, Int.reduceLE] at h11); refine sr ?_; refine o1 (mv ?_); refine o1 (ieq ?_); refine o1 (mv ?_)
    apply ops_or (yt := 110) (d := 104) 6 rfl rfl rfl (.none rfl) rfl rfl
    case h1 =>
      intro hb4 hK
      have hc := hb4; (try simp only [nrm, Int.reduceEq, Int.reduceNe, Int.reduceLT, Int.reduceLE] at hc)
      refine gye ?_ (hbw := by exact hb4); refine o1 (mv ?_); refine gye ?_ (hbw := by exact hb4); refine o1 (ige ?_); refine gye ?_ (hbw := by exact hb4); refine o1 (mv ?_)
      apply ops_and (yt := 109) (d := 107) 2 rfl rfl rfl (.yes rfl rfl rfl hb4) rfl rfl
      case h1 =>
        intro hb11 hK
        have hc := hb11; (try simp only [nrm, Int.reduceEq, Int.reduceNe, Int.reduceLT, Int.reduceLE] at hc)
        refine gye ?_ (hbw := by exact hb11); refine o1 (mv ?_); refine gye ?_ (hbw := by exact hb11); refine o1 (ile ?_); exact hK [_, _] rfl rfl
      case h2 =>
        intro hb11 hK; refine gno ?_ (hbw := by exact hb11); refine gno ?_ (hbw := by exact hb11); exact hK [_, _] rfl
      exact hK [_, _, _, _] rfl rfl
    case h2 =>
      intro hb4 hK; refine gno ?_ (hbw := by exact hb4); refine gno ?_ (hbw := by exact hb4); refine gno ?_ (hbw := by exact hb4); refine gud ?_; refine gud ?_; refine gno ?_ (hbw := by exact hb4); exact hK [_, _, _, _, _, _] rfl
    refine o1 (asg ?_); refine nx ?_; refine cdf (fun h16 => ?_) (fun h16 => ?_)
    · (try simp only [nrm, Int.reduceEq, Int.reduceNe, Int.reduceLT, Int.reduceLE] at h16)
      refine kp [5] ?_; refine sr ?_; refine o1 (mv ?_); refine o1 (asg ?_); refine o1 (asg ?_); refine o1 (asg ?_); refine nx ?_; refine runs_ret ?_; refine inb_ret ?_; refine seq_ret ?_; refine fin_ret ?_
      refine fin_od ⟨_, _, rfl, rfl, ⟨_, _, rfl, rfl, ⟨_, _, rfl, rfl, rfl⟩⟩⟩ rfl ([0]) ([.cells [.d (.v (.string s)), .d (.v (.int .i64 p)), .d (.v (.int .i64 c)), .d (.v (.int .i64 a))] 71]) rfl rfl rfl ?_ ?_
      · repeat (first | exact boz | refine boc ?_)
      · rw [tok_none hsp (by omega) (by omega) h11 (by omega)]; exact ⟨rfl, rfl⟩
    (try simp only [nrm, Int.reduceEq, Int.reduceNe, Int.reduceLT, Int.reduceLE] at h16); refine runs_seq ?_; refine runs_block ?_; refine kp [7, 6, 5, 0] ?_
    apply runs_loop_c (ι := Nat) (fun q => [(6, int q)]) [7, 5, 0] (fun q => i < q ∧ q ≤ s.size ∧ spanB digB s (i + 1) = spanB digB s q) (fun q => s.size - q) (i + 1)
    case hk => exact rfl
    case hI =>
      exact ⟨by omega, by omega, rfl⟩
    case hm =>
      refine mo ?_ (sly (sly (sly (sly slz))))
      repeat (first | exact boz | refine boc ?_)
    case h =>
      rintro q hinv
      try dsimp only at hinv
      refine kp [6, 7, 5, 0] ?_; refine runs_seq ?_; refine sr ?_; refine o1 (mv ?_); refine o1 (mv ?_); refine o1 (ncb ?_); refine o1 (fdb ti71 ?_); refine o1 (ldb ti9 ?_); refine o1 (le3 ut9 ?_); refine o1 (ilt ?_); refine o1 (mv ?_)
      apply ops_and (yt := 126) (d := 119) 7 rfl rfl rfl (.none rfl) rfl rfl
      case h1 =>
        intro hb15 hK
        have hc := hb15; (try simp only [nrm, Int.reduceEq, Int.reduceNe, Int.reduceLT, Int.reduceLE] at hc)
        refine gye ?_ (hbw := by exact hb15); refine o1 (mv ?_); refine gye ?_ (hbw := by exact hb15); refine o1 (ncb ?_); refine gye ?_ (hbw := by exact hb15); refine o1 (fdb ti71 ?_); refine gye ?_ (hbw := by exact hb15); refine o1 (ldb ti9 ?_)
        refine gye ?_ (hbw := by exact hb15); refine o1 (mv ?_); refine gye ?_ (hbw := by exact hb15); refine o1 (byt ut9 ?_); refine gye ?_ (hbw := by exact hb15); refine o1 (ige ?_); exact hK [_, _, _, _, _, _, _] rfl rfl
      case h2 =>
        intro hb15 hK; refine gno ?_ (hbw := by exact hb15); refine gno ?_ (hbw := by exact hb15); refine gno ?_ (hbw := by exact hb15); refine gno ?_ (hbw := by exact hb15); refine gno ?_ (hbw := by exact hb15); refine gno ?_ (hbw := by exact hb15)
        refine gno ?_ (hbw := by exact hb15); exact hK [_, _, _, _, _, _, _] rfl
      refine o1 (mv ?_)
      apply ops_and (yt := 135) (d := 128) 7 rfl rfl rfl (.none rfl) rfl rfl
      case h1 =>
        intro hb33 hK
        have hc := hb33; (try simp only [nrm, Int.reduceEq, Int.reduceNe, Int.reduceLT, Int.reduceLE] at hc)
        refine gye ?_ (hbw := by exact hb33); refine o1 (mv ?_); refine gye ?_ (hbw := by exact hb33); refine o1 (ncb ?_); refine gye ?_ (hbw := by exact hb33); refine o1 (fdb ti71 ?_); refine gye ?_ (hbw := by exact hb33); refine o1 (ldb ti9 ?_)
        refine gye ?_ (hbw := by exact hb33); refine o1 (mv ?_); refine gye ?_ (hbw := by exact hb33); refine o1 (byt ut9 ?_); refine gye ?_ (hbw := by exact hb33); refine o1 (ile ?_); exact hK [_, _, _, _, _, _, _] rfl rfl
      case h2 =>
        intro hb33 hK; refine gno ?_ (hbw := by exact hb33); refine gno ?_ (hbw := by exact hb33); refine gno ?_ (hbw := by exact hb33); refine gno ?_ (hbw := by exact hb33); refine gno ?_ (hbw := by exact hb33); refine gno ?_ (hbw := by exact hb33)
        refine gno ?_ (hbw := by exact hb33); exact hK [_, _, _, _, _, _, _] rfl
      refine nx ?_; refine cd (fun h17 => ?_) (fun h17 => ?_)
      · (try simp only [nrm, Int.reduceEq, Int.reduceNe, Int.reduceLT, Int.reduceLE] at h17)
        refine runs_skip ?_; refine seq_normal ?_; refine runs_block ?_; refine kp [6, 7, 5, 0] ?_; refine runs_region ?_; refine o1 (mv ?_); refine o1 (iad ?_); refine o1 (asg ?_); refine ops_nil ?_; refine inb_normal ?_; refine seq_back ?_
        refine back_i (q + 1) rfl ?_ ?_
        · exact ⟨⟨by omega, by omega, hinv.2.2.trans (spanB_step (by omega) (by simp only [digB, decide_eq_true_eq]; omega))⟩, by omega⟩
        · refine mo ?_ (sly (sly (sly (sly slz))))
          repeat (first | exact boz | refine boc ?_)
      (try simp only [nrm, Int.reduceEq, Int.reduceNe, Int.reduceLT, Int.reduceLE] at h17); refine runs_exit ?_; refine seq_exit ?_; refine seq_exit ?_; refine inb_exit ?_; refine seq_normal ?_; refine kp [6, 7, 5, 0] ?_; refine sr ?_
      refine o1 (mv ?_); refine o1 (asg ?_); refine nx ?_; refine runs_seq ?_; refine sr ?_; refine o1 (mv ?_); refine o1 (ieq ?_); refine nx ?_; refine cdf (fun h20 => ?_) (fun h20 => ?_)
      · (try simp only [nrm, Int.reduceEq, Int.reduceNe, Int.reduceLT, Int.reduceLE] at h20)
        refine runs_skip ?_; refine seq_normal ?_; refine kp [9, 6, 5, 0] ?_; refine sr ?_; refine o1 (mv ?_); refine o1 (mv ?_); refine o1 (ieq ?_); refine o1 (mv ?_)
        apply ops_or (yt := 151) (d := 147) 4 rfl rfl rfl (.none rfl) rfl rfl
        case h1 =>
          intro hb6 hK
          have hc := hb6; (try simp only [nrm, Int.reduceEq, Int.reduceNe, Int.reduceLT, Int.reduceLE] at hc)
          refine gye ?_ (hbw := by exact hb6); refine o1 (mv ?_); refine gye ?_ (hbw := by exact hb6); refine o1 (mv ?_); refine gye ?_ (hbw := by exact hb6); refine o1 (isu ?_); refine gye ?_ (hbw := by exact hb6); refine o1 (igt ?_)
          exact hK [_, _, _, _] rfl rfl
        case h2 =>
          intro hb6 hK; refine gno ?_ (hbw := by exact hb6); refine gno ?_ (hbw := by exact hb6); refine gno ?_ (hbw := by exact hb6); refine gno ?_ (hbw := by exact hb6); exact hK [_, _, _, _] rfl
        refine o1 (mv ?_)
        apply ops_or (yt := 166) (d := 153) 13 rfl rfl rfl (.none rfl) rfl rfl
        case h1 =>
          intro hb18 hK
          have hc := hb18; (try simp only [nrm, Int.reduceEq, Int.reduceNe, Int.reduceLT, Int.reduceLE] at hc)
          refine gye ?_ (hbw := by exact hb18); refine o1 (mv ?_); refine gye ?_ (hbw := by exact hb18); refine o1 (mv ?_); refine gye ?_ (hbw := by exact hb18); refine o1 (isu ?_); refine gye ?_ (hbw := by exact hb18); refine o1 (igt ?_)
          refine gye ?_ (hbw := by exact hb18); refine o1 (mv ?_)
          apply ops_and (yt := 165) (d := 158) 7 rfl rfl rfl (.yes rfl rfl rfl hb18) rfl rfl
          case h1 =>
            intro hb29 hK
            have hc := hb29; (try simp only [nrm, Int.reduceEq, Int.reduceNe, Int.reduceLT, Int.reduceLE] at hc)
            refine gye ?_ (hbw := by exact hb29); refine o1 (mv ?_); refine gye ?_ (hbw := by exact hb29); refine o1 (ncb ?_); refine gye ?_ (hbw := by exact hb29); refine o1 (fdb ti71 ?_); refine gye ?_ (hbw := by exact hb29); refine o1 (ldb ti9 ?_)
            refine gye ?_ (hbw := by exact hb29); refine o1 (mv ?_); refine gye ?_ (hbw := by exact hb29); refine o1 (byt ut9 ?_); refine gye ?_ (hbw := by exact hb29); refine o1 (ieq ?_); exact hK [_, _, _, _, _, _, _] rfl rfl
          case h2 =>
            intro hb29 hK; refine gno ?_ (hbw := by exact hb29); refine gno ?_ (hbw := by exact hb29); refine gno ?_ (hbw := by exact hb29); refine gno ?_ (hbw := by exact hb29); refine gno ?_ (hbw := by exact hb29); refine gno ?_ (hbw := by exact hb29)
            refine gno ?_ (hbw := by exact hb29); exact hK [_, _, _, _, _, _, _] rfl
          exact hK [_, _, _, _, _, _] rfl rfl
        case h2 =>
          intro hb18 hK; refine gno ?_ (hbw := by exact hb18); refine gno ?_ (hbw := by exact hb18); refine gno ?_ (hbw := by exact hb18); refine gno ?_ (hbw := by exact hb18); refine gno ?_ (hbw := by exact hb18); refine gud ?_; refine gud ?_
          refine gud ?_; refine gud ?_; refine gud ?_; refine gud ?_; refine gud ?_; refine gno ?_ (hbw := by exact hb18); exact hK [_, _, _, _, _, _, _, _, _, _, _, _, _] rfl
        refine nx ?_; refine cd (fun h22 => ?_) (fun h22 => ?_)
        · (try simp only [nrm, Int.reduceEq, Int.reduceNe, Int.reduceLT, Int.reduceLE] at h22)
          refine kp [5] ?_; refine sr ?_; refine o1 (mv ?_); refine o1 (asg ?_); refine o1 (asg ?_); refine o1 (asg ?_); refine nx ?_; refine runs_ret ?_; refine inb_ret ?_; refine seq_ret ?_; refine fin_ret ?_
          refine fin_od ⟨_, _, rfl, rfl, ⟨_, _, rfl, rfl, ⟨_, _, rfl, rfl, rfl⟩⟩⟩ rfl ([0]) ([.cells [.d (.v (.string s)), .d (.v (.int .i64 p)), .d (.v (.int .i64 c)), .d (.v (.int .i64 a))] 71]) rfl rfl rfl ?_ ?_
          · repeat (first | exact boz | refine boc ?_)
          · rw [tok_numNo hsp (by omega) (by omega) h11 (by omega) (spanB_runD hinv.2.2 (by omega)) (d := i) (by rw [if_neg (by omega)]) (by omega)]; exact ⟨rfl, rfl⟩
        (try simp only [nrm, Int.reduceEq, Int.reduceNe, Int.reduceLT, Int.reduceLE] at h22); refine runs_skip ?_; refine inb_normal ?_; refine seq_normal ?_; refine kp [6, 5, 0] ?_; refine sr ?_; refine o1 (mv ?_); refine o1 (ncb ?_)
        refine o1 (fdb ti71 ?_); refine o1 (ldb ti9 ?_); refine o1 (mv ?_); refine o1 (mv ?_); refine o1 (f_sub_lh ut9 ?_); refine o1 (mv ?_); refine o1 (asg ?_); refine o1 (asg ?_); refine o1 (asg ?_); refine nx ?_; refine runs_ret ?_
        refine fin_ret ?_; refine fin_od ⟨_, _, rfl, rfl, ⟨_, _, rfl, rfl, ⟨_, _, rfl, rfl, rfl⟩⟩⟩ rfl ([0]) ([.cells [.d (.v (.string s)), .d (.v (.int .i64 p)), .d (.v (.int .i64 c)), .d (.v (.int .i64 a))] 71]) rfl rfl rfl ?_ ?_
        · repeat (first | exact boz | refine boc ?_)
        · rw [tok_num hsp (by omega) (by omega) h11 (by omega) (spanB_runD hinv.2.2 (by omega)) (d := i) (by rw [if_neg (by omega)]) (by omega)]; exact ⟨rfl, rfl⟩
      (try simp only [nrm, Int.reduceEq, Int.reduceNe, Int.reduceLT, Int.reduceLE] at h20); refine kp [6, 5, 0] ?_; refine runs_region ?_; refine o1 (mv ?_); refine o1 (iad ?_); refine o1 (asg ?_); refine nx ?_; refine sr ?_; refine o1 (mv ?_)
      refine o1 (mv ?_); refine o1 (ieq ?_); refine o1 (mv ?_)
      apply ops_or (yt := 151) (d := 147) 4 rfl rfl rfl (.none rfl) rfl rfl
      case h1 =>
        intro hb6 hK
        have hc := hb6; (try simp only [nrm, Int.reduceEq, Int.reduceNe, Int.reduceLT, Int.reduceLE] at hc)
        refine gye ?_ (hbw := by exact hb6); refine o1 (mv ?_); refine gye ?_ (hbw := by exact hb6); refine o1 (mv ?_); refine gye ?_ (hbw := by exact hb6); refine o1 (isu ?_); refine gye ?_ (hbw := by exact hb6); refine o1 (igt ?_)
        exact hK [_, _, _, _] rfl rfl
      case h2 =>
        intro hb6 hK; refine gno ?_ (hbw := by exact hb6); refine gno ?_ (hbw := by exact hb6); refine gno ?_ (hbw := by exact hb6); refine gno ?_ (hbw := by exact hb6); exact hK [_, _, _, _] rfl
      refine o1 (mv ?_)
      apply ops_or (yt := 166) (d := 153) 13 rfl rfl rfl (.none rfl) rfl rfl
      case h1 =>
        intro hb18 hK
        have hc := hb18; (try simp only [nrm, Int.reduceEq, Int.reduceNe, Int.reduceLT, Int.reduceLE] at hc)
        refine gye ?_ (hbw := by exact hb18); refine o1 (mv ?_); refine gye ?_ (hbw := by exact hb18); refine o1 (mv ?_); refine gye ?_ (hbw := by exact hb18); refine o1 (isu ?_); refine gye ?_ (hbw := by exact hb18); refine o1 (igt ?_)
        refine gye ?_ (hbw := by exact hb18); refine o1 (mv ?_)
        apply ops_and (yt := 165) (d := 158) 7 rfl rfl rfl (.yes rfl rfl rfl hb18) rfl rfl
        case h1 =>
          intro hb29 hK
          have hc := hb29; (try simp only [nrm, Int.reduceEq, Int.reduceNe, Int.reduceLT, Int.reduceLE] at hc)
          refine gye ?_ (hbw := by exact hb29); refine o1 (mv ?_); refine gye ?_ (hbw := by exact hb29); refine o1 (ncb ?_); refine gye ?_ (hbw := by exact hb29); refine o1 (fdb ti71 ?_); refine gye ?_ (hbw := by exact hb29); refine o1 (ldb ti9 ?_)
          refine gye ?_ (hbw := by exact hb29); refine o1 (mv ?_); refine gye ?_ (hbw := by exact hb29); refine o1 (byt ut9 ?_); refine gye ?_ (hbw := by exact hb29); refine o1 (ieq ?_); exact hK [_, _, _, _, _, _, _] rfl rfl
        case h2 =>
          intro hb29 hK; refine gno ?_ (hbw := by exact hb29); refine gno ?_ (hbw := by exact hb29); refine gno ?_ (hbw := by exact hb29); refine gno ?_ (hbw := by exact hb29); refine gno ?_ (hbw := by exact hb29); refine gno ?_ (hbw := by exact hb29)
          refine gno ?_ (hbw := by exact hb29); exact hK [_, _, _, _, _, _, _] rfl
        exact hK [_, _, _, _, _, _] rfl rfl
      case h2 =>
        intro hb18 hK; refine gno ?_ (hbw := by exact hb18); refine gno ?_ (hbw := by exact hb18); refine gno ?_ (hbw := by exact hb18); refine gno ?_ (hbw := by exact hb18); refine gno ?_ (hbw := by exact hb18); refine gud ?_; refine gud ?_
        refine gud ?_; refine gud ?_; refine gud ?_; refine gud ?_; refine gud ?_; refine gno ?_ (hbw := by exact hb18); exact hK [_, _, _, _, _, _, _, _, _, _, _, _, _] rfl
      refine nx ?_; refine cd (fun h22 => ?_) (fun h22 => ?_)
      · (try simp only [nrm, Int.reduceEq, Int.reduceNe, Int.reduceLT, Int.reduceLE] at h22)
        refine kp [5] ?_; refine sr ?_; refine o1 (mv ?_); refine o1 (asg ?_); refine o1 (asg ?_); refine o1 (asg ?_); refine nx ?_; refine runs_ret ?_; refine inb_ret ?_; refine seq_ret ?_; refine fin_ret ?_
        refine fin_od ⟨_, _, rfl, rfl, ⟨_, _, rfl, rfl, ⟨_, _, rfl, rfl, rfl⟩⟩⟩ rfl ([0]) ([.cells [.d (.v (.string s)), .d (.v (.int .i64 p)), .d (.v (.int .i64 c)), .d (.v (.int .i64 a))] 71]) rfl rfl rfl ?_ ?_
        · repeat (first | exact boz | refine boc ?_)
        · rw [tok_numNo hsp (by omega) (by omega) h11 (by omega) (spanB_runD hinv.2.2 (by omega)) (d := i + 1) (by rw [if_pos (by omega)]) (by omega)]; exact ⟨rfl, rfl⟩
      (try simp only [nrm, Int.reduceEq, Int.reduceNe, Int.reduceLT, Int.reduceLE] at h22); refine runs_skip ?_; refine inb_normal ?_; refine seq_normal ?_; refine kp [6, 5, 0] ?_; refine sr ?_; refine o1 (mv ?_); refine o1 (ncb ?_)
      refine o1 (fdb ti71 ?_); refine o1 (ldb ti9 ?_); refine o1 (mv ?_); refine o1 (mv ?_); refine o1 (f_sub_lh ut9 ?_); refine o1 (mv ?_); refine o1 (asg ?_); refine o1 (asg ?_); refine o1 (asg ?_); refine nx ?_; refine runs_ret ?_
      refine fin_ret ?_; refine fin_od ⟨_, _, rfl, rfl, ⟨_, _, rfl, rfl, ⟨_, _, rfl, rfl, rfl⟩⟩⟩ rfl ([0]) ([.cells [.d (.v (.string s)), .d (.v (.int .i64 p)), .d (.v (.int .i64 c)), .d (.v (.int .i64 a))] 71]) rfl rfl rfl ?_ ?_
      · repeat (first | exact boz | refine boc ?_)
      · rw [tok_num hsp (by omega) (by omega) h11 (by omega) (spanB_runD hinv.2.2 (by omega)) (d := i + 1) (by rw [if_pos (by omega)]) (by omega)]; exact ⟨rfl, rfl⟩
end Go.Proofs.YtneaancanfpdhaaGreatDoor
namespace Go.Proofs.YtneaancanfpdhaaGreatDoor
open Go Go.Vd Go.RowKit
attribute [local irreducible] Runs OpsR OpR FloatR AnyR
variable {gl : Nat → List D}
/-- a reader -/
def rdO (s : ByteArray) (r : RS) : Ob := .cells [.d (.v (.string s)), .d (.v (.int .i64 r.p)), .d (.v (.int .i64 (fcode r.f))), .d (.v (.int .i64 (fat r.f)))] 71
theorem fail_spec (s : ByteArray) (at' : Nat) (r : RS) :
    Tri Tryz.prog gl 83 [rdO s r] [.blk 0 0, .d (.v (.int .i64 at'))] fun out ob' => out = .ret (.d (.tup [])) ∧ ob' = [rdO s (r.fail at')] := by
  obtain ⟨p, f⟩ := r
  cases f with
  | none =>
    refine triS_of_runs Tryz.func83 rfl Tryz.ntmps83 (rs := []) rfl rfl rfl 1 rfl ?_
    refine sr ?_; refine o1 (mv ?_); refine o1 (ncb ?_); refine o1 (fdb ti71 ?_); refine o1 (fdb ti33 ?_); refine o1 (ldb ti3 ?_); refine o1 (ieq ?_); refine nx ?_; refine cdf (fun h0 => ?_) (fun h0 => ?_)
    · simp only [nrm, Int.reduceEq, Int.reduceNe, Int.reduceLT, Int.reduceLE, fcode, fat] at h0
    (try simp only [nrm, Int.reduceEq, Int.reduceNe, Int.reduceLT, Int.reduceLE, fcode, fat] at h0); refine kp [0, 1] ?_; refine runs_region ?_; refine o1 (mv ?_); refine o1 (mv ?_); refine o1 (bld ti33 ?_); refine o1 (ncb ?_)
    refine o1 (fdb ti71 ?_); refine oc (sto ti33 ?_); refine ops_nil ?_; refine fin_normal ?_; refine fin_od (l := []) rfl rfl ([0]) ([rdO s (RS.fail at' ⟨p, none⟩)]) rfl rfl rfl ?_ ?_
    · repeat (first | exact boz | refine boc ?_)
    · exact ⟨rfl, rfl⟩
  | some a =>
    refine triS_of_runs Tryz.func83 rfl Tryz.ntmps83 (rs := []) rfl rfl rfl 1 rfl ?_
    refine sr ?_; refine o1 (mv ?_); refine o1 (ncb ?_); refine o1 (fdb ti71 ?_); refine o1 (fdb ti33 ?_); refine o1 (ldb ti3 ?_); refine o1 (ieq ?_); refine nx ?_; refine cd (fun h0 => ?_) (fun h0 => ?_)
    · simp only [nrm, Int.reduceEq, Int.reduceNe, Int.reduceLT, Int.reduceLE, fcode, fat] at h0
    (try simp only [nrm, Int.reduceEq, Int.reduceNe, Int.reduceLT, Int.reduceLE, fcode, fat] at h0); refine runs_skip ?_; refine fin_normal ?_; refine fin_od (l := []) rfl rfl ([0]) ([rdO s (RS.fail at' ⟨p, some a⟩)]) rfl rfl rfl ?_ ?_
    · repeat (first | exact boz | refine boc ?_)
    · exact ⟨rfl, rfl⟩
theorem next_spec (s : ByteArray) (r : RS) (hs : s.size ≤ 1099511627776) (hp : r.p ≤ s.size) :
    Tri Tryz.prog gl 84 [rdO s r] [.blk 0 0] fun out ob' => out = .ret (.d (.v (.string (nextR s r).1))) ∧ ob' = [rdO s (nextR s r).2] := by
  have hat := tokR_at (s := s) hp
  obtain ⟨p, f⟩ := r
  simp only at hat hp
  cases f with
  | none =>
    refine triS_of_runs Tryz.func84 rfl Tryz.ntmps84 (rs := [.tmp 2]) rfl rfl rfl 1 rfl ?_
    refine sr ?_; refine o1 (asg ?_); refine nx ?_; refine sr ?_; refine o1 (mv ?_); refine oc (ck ca82 rfl rfl (token_spec s p (fcode none) (fat none) hs hp) [0] rfl (boc .nil) (fir .nil) ?_); refine o1 (mv ?_); refine o1 (ex2 ?_)
    refine o1 (ex2 ?_); refine o1 (ex2 ?_); refine o1 (asg ?_); refine o1 (asg ?_); refine o1 (asg ?_); refine nx ?_; refine runs_seq ?_; refine kp [5, 4, 3, 0] ?_; refine sr ?_; refine o1 (mv ?_); refine o1 (f_not ?_); refine o1 (mv ?_)
    apply ops_or (yt := 16) (d := 14) 2 rfl rfl rfl (.none rfl) rfl rfl
    case h1 =>
      intro hb4 hK
      have hc := hb4; (try simp only [nrm, Int.reduceEq, Int.reduceNe, Int.reduceLT, Int.reduceLE, fcode, fat, RS.fail] at hc)
      refine gye ?_ (hbw := by exact hb4); refine o1 (mv ?_); refine gye ?_ (hbw := by exact hb4); refine o1 (seq1 ?_); exact hK [_, _] rfl rfl
    case h2 =>
      intro hb4 hK; refine gno ?_ (hbw := by exact hb4); refine gno ?_ (hbw := by exact hb4); exact hK [_, _] rfl
    refine nx ?_; refine cd (fun h2 => ?_) (fun h2 => ?_)
    · (try simp only [nrm, Int.reduceEq, Int.reduceNe, Int.reduceLT, Int.reduceLE, fcode, fat, RS.fail] at h2)
      refine kp [4, 3, 0] ?_; refine runs_region ?_; refine o1 (mv ?_); refine o1 (mv ?_); refine oc (ck ca83 rfl rfl (fail_spec s (tokR s p).2.1 ⟨p, none⟩) [0] rfl (boc .nil) (fir (fir .nil)) ?_); refine nx ?_; refine runs_seq ?_; refine sr ?_
      refine o1 (mv ?_); refine o1 (ncb ?_); refine o1 (fdb ti71 ?_); refine o1 (fdb ti33 ?_); refine o1 (ldb ti3 ?_); refine o1 (ine ?_); refine nx ?_; refine cdf (fun h4 => ?_) (fun h4 => ?_)
      · simp only [nrm, Int.reduceEq, Int.reduceNe, Int.reduceLT, Int.reduceLE, fcode, fat, RS.fail] at h4
      (try simp only [nrm, Int.reduceEq, Int.reduceNe, Int.reduceLT, Int.reduceLE, fcode, fat, RS.fail] at h4); refine kp [] ?_; refine sr ?_; refine o1 (asg ?_); refine nx ?_; refine runs_ret ?_; refine seq_ret ?_; refine fin_ret ?_
      refine fin_od ⟨_, _, rfl, rfl, rfl⟩ rfl ([0]) ([rdO s (RS.fail (tokR s p).2.1 ⟨p, none⟩)]) rfl rfl rfl ?_ ?_
      · repeat (first | exact boz | refine boc ?_)
      · unfold nextR; simp only; rw [if_pos (by exact h2)]; exact ⟨rfl, rfl⟩
    (try simp only [nrm, Int.reduceEq, Int.reduceNe, Int.reduceLT, Int.reduceLE, fcode, fat, RS.fail] at h2); refine runs_skip ?_; refine seq_normal ?_; refine runs_seq ?_; refine kp [4, 3, 0] ?_; refine sr ?_; refine o1 (mv ?_)
    refine o1 (ncb ?_); refine o1 (fdb ti71 ?_); refine o1 (fdb ti33 ?_); refine o1 (ldb ti3 ?_); refine o1 (ine ?_); refine nx ?_; refine cd (fun h4 => ?_) (fun h4 => ?_)
    · simp only [nrm, Int.reduceEq, Int.reduceNe, Int.reduceLT, Int.reduceLE, fcode, fat, RS.fail] at h4
    (try simp only [nrm, Int.reduceEq, Int.reduceNe, Int.reduceLT, Int.reduceLE, fcode, fat, RS.fail] at h4); refine runs_skip ?_; refine seq_normal ?_; refine kp [4, 3, 0] ?_; refine sr ?_; refine o1 (mv ?_); refine o1 (mv ?_)
    refine o1 (mv ?_); refine o1 (le3 ut9 ?_); refine o1 (iad ?_); refine o1 (ncb ?_); refine o1 (fdb ti71 ?_); refine oc (sto ti3 ?_); refine nx ?_; refine kp [3] ?_; refine sr ?_; refine o1 (mv ?_); refine o1 (asg ?_); refine nx ?_
    refine runs_ret ?_; refine fin_ret ?_; refine fin_od ⟨_, _, rfl, rfl, rfl⟩ rfl ([0]) ([rdO s ⟨(tokR s p).2.1 + (tokR s p).1.size, none⟩]) rfl rfl rfl ?_ ?_
    · repeat (first | exact boz | refine boc ?_)
    · unfold nextR; simp only; rw [if_neg (by rintro (h | h); exact absurd h (by simpa using h2.1); exact h2.2 h)]; exact ⟨rfl, rfl⟩
  | some a =>
    refine triS_of_runs Tryz.func84 rfl Tryz.ntmps84 (rs := [.tmp 2]) rfl rfl rfl 1 rfl ?_
    refine sr ?_; refine o1 (asg ?_); refine nx ?_; refine sr ?_; refine o1 (mv ?_); refine oc (ck ca82 rfl rfl (token_spec s p (fcode (some a)) (fat (some a)) hs hp) [0] rfl (boc .nil) (fir .nil) ?_); refine o1 (mv ?_); refine o1 (ex2 ?_)
    refine o1 (ex2 ?_); refine o1 (ex2 ?_); refine o1 (asg ?_); refine o1 (asg ?_); refine o1 (asg ?_); refine nx ?_; refine runs_seq ?_; refine kp [5, 4, 3, 0] ?_; refine sr ?_; refine o1 (mv ?_); refine o1 (f_not ?_); refine o1 (mv ?_)
    apply ops_or (yt := 16) (d := 14) 2 rfl rfl rfl (.none rfl) rfl rfl
    case h1 =>
      intro hb4 hK
      have hc := hb4; (try simp only [nrm, Int.reduceEq, Int.reduceNe, Int.reduceLT, Int.reduceLE, fcode, fat, RS.fail] at hc)
      refine gye ?_ (hbw := by exact hb4); refine o1 (mv ?_); refine gye ?_ (hbw := by exact hb4); refine o1 (seq1 ?_); exact hK [_, _] rfl rfl
    case h2 =>
      intro hb4 hK; refine gno ?_ (hbw := by exact hb4); refine gno ?_ (hbw := by exact hb4); exact hK [_, _] rfl
    refine nx ?_; refine cdf (fun h2 => ?_) (fun h2 => ?_)
    · (try simp only [nrm, Int.reduceEq, Int.reduceNe, Int.reduceLT, Int.reduceLE, fcode, fat, RS.fail] at h2)
      refine runs_skip ?_; refine seq_normal ?_; refine runs_seq ?_; refine kp [4, 3, 0] ?_; refine sr ?_; refine o1 (mv ?_); refine o1 (ncb ?_); refine o1 (fdb ti71 ?_); refine o1 (fdb ti33 ?_); refine o1 (ldb ti3 ?_); refine o1 (ine ?_)
      refine nx ?_; refine cdf (fun h4 => ?_) (fun h4 => ?_)
      · simp only [nrm, Int.reduceEq, Int.reduceNe, Int.reduceLT, Int.reduceLE, fcode, fat, RS.fail] at h4
      (try simp only [nrm, Int.reduceEq, Int.reduceNe, Int.reduceLT, Int.reduceLE, fcode, fat, RS.fail] at h4); refine kp [] ?_; refine sr ?_; refine o1 (asg ?_); refine nx ?_; refine runs_ret ?_; refine seq_ret ?_; refine fin_ret ?_
      refine fin_od ⟨_, _, rfl, rfl, rfl⟩ rfl ([0]) ([rdO s ⟨p, some a⟩]) rfl rfl rfl ?_ ?_
      · repeat (first | exact boz | refine boc ?_)
      · unfold nextR; simp only; rw [if_neg (by rintro (h | h); exact absurd h (by simpa using h2.1); exact h2.2 h)]; exact ⟨rfl, rfl⟩
    (try simp only [nrm, Int.reduceEq, Int.reduceNe, Int.reduceLT, Int.reduceLE, fcode, fat, RS.fail] at h2); refine kp [4, 3, 0] ?_; refine runs_region ?_; refine o1 (mv ?_); refine o1 (mv ?_)
    refine oc (ck ca83 rfl rfl (fail_spec s (tokR s p).2.1 ⟨p, some a⟩) [0] rfl (boc .nil) (fir (fir .nil)) ?_); refine nx ?_; refine runs_seq ?_; refine sr ?_; refine o1 (mv ?_); refine o1 (ncb ?_); refine o1 (fdb ti71 ?_)
    refine o1 (fdb ti33 ?_); refine o1 (ldb ti3 ?_); refine o1 (ine ?_); refine nx ?_; refine cdf (fun h4 => ?_) (fun h4 => ?_)
    · simp only [nrm, Int.reduceEq, Int.reduceNe, Int.reduceLT, Int.reduceLE, fcode, fat, RS.fail] at h4
    (try simp only [nrm, Int.reduceEq, Int.reduceNe, Int.reduceLT, Int.reduceLE, fcode, fat, RS.fail] at h4); refine kp [] ?_; refine sr ?_; refine o1 (asg ?_); refine nx ?_; refine runs_ret ?_; refine seq_ret ?_; refine fin_ret ?_
    refine fin_od ⟨_, _, rfl, rfl, rfl⟩ rfl ([0]) ([rdO s (RS.fail (tokR s p).2.1 ⟨p, some a⟩)]) rfl rfl rfl ?_ ?_
    · repeat (first | exact boz | refine boc ?_)
    · unfold nextR; simp only; rw [if_pos (by exact h2)]; exact ⟨rfl, rfl⟩
theorem take_spec (s t : ByteArray) (r : RS) (hs : s.size ≤ 1099511627776) (hp : r.p ≤ s.size) :
    Tri Tryz.prog gl 88 [rdO s r] [.blk 0 0, .d (.v (.string t))] fun out ob' => out = .ret (.d (.tup [])) ∧ ob' = [rdO s (takeR s t r)] := by
  have hat := tokR_at (s := s) hp
  obtain ⟨p, f⟩ := r
  simp only at hat hp
  cases f with
  | none =>
    refine triS_of_runs Tryz.func88 rfl Tryz.ntmps88 (rs := []) rfl rfl rfl 1 rfl ?_
    refine sr ?_; refine o1 (mv ?_); refine oc (ck ca82 rfl rfl (token_spec s p (fcode none) (fat none) hs hp) [0] rfl (boc .nil) (fir .nil) ?_); refine o1 (mv ?_); refine o1 (ex2 ?_); refine o1 (ex2 ?_); refine o1 (ex2 ?_); refine o1 (asg ?_)
    refine o1 (asg ?_); refine o1 (asg ?_); refine nx ?_; refine runs_seq ?_; refine kp [6, 5, 4, 0, 1] ?_; refine sr ?_; refine o1 (mv ?_); refine o1 (f_not ?_); refine o1 (mv ?_)
    apply ops_or (yt := 18) (d := 15) 3 rfl rfl rfl (.none rfl) rfl rfl
    case h1 =>
      intro hb4 hK
      have hc := hb4; (try simp only [nrm, Int.reduceEq, Int.reduceNe, Int.reduceLT, Int.reduceLE, fcode, fat, RS.fail] at hc)
      refine gye ?_ (hbw := by exact hb4); refine o1 (mv ?_); refine gye ?_ (hbw := by exact hb4); refine o1 (mv ?_); refine gye ?_ (hbw := by exact hb4); refine o1 (sne ?_); exact hK [_, _, _] rfl rfl
    case h2 =>
      intro hb4 hK; refine gno ?_ (hbw := by exact hb4); refine gno ?_ (hbw := by exact hb4); refine gno ?_ (hbw := by exact hb4); exact hK [_, _, _] rfl
    refine nx ?_; refine cd (fun h1 => ?_) (fun h1 => ?_)
    · (try simp only [nrm, Int.reduceEq, Int.reduceNe, Int.reduceLT, Int.reduceLE, fcode, fat, RS.fail] at h1)
      refine kp [5, 4, 0] ?_; refine runs_region ?_; refine o1 (mv ?_); refine o1 (mv ?_); refine oc (ck ca83 rfl rfl (fail_spec s (tokR s p).2.1 ⟨p, none⟩) [0] rfl (boc .nil) (fir (fir .nil)) ?_); refine nx ?_; refine sr ?_; refine o1 (mv ?_)
      refine o1 (ncb ?_); refine o1 (fdb ti71 ?_); refine o1 (fdb ti33 ?_); refine o1 (ldb ti3 ?_); refine o1 (ieq ?_); refine nx ?_; refine cd (fun h3 => ?_) (fun h3 => ?_)
      · simp only [nrm, Int.reduceEq, Int.reduceNe, Int.reduceLT, Int.reduceLE, fcode, fat, RS.fail] at h3
      (try simp only [nrm, Int.reduceEq, Int.reduceNe, Int.reduceLT, Int.reduceLE, fcode, fat, RS.fail] at h3); refine runs_skip ?_; refine fin_normal ?_
      refine fin_od (l := []) rfl rfl ([0]) ([rdO s (RS.fail (tokR s p).2.1 ⟨p, none⟩)]) rfl rfl rfl ?_ ?_
      · repeat (first | exact boz | refine boc ?_)
      · refine ⟨rfl, ?_⟩; unfold takeR; dsimp only; rw [if_pos (by exact h1)]
    (try simp only [nrm, Int.reduceEq, Int.reduceNe, Int.reduceLT, Int.reduceLE, fcode, fat, RS.fail] at h1); refine runs_skip ?_; refine seq_normal ?_; refine kp [5, 4, 0] ?_; refine sr ?_; refine o1 (mv ?_); refine o1 (ncb ?_)
    refine o1 (fdb ti71 ?_); refine o1 (fdb ti33 ?_); refine o1 (ldb ti3 ?_); refine o1 (ieq ?_); refine nx ?_; refine cdf (fun h3 => ?_) (fun h3 => ?_)
    · simp only [nrm, Int.reduceEq, Int.reduceNe, Int.reduceLT, Int.reduceLE, fcode, fat, RS.fail] at h3
    (try simp only [nrm, Int.reduceEq, Int.reduceNe, Int.reduceLT, Int.reduceLE, fcode, fat, RS.fail] at h3); refine kp [5, 4, 0] ?_; refine runs_region ?_; refine o1 (mv ?_); refine o1 (mv ?_); refine o1 (mv ?_); refine o1 (le3 ut9 ?_)
    refine o1 (iad ?_); refine o1 (ncb ?_); refine o1 (fdb ti71 ?_); refine oc (sto ti3 ?_); refine ops_nil ?_; refine fin_normal ?_; refine fin_od (l := []) rfl rfl ([0]) ([rdO s ⟨(tokR s p).2.1 + (tokR s p).1.size, none⟩]) rfl rfl rfl ?_ ?_
    · repeat (first | exact boz | refine boc ?_)
    · refine ⟨rfl, ?_⟩; unfold takeR; dsimp only; rw [if_neg (by rintro (h | h); exact absurd h (by simpa using h1.1); exact h h1.2)]
  | some a =>
    refine triS_of_runs Tryz.func88 rfl Tryz.ntmps88 (rs := []) rfl rfl rfl 1 rfl ?_
    refine sr ?_; refine o1 (mv ?_); refine oc (ck ca82 rfl rfl (token_spec s p (fcode (some a)) (fat (some a)) hs hp) [0] rfl (boc .nil) (fir .nil) ?_); refine o1 (mv ?_); refine o1 (ex2 ?_); refine o1 (ex2 ?_); refine o1 (ex2 ?_)
    refine o1 (asg ?_); refine o1 (asg ?_); refine o1 (asg ?_); refine nx ?_; refine runs_seq ?_; refine kp [6, 5, 4, 0, 1] ?_; refine sr ?_; refine o1 (mv ?_); refine o1 (f_not ?_); refine o1 (mv ?_)
    apply ops_or (yt := 18) (d := 15) 3 rfl rfl rfl (.none rfl) rfl rfl
    case h1 =>
      intro hb4 hK
      have hc := hb4; (try simp only [nrm, Int.reduceEq, Int.reduceNe, Int.reduceLT, Int.reduceLE, fcode, fat, RS.fail] at hc)
      refine gye ?_ (hbw := by exact hb4); refine o1 (mv ?_); refine gye ?_ (hbw := by exact hb4); refine o1 (mv ?_); refine gye ?_ (hbw := by exact hb4); refine o1 (sne ?_); exact hK [_, _, _] rfl rfl
    case h2 =>
      intro hb4 hK; refine gno ?_ (hbw := by exact hb4); refine gno ?_ (hbw := by exact hb4); refine gno ?_ (hbw := by exact hb4); exact hK [_, _, _] rfl
    refine nx ?_; refine cdf (fun h1 => ?_) (fun h1 => ?_)
    · (try simp only [nrm, Int.reduceEq, Int.reduceNe, Int.reduceLT, Int.reduceLE, fcode, fat, RS.fail] at h1)
      refine runs_skip ?_; refine seq_normal ?_; refine kp [5, 4, 0] ?_; refine sr ?_; refine o1 (mv ?_); refine o1 (ncb ?_); refine o1 (fdb ti71 ?_); refine o1 (fdb ti33 ?_); refine o1 (ldb ti3 ?_); refine o1 (ieq ?_); refine nx ?_
      refine cd (fun h3 => ?_) (fun h3 => ?_)
      · simp only [nrm, Int.reduceEq, Int.reduceNe, Int.reduceLT, Int.reduceLE, fcode, fat, RS.fail] at h3
      (try simp only [nrm, Int.reduceEq, Int.reduceNe, Int.reduceLT, Int.reduceLE, fcode, fat, RS.fail] at h3); refine runs_skip ?_; refine fin_normal ?_; refine fin_od (l := []) rfl rfl ([0]) ([rdO s ⟨p, some a⟩]) rfl rfl rfl ?_ ?_
      · repeat (first | exact boz | refine boc ?_)
      · refine ⟨rfl, ?_⟩; unfold takeR; dsimp only; rw [if_neg (by rintro (h | h); exact absurd h (by simpa using h1.1); exact h h1.2)]
    (try simp only [nrm, Int.reduceEq, Int.reduceNe, Int.reduceLT, Int.reduceLE, fcode, fat, RS.fail] at h1); refine kp [5, 4, 0] ?_; refine runs_region ?_; refine o1 (mv ?_); refine o1 (mv ?_)
    refine oc (ck ca83 rfl rfl (fail_spec s (tokR s p).2.1 ⟨p, some a⟩) [0] rfl (boc .nil) (fir (fir .nil)) ?_); refine nx ?_; refine sr ?_; refine o1 (mv ?_); refine o1 (ncb ?_); refine o1 (fdb ti71 ?_); refine o1 (fdb ti33 ?_)
    refine o1 (ldb ti3 ?_); refine o1 (ieq ?_); refine nx ?_; refine cd (fun h3 => ?_) (fun h3 => ?_)
    · simp only [nrm, Int.reduceEq, Int.reduceNe, Int.reduceLT, Int.reduceLE, fcode, fat, RS.fail] at h3
    (try simp only [nrm, Int.reduceEq, Int.reduceNe, Int.reduceLT, Int.reduceLE, fcode, fat, RS.fail] at h3); refine runs_skip ?_; refine fin_normal ?_
    refine fin_od (l := []) rfl rfl ([0]) ([rdO s (RS.fail (tokR s p).2.1 ⟨p, some a⟩)]) rfl rfl rfl ?_ ?_
    · repeat (first | exact boz | refine boc ?_)
    · refine ⟨rfl, ?_⟩; unfold takeR; dsimp only; rw [if_pos (by exact h1)]
theorem done_spec (s : ByteArray) (r : RS) (hs : s.size ≤ 1099511627776) (hp : r.p ≤ s.size) :
    Tri Tryz.prog gl 43 [rdO s r] [.blk 0 0] fun out ob' => out = .ret (.d (.agg [.v (.int .i64 (fcode (doneR s r).f)), .v (.int .i64 (fat (doneR s r).f))])) ∧ ob' = [rdO s (doneR s r)] := by
  refine triS_of_runs Tryz.func43 rfl Tryz.ntmps43 (rs := [.cell 2 33]) rfl rfl rfl 1 rfl ?_
  refine sr ?_; refine oc (T := fun _ => False) (alc ti33 ?_ (hl := by simp only [List.length_cons, List.length_nil, Nat.reduceAdd]; rfl)); refine nx ?_; refine sr ?_; refine o1 (mv ?_)
  refine oc (ck ca82 rfl rfl (token_spec s r.p (fcode r.f) (fat r.f) hs hp) [0] rfl (boc .nil) (fir .nil) ?_); refine o1 (mv ?_); refine o1 (ex2 ?_); refine o1 (ex2 ?_); refine o1 (ex2 ?_); refine o1 (asg ?_); refine o1 (asg ?_)
  refine o1 (asg ?_); refine nx ?_; refine runs_seq ?_; refine kp [5, 4, 3, 2, 0] ?_; refine sr ?_; refine o1 (mv ?_); refine o1 (f_not ?_); refine o1 (mv ?_)
  apply ops_or (yt := 16) (d := 14) 2 rfl rfl rfl (.none rfl) rfl rfl
  case h1 =>
    intro hb4 hK
    have hc := hb4; (try simp only [nrm, Int.reduceEq, Int.reduceNe, Int.reduceLT, Int.reduceLE] at hc)
    refine gye ?_ (hbw := by exact hb4); refine o1 (mv ?_); refine gye ?_ (hbw := by exact hb4); refine o1 (sne ?_); exact hK [_, _] rfl rfl
  case h2 =>
    intro hb4 hK; refine gno ?_ (hbw := by exact hb4); refine gno ?_ (hbw := by exact hb4); exact hK [_, _] rfl
  refine nx ?_; refine cdf (fun h2 => ?_) (fun h2 => ?_)
  · (try simp only [nrm, Int.reduceEq, Int.reduceNe, Int.reduceLT, Int.reduceLE] at h2)
    refine runs_skip ?_; refine seq_normal ?_; refine kp [2, 0] ?_; refine sr ?_; refine o1 (mv ?_); refine o1 (ncb ?_); refine o1 (fdb ti71 ?_); refine o1 (ldb ti33 ?_); refine oc (sto ti33 ?_); refine nx ?_; refine runs_ret ?_
    refine fin_ret ?_; refine fin_od ⟨_, _, rfl, (from_cell rfl rfl ti33 rfl rfl rfl rfl), rfl⟩ rfl ([0]) ([rdO s r]) rfl rfl rfl ?_ ?_
    · repeat (first | exact boz | refine boc ?_)
    · unfold doneR; simp only; rw [if_neg (by rintro (h | h); exact absurd h (by simpa using h2.1); exact h h2.2)]; exact ⟨rfl, rfl⟩
  (try simp only [nrm, Int.reduceEq, Int.reduceNe, Int.reduceLT, Int.reduceLE] at h2); refine kp [4, 2, 0] ?_; refine runs_region ?_; refine o1 (mv ?_); refine o1 (mv ?_)
  refine oc (ck ca83 rfl rfl (fail_spec s (tokR s r.p).2.1 r) [0] rfl (boc .nil) (fir (fir .nil)) ?_); refine nx ?_; refine kp [2, 0] ?_; refine sr ?_; refine o1 (mv ?_); refine o1 (ncb ?_); refine o1 (fdb ti71 ?_); refine o1 (ldb ti33 ?_)
  refine oc (sto ti33 ?_); refine nx ?_; refine runs_ret ?_; refine fin_ret ?_; refine fin_od ⟨_, _, rfl, (from_cell rfl rfl ti33 rfl rfl rfl rfl), rfl⟩ rfl ([0]) ([rdO s (RS.fail (tokR s r.p).2.1 r)]) rfl rfl rfl ?_ ?_
  · repeat (first | exact boz | refine boc ?_)
  · unfold doneR; simp only; rw [if_pos (by exact h2)]; exact ⟨rfl, rfl⟩
end Go.Proofs.YtneaancanfpdhaaGreatDoor
namespace Go.Proofs.YtneaancanfpdhaaGreatDoor
open Go Go.Vd Go.RowKit
attribute [local irreducible] Runs OpsR OpR FloatR AnyR
variable {gl : Nat → List D}
theorem level_spec (s : ByteArray) (hs : s.size ≤ 1099511627776) : ∀ (n : Nat) (r : RS), r.p ≤ s.size → s.size - r.p < n →
    Tri Tryz.prog gl 60 [rdO s r] [.blk 0 0] fun out ob' => out = .ret (.d (levelR n s r).1.d) ∧ ob' = [rdO s (levelR n s r).2] := by
  intro n
  induction n with
  | zero => intro r _ h; omega
  | succ n ih =>
    intro r hp hn
    have hat := tokR_at (s := s) hp
    obtain ⟨p, f⟩ := r
    simp only at hat hp hn
    cases f with
    | some a =>
      refine triS_of_runs Tryz.func60 rfl Tryz.ntmps60 (rs := [.cell 2 45]) rfl rfl rfl 1 rfl ?_
      refine sr ?_; refine oc (T := fun _ => False) (alc ti45 ?_ (hl := by simp only [List.length_cons, List.length_nil, Nat.reduceAdd]; rfl)); refine nx ?_; refine sr ?_; refine o1 (mv ?_)
      refine oc (ck ca82 rfl rfl (token_spec s p (fcode (some a)) (fat (some a)) hs hp) [0] rfl (boc .nil) (fir .nil) ?_); refine o1 (mv ?_); refine o1 (ex2 ?_); refine o1 (ex2 ?_); refine o1 (ex2 ?_); refine o1 (asg ?_); refine o1 (asg ?_)
      refine o1 (asg ?_); refine nx ?_; refine kp [4, 3, 2, 0] ?_; refine sr ?_; refine o1 (mv ?_); refine oc (cv ca97 rfl rfl (isName_spec (tokR s p).1) (fir .nil) ?_); refine o1 (asg ?_); refine nx ?_; refine runs_seq ?_; refine runs_block ?_
      refine sr ?_; refine o1 (mv ?_); refine o1 (ncb ?_); refine o1 (fdb ti71 ?_); refine o1 (fdb ti33 ?_); refine o1 (ldb ti3 ?_); refine o1 (ine ?_); refine o1 (asg ?_); refine nx ?_; refine cdf (fun h4 => ?_) (fun h4 => ?_)
      · simp only [nrm, Int.reduceEq, Int.reduceNe, Int.reduceLT, Int.reduceLE, fcode, fat] at h4
      (try simp only [nrm, Int.reduceEq, Int.reduceNe, Int.reduceLT, Int.reduceLE, fcode, fat] at h4); refine runs_skip ?_; refine inb_normal ?_; refine seq_normal ?_; refine kp [2] ?_; refine sr ?_; refine o1 (bld ti45 ?_)
      refine oc (sto ti45 ?_); refine nx ?_; refine runs_ret ?_; refine fin_ret ?_
      refine fin_odl ⟨_, _, rfl, (from_cell rfl rfl ti45 rfl rfl rfl rfl), rfl⟩ rfl (zeroL.d) (by repeat (first | exact .refl _ | exact .nil | refine .agg ?_ | refine .cons ?_ ?_)) ([0]) ([rdO s ⟨p, some a⟩]) rfl rfl rfl ?_ ?_
      · repeat (first | exact boz | refine boc ?_)
      · exact ⟨rfl, rfl⟩
    | none =>
      have hn1 := nextR_le (s := s) (r := ⟨p, none⟩) hp
      have hn2 := nextR_le (s := s) (r := (nextR s ⟨p, none⟩).2) hn1.2
      have hl1 := levelR_le (s := s) n (r := (nextR s (nextR s ⟨p, none⟩).2).2) hn2.2
      have hl2 := levelR_le (s := s) n (r := (levelR n s (nextR s (nextR s ⟨p, none⟩).2).2).2) hl1.2
      refine triS_of_runs Tryz.func60 rfl Tryz.ntmps60 (rs := [.cell 2 45]) rfl rfl rfl 1 rfl ?_
      refine sr ?_; refine oc (T := fun _ => False) (alc ti45 ?_ (hl := by simp only [List.length_cons, List.length_nil, Nat.reduceAdd]; rfl)); refine nx ?_; refine sr ?_; refine o1 (mv ?_)
      refine oc (ck ca82 rfl rfl (token_spec s p (fcode none) (fat none) hs hp) [0] rfl (boc .nil) (fir .nil) ?_); refine o1 (mv ?_); refine o1 (ex2 ?_); refine o1 (ex2 ?_); refine o1 (ex2 ?_); refine o1 (asg ?_); refine o1 (asg ?_)
      refine o1 (asg ?_); refine nx ?_; refine kp [4, 3, 2, 0] ?_; refine sr ?_; refine o1 (mv ?_); refine oc (cv ca97 rfl rfl (isName_spec (tokR s p).1) (fir .nil) ?_); refine o1 (asg ?_); refine nx ?_; refine runs_seq ?_; refine runs_block ?_
      refine sr ?_; refine o1 (mv ?_); refine o1 (ncb ?_); refine o1 (fdb ti71 ?_); refine o1 (fdb ti33 ?_); refine o1 (ldb ti3 ?_); refine o1 (ine ?_); refine o1 (asg ?_); refine nx ?_; refine cd (fun h4 => ?_) (fun h4 => ?_)
      · simp only [nrm, Int.reduceEq, Int.reduceNe, Int.reduceLT, Int.reduceLE, fcode, fat] at h4
      (try simp only [nrm, Int.reduceEq, Int.reduceNe, Int.reduceLT, Int.reduceLE, fcode, fat] at h4); refine kp [6, 4, 3, 2, 0] ?_; refine sr ?_; refine o1 (mv ?_); refine o1 (seq1 ?_); refine o1 (asg ?_); refine nx ?_
      refine cd (fun h5 => ?_) (fun h5 => ?_)
      · (try simp only [nrm, Int.reduceEq, Int.reduceNe, Int.reduceLT, Int.reduceLE, fcode, fat] at h5)
        refine kp [2, 0] ?_; refine runs_region ?_; refine o1 (mv ?_); refine oc (ck ca84 rfl rfl (next_spec s ⟨p, none⟩ hs hp) [0] rfl (boc .nil) (fir .nil) ?_); refine ops_nil ?_; refine inb_normal ?_; refine seq_normal ?_; refine sr ?_
        refine o1 (bld ti45 ?_); refine oc (sto ti45 ?_); refine nx ?_; refine runs_ret ?_; refine fin_ret ?_
        refine fin_odl ⟨_, _, rfl, (from_cell rfl rfl ti45 rfl rfl rfl rfl), rfl⟩ rfl (zeroL.d) (by repeat (first | exact .refl _ | exact .nil | refine .agg ?_ | refine .cons ?_ ?_)) ([0]) ([rdO s (nextR s ⟨p, none⟩).2]) rfl rfl rfl ?_ ?_
        · repeat (first | exact boz | refine boc ?_)
        · rw [levelR_zero h5]; exact ⟨rfl, rfl⟩
      (try simp only [nrm, Int.reduceEq, Int.reduceNe, Int.reduceLT, Int.reduceLE, fcode, fat] at h5); refine sr ?_; refine o1 (mv ?_); refine o1 (asg ?_); refine nx ?_; refine cd (fun h7 => ?_) (fun h7 => ?_)
      · (try simp only [nrm, Int.reduceEq, Int.reduceNe, Int.reduceLT, Int.reduceLE, fcode, fat] at h7)
        refine kp [3, 2, 0] ?_; refine sr ?_; refine o1 (mv ?_); refine oc (ck ca84 rfl rfl (next_spec s ⟨p, none⟩ hs hp) [0] rfl (boc .nil) (fir .nil) ?_); refine nx ?_; refine sr ?_; refine o1 (mv ?_); refine o1 (bld ti45 ?_)
        refine oc (sto ti45 ?_); refine nx ?_; refine runs_ret ?_; refine inb_ret ?_; refine seq_ret ?_; refine fin_ret ?_
        refine fin_odl ⟨_, _, rfl, (from_cell rfl rfl ti45 rfl rfl rfl rfl), rfl⟩ rfl ((Lvl.mk 4 (tokR s p).1 []).d) (by repeat (first | exact .refl _ | exact .nil | refine .agg ?_ | refine .cons ?_ ?_)) ([0]) ([rdO s (nextR s ⟨p, none⟩).2]) rfl rfl rfl ?_ ?_
        · repeat (first | exact boz | refine boc ?_)
        · rw [levelR_name h5 h7]; exact ⟨rfl, rfl⟩
      (try simp only [nrm, Int.reduceEq, Int.reduceNe, Int.reduceLT, Int.reduceLE, fcode, fat] at h7); refine kp [4, 3, 2, 0] ?_; refine sr ?_; refine o1 (mv ?_); refine o1 (seq1 ?_); refine o1 (asg ?_); refine nx ?_
      refine cdf (fun h10 => ?_) (fun h10 => ?_)
      · (try simp only [nrm, Int.reduceEq, Int.reduceNe, Int.reduceLT, Int.reduceLE, fcode, fat] at h10)
        refine kp [4, 2, 0] ?_; refine runs_region ?_; refine o1 (mv ?_); refine o1 (mv ?_); refine oc (ck ca83 rfl rfl (fail_spec s (tokR s p).2.1 ⟨p, none⟩) [0] rfl (boc .nil) (fir (fir .nil)) ?_); refine ops_nil ?_; refine inb_normal ?_
        refine seq_normal ?_; refine kp [2] ?_; refine sr ?_; refine o1 (bld ti45 ?_); refine oc (sto ti45 ?_); refine nx ?_; refine runs_ret ?_; refine fin_ret ?_
        refine fin_odl ⟨_, _, rfl, (from_cell rfl rfl ti45 rfl rfl rfl rfl), rfl⟩ rfl (zeroL.d) (by repeat (first | exact .refl _ | exact .nil | refine .agg ?_ | refine .cons ?_ ?_)) ([0]) ([rdO s ((RS.mk p none).fail (tokR s p).2.1)]) rfl rfl rfl ?_ ?_
        · repeat (first | exact boz | refine boc ?_)
        · rw [levelR_else h5 h7 h10]; exact ⟨rfl, rfl⟩
      (try simp only [nrm, Int.reduceEq, Int.reduceNe, Int.reduceLT, Int.reduceLE, fcode, fat] at h10); refine kp [2, 0] ?_; refine sr ?_; refine o1 (mv ?_)
      refine oc (ck ca84 rfl rfl (next_spec s ⟨p, none⟩ hs hp) [0] rfl (boc .nil) (fir .nil) ?_); refine nx ?_; refine sr ?_; refine o1 (mv ?_)
      refine oc (ck ca82 rfl rfl (token_spec s (nextR s ⟨p, none⟩).2.p (fcode (nextR s ⟨p, none⟩).2.f) (fat (nextR s ⟨p, none⟩).2.f) hs hn1.2) [0] rfl (boc .nil) (fir .nil) ?_); refine o1 (mv ?_); refine o1 (ex2 ?_); refine o1 (ex2 ?_)
      refine o1 (ex2 ?_); refine o1 (asg ?_); refine o1 (asg ?_); refine o1 (asg ?_); refine nx ?_; refine kp [8, 7, 2, 0] ?_; refine sr ?_; refine o1 (asg ?_); refine nx ?_; refine runs_seq ?_; refine sr ?_; refine o1 (mv ?_); refine nx ?_
      refine kp [52, 10, 8, 2, 0] ?_
      apply runs_cut_c (ι := Unit) (fun _ => [(10, int (kindR (tokR s (nextR s ⟨p, none⟩).2.p).1))]) [8, 2, 0] (fun _ => True)
      case hk => exact rfl
      case h1 =>
        refine runs_block ?_; refine sr ?_; refine o1 (seq1 ?_); refine o1 (asg ?_); refine nx ?_; refine cd (fun h15 => ?_) (fun h15 => ?_)
        · (try simp only [nrm, Int.reduceEq, Int.reduceNe, Int.reduceLT, Int.reduceLE, fcode, fat] at h15)
          refine kp [8, 2, 0] ?_; refine runs_region ?_; refine o1 (asg ?_); refine ops_nil ?_; refine inb_normal ?_; refine seq_back ?_; refine back_i (()) rfl ?_ ?_
          · trivial
          · refine mo ?_ (slx rfl (by exact Fit.of_eq (by simp only [kindR]; simp_all <;> rfl)) (sly (sly (sly slz))))
            repeat (first | exact boz | refine boc ?_)
        (try simp only [nrm, Int.reduceEq, Int.reduceNe, Int.reduceLT, Int.reduceLE, fcode, fat] at h15); refine sr ?_; refine o1 (seq1 ?_); refine o1 (asg ?_); refine nx ?_; refine cd (fun h17 => ?_) (fun h17 => ?_)
        · (try simp only [nrm, Int.reduceEq, Int.reduceNe, Int.reduceLT, Int.reduceLE, fcode, fat] at h17)
          refine kp [8, 2, 0] ?_; refine runs_region ?_; refine o1 (asg ?_); refine ops_nil ?_; refine inb_normal ?_; refine seq_back ?_; refine back_i (()) rfl ?_ ?_
          · trivial
          · refine mo ?_ (slx rfl (by exact Fit.of_eq (by simp only [kindR]; simp_all <;> rfl)) (sly (sly (sly slz))))
            repeat (first | exact boz | refine boc ?_)
        (try simp only [nrm, Int.reduceEq, Int.reduceNe, Int.reduceLT, Int.reduceLE, fcode, fat] at h17); refine kp [52, 10, 8, 2, 0] ?_; refine sr ?_; refine o1 (seq1 ?_); refine o1 (asg ?_); refine nx ?_; refine cdf (fun h19 => ?_) (fun h19 => ?_)
        · (try simp only [nrm, Int.reduceEq, Int.reduceNe, Int.reduceLT, Int.reduceLE, fcode, fat] at h19)
          refine runs_skip ?_; refine inb_normal ?_; refine seq_back ?_; refine back_i (()) rfl ?_ ?_
          · trivial
          · refine mo ?_ (slx rfl (by exact Fit.of_eq (by simp only [kindR]; simp_all <;> rfl)) (sly (sly (sly slz))))
            repeat (first | exact boz | refine boc ?_)
        (try simp only [nrm, Int.reduceEq, Int.reduceNe, Int.reduceLT, Int.reduceLE, fcode, fat] at h19); refine kp [8, 2, 0] ?_; refine runs_region ?_; refine o1 (asg ?_); refine ops_nil ?_; refine inb_normal ?_; refine seq_back ?_
        refine back_i (()) rfl ?_ ?_
        · trivial
        · refine mo ?_ (slx rfl (by exact Fit.of_eq (by simp only [kindR]; simp_all <;> rfl)) (sly (sly (sly slz))))
          repeat (first | exact boz | refine boc ?_)
      case h2 =>
        rintro _ hcut
        try dsimp only at hcut
        refine kp [10, 8, 2, 0] ?_; refine runs_seq ?_; refine sr ?_; refine o1 (mv ?_); refine o1 (ieq ?_); refine nx ?_; refine cd (fun h21 => ?_) (fun h21 => ?_)
        · (try simp only [nrm, Int.reduceEq, Int.reduceNe, Int.reduceLT, Int.reduceLE, fcode, fat] at h21)
          refine sr ?_; refine o1 (mv ?_); refine o1 (mv ?_); refine oc (ck ca83 rfl rfl (fail_spec s (tokR s (nextR s ⟨p, none⟩).2.p).2.1 (nextR s ⟨p, none⟩).2) [0] rfl (boc .nil) (fir (fir .nil)) ?_); refine nx ?_; refine kp [2] ?_; refine sr ?_
          refine o1 (bld ti45 ?_); refine oc (sto ti45 ?_); refine nx ?_; refine runs_ret ?_; refine seq_ret ?_; refine inb_ret ?_; refine seq_ret ?_; refine fin_ret ?_
          refine fin_odl ⟨_, _, rfl, (from_cell rfl rfl ti45 rfl rfl rfl rfl), rfl⟩ rfl (zeroL.d) (by repeat (first | exact .refl _ | exact .nil | refine .agg ?_ | refine .cons ?_ ?_)) ([0]) ([rdO s ((nextR s ⟨p, none⟩).2.fail (tokR s (nextR s ⟨p, none⟩).2.p).2.1)]) rfl rfl rfl ?_ ?_
          · repeat (first | exact boz | refine boc ?_)
          · rw [levelR_kind h5 h7 h10 h21]; exact ⟨rfl, rfl⟩
        (try simp only [nrm, Int.reduceEq, Int.reduceNe, Int.reduceLT, Int.reduceLE, fcode, fat] at h21); refine runs_skip ?_; refine seq_normal ?_; refine sr ?_; refine o1 (mv ?_)
        refine oc (ck ca84 rfl rfl (next_spec s (nextR s ⟨p, none⟩).2 hs hn1.2) [0] rfl (boc .nil) (fir .nil) ?_); refine nx ?_; refine kp [10, 2, 0] ?_; refine sr ?_; refine o1 (mv ?_); refine o1 (bld ti45 ?_)
        refine oc (T := fun _ => False) (alc ti45 ?_ (hl := by simp only [List.length_cons, List.length_nil, Nat.reduceAdd]; rfl)); refine oc (sto ti45 ?_); refine nx ?_; refine runs_seq ?_
        have hne : (tokR s p).1 ≠ .empty := by rw [h10]; decide
        have hsz1 : (tokR s p).1.size = 1 := by rw [h10]; rfl
        have hnx := nextR_ok hne
        have hpr : p < (nextR s ⟨p, none⟩).2.p := by rw [hnx]; simp only; omega
        have hpr2 := hn2.1
        obtain ⟨k1, s1, a1, hX1⟩ := Lvl.case (levelR n s (nextR s (nextR s ⟨p, none⟩).2).2).1; obtain ⟨k2, s2, a2, hX2⟩ := Lvl.case (levelR n s (levelR n s (nextR s (nextR s ⟨p, none⟩).2).2).2).1; refine a_start ?_ (hm := by exact mixed)
        refine A1 0 rfl (fdb ti45 ⟨_, rfl, ?_⟩); refine A1 1 rfl (ldb ti28 ⟨_, rfl, ?_⟩); refine A1 2 rfl (mv ⟨_, rfl, ?_⟩)
        refine A2 3 rfl (op_callo ca60 rfl rfl rfl rfl (ih (nextR s (nextR s ⟨p, none⟩).2).2 hn2.2 (by omega)) [0] (boc .nil) rfl rfl rfl rfl (fir .nil) (fun s ob' hq => ?_) (fun s ob' hq => ?_))
        rotate_left
        · first | exact hq.elim | cases hq.1
        obtain ⟨hq1, rfl⟩ := hq; rw [hX1] at hq1; cases hq1; refine ⟨_, _, _, _, _, rfl, rfl, rfl, rfl, rfl, ?_⟩
        refine A2 (T := fun _ => False) 4 rfl (op_lit sl28 [.tmp 72] ti45 rfl rfl rfl rfl rfl rfl rfl (by decide) (by decide) (by decide) (by simp only [List.length_cons, List.length_nil, Nat.reduceAdd]; rfl) rfl ?_)
        refine A2 (T := fun _ => False) 5 rfl (op_append_nil sl28 rfl rfl rfl rfl rfl rfl (by simp only [List.length_cons, List.length_nil, Nat.reduceAdd]; rfl) rfl rfl (by decide) (by simp) (by first | decide | (simp only [maxLen, List.length_cons, List.length_nil, List.length_append, List.length_map]; omega) | omega) rfl rfl rfl ?_)
        refine A1 6 rfl (fdb ti45 ⟨_, rfl, ?_⟩); refine A2 7 rfl (sto ti28 ?_); refine a_end ?_; refine seq_normal ?_; refine runs_seq ?_; refine kp [11, 10, 2, 0] ?_; refine sr ?_; refine o1 (mv ?_); refine o1 (ine ?_); refine nx ?_
        refine cdf (fun h27 => ?_) (fun h27 => ?_)
        · (try simp only [nrm, Int.reduceEq, Int.reduceNe, Int.reduceLT, Int.reduceLE, fcode, fat] at h27)
          refine runs_skip ?_; refine seq_normal ?_; refine sr ?_; refine o1 (mv ?_); refine oc (ck ca88 rfl rfl (take_spec s ⟨#[41]⟩ (levelR n s (nextR s (nextR s ⟨p, none⟩).2).2).2 hs hl1.2) [0] rfl (boc .nil) (fir (fir .nil)) ?_); refine nx ?_
          refine kp [11, 2] ?_; refine sr ?_; refine o1 (ldb ti45 ?_); refine oc (sto ti45 ?_); refine nx ?_; refine runs_ret ?_; refine inb_ret ?_; refine seq_ret ?_; refine fin_ret ?_
          refine fin_odl ⟨_, _, rfl, (from_cell rfl rfl ti45 rfl rfl rfl rfl), rfl⟩ rfl ((Lvl.mk (kindR (tokR s (nextR s ⟨p, none⟩).2.p).1) .empty [Lvl.mk k1 s1 a1]).d) (by exact .refl _) ([0]) ([rdO s (takeR s ⟨#[41]⟩ (levelR n s (nextR s (nextR s ⟨p, none⟩).2).2).2)]) rfl rfl rfl ?_ ?_
          · repeat (first | exact boz | refine boc ?_)
          · rw [levelR_one h5 h7 h10 h27, hX1, h27]; exact ⟨rfl, rfl⟩
        (try simp only [nrm, Int.reduceEq, Int.reduceNe, Int.reduceLT, Int.reduceLE, fcode, fat] at h27); refine a_start ?_ (hm := by exact mixed); refine A1 0 rfl (fdb ti45 ⟨_, rfl, ?_⟩); refine A1 1 rfl (ldb ti28 ⟨_, rfl, ?_⟩)
        refine A1 2 rfl (mv ⟨_, rfl, ?_⟩)
        refine A2 3 rfl (op_callo ca60 rfl rfl rfl rfl (ih (levelR n s (nextR s (nextR s ⟨p, none⟩).2).2).2 hl1.2 (by have := hl1.1; omega)) [0] (boc .nil) rfl rfl rfl rfl (fir .nil) (fun s ob' hq => ?_) (fun s ob' hq => ?_))
        rotate_left
        · first | exact hq.elim | cases hq.1
        obtain ⟨hq1, rfl⟩ := hq; rw [hX2] at hq1; cases hq1; refine ⟨_, _, _, _, _, rfl, rfl, rfl, rfl, rfl, ?_⟩
        refine A2 (T := fun _ => False) 4 rfl (op_lit sl28 [.tmp 81] ti45 rfl rfl rfl rfl rfl rfl rfl (by decide) (by decide) (by decide) (by simp only [List.length_cons, List.length_nil, Nat.reduceAdd]; rfl) rfl ?_)
        refine A2 5 rfl (op_append sl28 rfl rfl rfl rfl rfl rfl rfl (.inl rfl) (by decide) (by simp) (by first | decide | (simp only [maxLen, List.length_cons, List.length_nil, List.length_append, List.length_map]; omega) | omega) rfl rfl rfl ?_)
        refine A1 6 rfl (fdb ti45 ⟨_, rfl, ?_⟩); refine A2 7 rfl (sto ti28 ?_); refine a_end ?_; refine seq_normal ?_; refine kp [11, 2, 0] ?_; refine sr ?_; refine o1 (mv ?_)
        refine oc (ck ca88 rfl rfl (take_spec s ⟨#[41]⟩ (levelR n s (levelR n s (nextR s (nextR s ⟨p, none⟩).2).2).2).2 hs hl2.2) [0] rfl (boc .nil) (fir (fir .nil)) ?_); refine nx ?_; refine sr ?_; refine o1 (ldb ti45 ?_); refine oc (sto ti45 ?_)
        refine nx ?_; refine runs_ret ?_; refine inb_ret ?_; refine seq_ret ?_; refine fin_ret ?_
        refine fin_odl ⟨_, _, rfl, (from_cell rfl rfl ti45 rfl rfl rfl rfl), rfl⟩ rfl ((Lvl.mk (kindR (tokR s (nextR s ⟨p, none⟩).2.p).1) .empty [Lvl.mk k1 s1 a1, Lvl.mk k2 s2 a2]).d) (by exact .refl _) ([0]) ([rdO s (takeR s ⟨#[41]⟩ (levelR n s (levelR n s (nextR s (nextR s ⟨p, none⟩).2).2).2).2)]) rfl rfl rfl ?_ ?_
        · repeat (first | exact boz | refine boc ?_)
        · rw [levelR_two h5 h7 h10 h21 h27, hX1, hX2]; exact ⟨rfl, rfl⟩
theorem parseLevel_spec (s : ByteArray) : TriD Tryz.prog gl 24 [.v (.string s)] (· = .tup [(parseR s).1.d, .agg [.v (.int .i64 (parseR s).2.1), .v (.int .i64 (parseR s).2.2)]]) := by
  refine triD_of_runs Tryz.func24 rfl Tryz.ntmps24 (rs := [.cell 2 45, .cell 3 33]) rfl rfl rfl ?_
  refine sr ?_; refine oc (T := fun _ => False) (alc ti45 ?_ (hl := by simp only [List.length_cons, List.length_nil, Nat.reduceAdd]; rfl))
  refine oc (T := fun _ => False) (alc ti33 ?_ (hl := by simp only [List.length_cons, List.length_nil, Nat.reduceAdd]; rfl)); refine nx ?_; refine runs_seq ?_; refine sr ?_; refine o1 (mv ?_); refine o1 (le3 ut9 ?_); refine o1 (igt ?_)
  refine nx ?_; refine cd (fun h1 => ?_) (fun h1 => ?_)
  · (try simp only [nrm, Int.reduceEq, Int.reduceNe, Int.reduceLT, Int.reduceLE] at h1)
    refine kp [3, 2] ?_; refine sr ?_; refine o1 (bld ti45 ?_); refine o1 (bld ti33 ?_); refine oc (sto ti45 ?_); refine oc (sto ti33 ?_); refine nx ?_; refine runs_ret ?_; refine seq_ret ?_; refine fin_ret ?_
    refine fin_dl ⟨_, _, rfl, (from_cell rfl rfl ti45 rfl rfl rfl rfl), ⟨_, _, rfl, (from_cell rfl rfl ti33 rfl rfl rfl rfl), rfl⟩⟩ rfl (.tup [zeroL.d, .agg [.v (.int .i64 2), .v (.int .i64 0)]]) (by repeat (first | exact .refl _ | exact .nil | refine .agg ?_ | refine .tup ?_ | refine .cons ?_ ?_)) ?_
    unfold parseR; rw [if_pos (by omega)]
  (try simp only [nrm, Int.reduceEq, Int.reduceNe, Int.reduceLT, Int.reduceLE] at h1); refine runs_skip ?_; refine seq_normal ?_; refine sr ?_; refine o1 (mv ?_); refine o1 (bld ti71 ?_)
  refine oc (T := fun _ => False) (bx ti71 ?_ (hl := by simp only [List.length_cons, List.length_nil, Nat.reduceAdd]; rfl)); refine o1 (asg ?_); refine nx ?_; refine runs_seq ?_; refine kp [4, 3, 2] ?_
  obtain ⟨k1, s1, a1, hX⟩ := Lvl.case (levelR (s.size + 1) s ⟨0, none⟩).1
  have hs : s.size ≤ 1099511627776 := by omega
  have hle := levelR_le (s := s) (s.size + 1) (r := ⟨0, none⟩) (Nat.zero_le _)
  refine runs_region ?_; refine o1 (mv ?_); refine oc (op_callo ca60 rfl rfl rfl rfl (level_spec s hs (s.size + 1) ⟨0, none⟩ (Nat.zero_le _) (by simp)) [2] (boc .nil) rfl rfl rfl rfl (fir .nil) (fun s ob' hq => ?_) (fun s ob' hq => ?_))
  rotate_left
  · first | exact hq.elim | cases hq.1
  obtain ⟨hq1, rfl⟩ := hq; rw [hX] at hq1; cases hq1; refine ⟨_, _, _, _, _, rfl, rfl, rfl, rfl, rfl, ?_⟩; refine oc (T := fun _ => False) (alc ti45 ?_ (hl := by simp only [List.length_cons, List.length_nil, Nat.reduceAdd]; rfl))
  refine oc (sto ti45 ?_); refine nx ?_; refine sr ?_; refine o1 (mv ?_); refine oc (ck ca43 rfl rfl (done_spec s (levelR (s.size + 1) s ⟨0, none⟩).2 hs hle.2) [2] rfl (boc .nil) (fir .nil) ?_)
  refine oc (T := fun _ => False) (alc ti33 ?_ (hl := by simp only [List.length_cons, List.length_nil, Nat.reduceAdd]; rfl)); refine oc (sto ti33 ?_); refine nx ?_; refine runs_seq ?_; refine kp [6, 5, 3, 2] ?_; refine sr ?_
  refine o1 (fdb ti33 ?_); refine o1 (ldb ti3 ?_); refine o1 (ine ?_); refine nx ?_; refine cdf (fun h6 => ?_) (fun h6 => ?_)
  · (try simp only [nrm, Int.reduceEq, Int.reduceNe, Int.reduceLT, Int.reduceLE] at h6)
    refine runs_skip ?_; refine seq_normal ?_; refine runs_seq ?_; refine a_start ?_ (hm := by exact mixed); refine A1 0 rfl (ldb ti45 ⟨_, rfl, ?_⟩); refine A1 1 rfl (ldb ti33 ⟨_, rfl, ?_⟩); refine A2 2 rfl (sto ti45 ?_)
    refine A2 3 rfl (sto ti33 ?_); refine a_end ?_; refine seq_normal ?_; refine runs_ret ?_; refine fin_ret ?_
    refine fin_dl ⟨_, _, rfl, (from_cell rfl rfl ti45 rfl rfl rfl rfl), ⟨_, _, rfl, (from_cell rfl rfl ti33 rfl rfl rfl rfl), rfl⟩⟩ rfl (.tup [(Lvl.mk k1 s1 a1).d, .agg [.v (.int .i64 (fcode (doneR s (levelR (s.size + 1) s ⟨0, none⟩).2).f)), .v (.int .i64 (fat (doneR s (levelR (s.size + 1) s ⟨0, none⟩).2).f))]]) (by exact .refl _) ?_
    rw [parseR_good (by omega) h6, hX]
  (try simp only [nrm, Int.reduceEq, Int.reduceNe, Int.reduceLT, Int.reduceLE] at h6); refine runs_seq ?_; refine kp [6, 3, 2] ?_; refine a_start ?_ (hm := by exact mixed); refine A1 0 rfl (bld ti45 ⟨_, rfl, ?_⟩)
  refine A1 1 rfl (ldb ti33 ⟨_, rfl, ?_⟩); refine A2 2 rfl (sto ti45 ?_); refine A2 3 rfl (sto ti33 ?_); refine a_end ?_; refine seq_normal ?_; refine runs_ret ?_; refine seq_ret ?_; refine fin_ret ?_
  refine fin_dl ⟨_, _, rfl, (from_cell rfl rfl ti45 rfl rfl rfl rfl), ⟨_, _, rfl, (from_cell rfl rfl ti33 rfl rfl rfl rfl), rfl⟩⟩ rfl (.tup [zeroL.d, .agg [.v (.int .i64 (fcode (doneR s (levelR (s.size + 1) s ⟨0, none⟩).2).f)), .v (.int .i64 (fat (doneR s (levelR (s.size + 1) s ⟨0, none⟩).2).f))]]) (by repeat (first | exact .refl _ | exact .nil | refine .agg ?_ | refine .tup ?_ | refine .cons ?_ ?_)) ?_
  rw [parseR_bad (by omega) h6]
end Go.Proofs.YtneaancanfpdhaaGreatDoor
namespace Go.Proofs.YtneaancanfpdhaaGreatDoor
open Go Go.Vd Go.RowKit
attribute [local irreducible] Runs OpsR OpR FloatR AnyR
variable {gl : Nat → List D}
theorem kindR_case (w : ByteArray) : kindR w = 0 ∨ ((kindR w = 1 ∨ kindR w = 2 ∨ kindR w = 3) ∧ w ≠ .empty) := by
  unfold kindR
  split
  · rename_i h; subst h; exact .inr ⟨.inl rfl, by decide⟩
  · split
    · rename_i h; subst h; exact .inr ⟨.inr (.inl rfl), by decide⟩
    · split
      · rename_i h; subst h; exact .inr ⟨.inr (.inr rfl), by decide⟩
      · exact .inl rfl
/-- what the reader reads is a level, and no greater than what it read -/
theorem levelR_lev {s : ByteArray} : ∀ (n : Nat) {r : RS}, r.p ≤ s.size → ∃ x : Lev, (levelR n s r).1 = x.toLvl ∧ fitP x.toLvl ∧ x.weight + 20 * r.p ≤ 10 + 20 * (levelR n s r).2.p := by
  have hz : fitP Lev.zero.toLvl := by simp [Lev.toLvl, fitP, fitL]
  have hzz : zeroL = Lev.zero.toLvl := rfl
  intro n
  induction n with
  | zero => intro r hp; exact ⟨.zero, rfl, hz, by simp [levelR, Lev.weight]⟩
  | succ n ih =>
    intro r hp
    obtain ⟨p, f⟩ := r
    simp only at hp
    cases f with
    | some a => exact ⟨.zero, rfl, hz, by simp [levelR, Lev.weight]⟩
    | none =>
      have hat := tokR_at (s := s) hp
      have h1 := nextR_le (s := s) (r := ⟨p, none⟩) hp
      have h2 := nextR_le (s := s) (r := (nextR s ⟨p, none⟩).2) h1.2
      have h3 := levelR_le n h2.2
      have h4 := levelR_le n h3.2
      obtain ⟨xa, ea, fa, wa⟩ := ih h2.2
      obtain ⟨xb, eb, fb, wb⟩ := ih h3.2
      have h5 := takeR_le (s := s) (w := ⟨#[41]⟩) h3.2
      have h6 := takeR_le (s := s) (w := ⟨#[41]⟩) h4.2
      simp only at h1
      by_cases c0 : (tokR s p).1 = ⟨#[48]⟩
      · rw [levelR_zero c0]; exact ⟨.zero, rfl, hz, by simp only [Lev.weight]; omega⟩
      cases c1 : isNameB (tokR s p).1 with
      | true =>
        have hne : (tokR s p).1 ≠ .empty := by
          intro e; rw [e] at c1; simp [isNameB] at c1
        rw [levelR_name c0 c1, nextR_ok hne]
        refine ⟨.param (tokR s p).1, rfl, by simp [Lev.toLvl, fitP, fitL, hne], ?_⟩
        simp only [Lev.weight]; omega
      | false =>
        by_cases c2 : (tokR s p).1 = ⟨#[40]⟩
        · have hne : (tokR s p).1 ≠ .empty := by rw [c2]; decide
          have hp1 : p + 1 ≤ (nextR s ⟨p, none⟩).2.p := by
            rw [nextR_ok hne]
            have : (tokR s p).1.size = 1 := by rw [c2]; rfl
            simp only; omega
          rcases kindR_case (tokR s (nextR s ⟨p, none⟩).2.p).1 with hk | ⟨hk, hne2⟩
          · rw [levelR_kind c0 c1 c2 hk]
            exact ⟨.zero, rfl, hz, by simp only [Lev.weight, RS.fail_p]; omega⟩
          · have hp2 : (nextR s ⟨p, none⟩).2.p + 1 ≤ (nextR s (nextR s ⟨p, none⟩).2).2.p := by
              have h7 : nextR s ⟨p, none⟩ = ((tokR s p).1, ⟨(tokR s p).2.1 + (tokR s p).1.size, none⟩) := nextR_ok hne
              rw [h7] at hne2 ⊢
              simp only at hne2 ⊢
              rw [nextR_ok hne2]
              have h8 := tokR_at (s := s) (p := (tokR s p).2.1 + (tokR s p).1.size) hat.2
              have h9 := size_pos_of_ne hne2
              simp only; omega
            rcases hk with hk | hk | hk
            · rw [levelR_one c0 c1 c2 hk, ea]
              refine ⟨.succ xa, rfl, by simp [Lev.toLvl, fitP, fitL, fa], ?_⟩
              simp only [Lev.weight]; omega
            · rw [levelR_two c0 c1 c2 (by omega) (by omega), ea, eb, hk]
              refine ⟨.max xa xb, rfl, by simp [Lev.toLvl, fitP, fitL, fa, fb], ?_⟩
              simp only [Lev.weight]; omega
            · rw [levelR_two c0 c1 c2 (by omega) (by omega), ea, eb, hk]
              refine ⟨.imax xa xb, rfl, by simp [Lev.toLvl, fitP, fitL, fa, fb], ?_⟩
              simp only [Lev.weight]; omega
        · rw [levelR_else c0 c1 c2]
          exact ⟨.zero, rfl, hz, by simp only [Lev.weight, RS.fail_p]; omega⟩
theorem parseR_lev (s : ByteArray) : ∃ x : Lev, (parseR s).1 = x.toLvl ∧ fitP x.toLvl ∧ x.weight ≤ 400010 := by
  have hz : fitP Lev.zero.toLvl := by simp [Lev.toLvl, fitP, fitL]
  unfold parseR
  split
  · exact ⟨.zero, rfl, hz, by decide⟩
  · rename_i h
    obtain ⟨x, e, f, w⟩ := levelR_lev (s := s) (s.size + 1) (r := ⟨0, none⟩) (Nat.zero_le _)
    have h2 := levelR_le (s := s) (s.size + 1) (r := ⟨0, none⟩) (Nat.zero_le _)
    dsimp only
    split
    · exact ⟨x, e, f, by simp only at w; omega⟩
    · exact ⟨.zero, rfl, hz, by decide⟩
end Go.Proofs.YtneaancanfpdhaaGreatDoor
namespace Go.Proofs.YtneaancanfpdhaaGreatDoor
open Go Go.Vd Go.RowKit
/-- a step of a script -/
def opD (K : Int) (S T U : ByteArray) (A B : Int) : D := .agg [.v (.int .i64 K), .v (.string S), .v (.string T), .v (.string U), .v (.int .i64 A), .v (.int .i64 B)]
def i64 (n : Int) : Prop := -9223372036854775808 ≤ n ∧ n ≤ 9223372036854775807
structure Step where
  k : Int
  s : ByteArray
  t : ByteArray
  u : ByteArray
  a : Int
  b : Int
def Step.cells (o : Step) : List D := [.v (.int .i64 o.k), .v (.string o.s), .v (.string o.t), .v (.string o.u), .v (.int .i64 o.a), .v (.int .i64 o.b)]
def steps (l : List Step) : List (List D) := l.map Step.cells
theorem steps_len (l : List Step) : (steps l).length = l.length := by simp [steps]
theorem step_at {l : List Step} {i : Nat} (h : i < l.length) : (steps l)[((i : Nat) : Int).toNat]? = some [.v (.int .i64 l[i].k), .v (.string l[i].s), .v (.string l[i].t), .v (.string l[i].u), .v (.int .i64 l[i].a), .v (.int .i64 l[i].b)] := by simp [steps, h, Step.cells]
def Step.okInts (o : Step) : Prop := i64 o.a ∧ i64 o.b
end Go.Proofs.YtneaancanfpdhaaGreatDoor
namespace Go.Proofs.YtneaancanfpdhaaGreatDoor
open Go Go.Vd Go.RowKit Go.ChangeShapes Go.WideShapes
def memW (w : World) : Mem := fun b o => (w.cell? ⟨b, o, none⟩).bind fun x => if x.oneCell' then some x else none
theorem memW_of {w : World} {b o : Nat} {x : Value} (h : w.cell? ⟨b, o, none⟩ = some x) (h1 : x.oneCell' = true) : memW w b o = some x := by simp [memW, h, h1]
theorem storeW {gl : Nat → List D} {w : World} (hg : ∀ b, DenC (memW w) b 0 (gl b)) : StoreOk gl [] ⟨memW w, []⟩ w := by
  refine ⟨rfl, by simp, by simp, by simp, fun b o x h => ?_, hg⟩
  simp only [memW, Option.bind_eq_some_iff] at h
  obtain ⟨y, h1, h2⟩ := h
  split at h2
  · cases h2; exact ⟨h1, by assumption⟩
  · cases h2
/-- a contract of data alone, at a call from outside -/
theorem calls_of_triD {P : Program} {gl : Nat → List D} {f : FuncId} {ds : List D} {Q : D → Prop} {w : World} {vs : List Value} (h : TriD P gl f ds Q) (hg : ∀ b, DenC (memW w) b 0 (gl b)) (hd : SDenL ⟨memW w, []⟩ (ds.map .d) vs) :
    Calls P f ⟨vs⟩ w fun e w' => ∃ v d m, e = .returned v ∧ D.Den m d v ∧ Q d ∧ Below w.heap.size w w' := by
  refine (h _ w vs (storeW hg) hd).mono fun e w' he => ?_
  obtain ⟨g', ob', hs, hst, _, _, he⟩ := he
  have hb : Below w.heap.size w w' := ⟨hst.fr.os, hst.fr.tape, hst.fr.output, hst.fr.size, fun k hk => hst.fr.block k hk (fun hx => by
    obtain ⟨i, o, p, h1, _⟩ := hx
    simp at h1)⟩
  cases e with
  | returned v =>
    obtain ⟨s, h1, h2, d, h3, h4⟩ := he
    cases h3
    exact ⟨v, d, _, rfl, h1, h4, hb⟩
  | panicked c => obtain ⟨v, s, _, _, _, d, h3, _⟩ := he; cases h3
  | outgrown => exact he.elim
theorem exists_list {α : Type} {n : Nat} {p : Nat → α → Prop} (h : ∀ i, i < n → ∃ x, p i x) : ∃ l : List α, l.length = n ∧ ∀ (i : Nat) x, l[i]? = some x → p i x := by
  induction n with
  | zero => exact ⟨[], rfl, by simp⟩
  | succ n ih =>
    obtain ⟨l, h1, h2⟩ := ih fun i hi => h i (by omega)
    obtain ⟨x, hx⟩ := h n (by omega)
    refine ⟨l ++ [x], by simp [h1], fun i y hy => ?_⟩
    by_cases hi : i < l.length
    · rw [List.getElem?_append_left hi] at hy; exact h2 i y hy
    · have hil : i = l.length := by
        have := (List.getElem?_eq_some_iff.1 hy).1
        simp at this; omega
      subst hil
      rw [List.getElem?_append_right (Nat.le_refl _), Nat.sub_self] at hy
      simp at hy; subst hy; rw [h1]; exact hx
theorem denR_of {α : Type} {m : Mem} {k b : Nat} (c : α → List D) : ∀ {l : List α} {off : Nat}, (∀ (i : Nat) x, l[i]? = some x → (c x).length = k ∧ DenC m b (off + i * k) (c x)) → DenR m k b off (l.map c)
  | [], _, _ => trivial
  | x :: r, off, h => ⟨by have := h 0 x rfl; simpa using this, denR_of c fun i y hy => by
      have := h (i + 1) y (by simpa using hy)
      rwa [show off + (i + 1) * k = off + k + i * k by rw [Nat.add_mul]; omega] at this⟩
section
variable {H : Type} {enc : TypeId × Value → H} {W : World} {sp : Nat → Bool} {hd : Bool}
theorem int_of_trod {k : Nat} {fuel : Nat} {cs : List Value} {x : DataW H × List MemPlace} (h : DataW.trod enc Tryz.prog W 0 sp hd fuel 3 cs = some x) : ∃ n : Int, cs = [.int .i64 n] ∧ i64 n := by
  obtain ⟨n, h1, _, h2⟩ := DataW.trod_int ui3 h
  refine ⟨n, h1, ?_⟩
  simp only [Lit.wf, Bool.and_eq_true, decide_eq_true_eq] at h2
  exact ⟨h2.1, h2.2⟩
theorem str_of_trod {fuel : Nat} {cs : List Value} {x : DataW H × List MemPlace} (h : DataW.trod enc Tryz.prog W 0 sp hd fuel 9 cs = some x) : ∃ s : ByteArray, cs = [.string s] := by
  obtain ⟨s, h1, _⟩ := DataW.trod_string ut9 h
  exact ⟨s, h1⟩
set_option maxRecDepth 100000 in
/-- the script, read -/
theorem script_of_trod {v : Value} {fuel : Nat} {x : DataW H × List MemPlace} (h : DataW.trod enc Tryz.prog W 0 sp hd fuel 22 v.cells.toList = some x) (hv : v.oneCell' = true) :
    ∃ l : List Step, (D.sl 6 (steps l)).Den (memW W) v ∧ ∀ o ∈ l, o.okInts := by
  have hu := us22
  have he : (tiOf Tryz.prog 22).elem = 25 := by rw [ti22]
  rw [he] at hu
  have c25 : Tryz.prog.cellsOf 25 = 6 := by kernel_rfl
  have c3 : Tryz.prog.cellsOf 3 = 1 := by kernel_rfl
  have c9 : Tryz.prog.cellsOf 9 = 1 := by kernel_rfl
  rw [Value.cells_one hv] at h
  rcases DataW.trod_slice hu h with ⟨h1, _⟩ | ⟨a, len, cap, elems, rest, n, rfl, h1, _, _, h2, _, h3, h4, _⟩
  · simp at h1; subst h1
    exact ⟨[], ⟨none, 0, rfl, by simp [steps], fun hn => absurd rfl hn⟩, by simp⟩
  · simp at h1; subst h1
    have key : ∀ i, i < len → ∃ st : Step, st.okInts ∧ ∀ (j : Nat) y, st.cells[j]? = some y → ∃ u, W.cell? (a.add (i * 6) |>.add j) = some u ∧ u.oneCell' = true ∧ ∀ m, y.Den m u := by
      intro i hi
      have := h4 i hi
      rw [c25, List.getElem?_eq_getElem (by omega)] at this
      obtain ⟨cs, hcs, hst⟩ := Option.bind_eq_some_iff.1 this
      obtain ⟨_, hlen, hcell⟩ := World.cells?_some hcs
      obtain ⟨xs, n', rfl, _, _, hxl, hf⟩ := DataW.trod_struct Tryz.underlying25 hst
      have hx6 : xs.length = 6 := hxl
      have f0 := hf 0 _ rfl
      have f1 := hf 1 _ rfl
      have f2 := hf 2 _ rfl
      have f3 := hf 3 _ rfl
      have f4 := hf 4 _ rfl
      have f5 := hf 5 _ rfl
      rw [List.getElem?_eq_getElem (by omega)] at f0 f1 f2 f3 f4 f5
      match cs, hlen with
      | [x0, x1, x2, x3, x4, x5], _ =>
        have g0 : DataW.trod enc Tryz.prog W 0 sp hd n' 3 (([x0, x1, x2, x3, x4, x5].drop 0).take (Tryz.prog.cellsOf 3)) = some xs[0] := f0
        rw [c3] at g0
        have g1 : DataW.trod enc Tryz.prog W 0 sp hd n' 9 (([x0, x1, x2, x3, x4, x5].drop 1).take (Tryz.prog.cellsOf 9)) = some xs[1] := f1
        rw [c9] at g1
        have g2 : DataW.trod enc Tryz.prog W 0 sp hd n' 9 (([x0, x1, x2, x3, x4, x5].drop 2).take (Tryz.prog.cellsOf 9)) = some xs[2] := f2
        rw [c9] at g2
        have g3 : DataW.trod enc Tryz.prog W 0 sp hd n' 9 (([x0, x1, x2, x3, x4, x5].drop 3).take (Tryz.prog.cellsOf 9)) = some xs[3] := f3
        rw [c9] at g3
        have g4 : DataW.trod enc Tryz.prog W 0 sp hd n' 3 (([x0, x1, x2, x3, x4, x5].drop 4).take (Tryz.prog.cellsOf 3)) = some xs[4] := f4
        rw [c3] at g4
        have g5 : DataW.trod enc Tryz.prog W 0 sp hd n' 3 (([x0, x1, x2, x3, x4, x5].drop 5).take (Tryz.prog.cellsOf 3)) = some xs[5] := f5
        rw [c3] at g5
        obtain ⟨k, e0, _⟩ := int_of_trod (k := 0) g0
        obtain ⟨s, e1⟩ := str_of_trod g1
        obtain ⟨t, e2⟩ := str_of_trod g2
        obtain ⟨u, e3⟩ := str_of_trod g3
        obtain ⟨a', e4, i4⟩ := int_of_trod (k := 0) g4
        obtain ⟨b', e5, i5⟩ := int_of_trod (k := 0) g5
        simp only [List.drop_zero, List.drop_succ_cons, List.take_succ_cons, List.take_zero, List.cons.injEq, and_true] at e0 e1 e2 e3 e4 e5
        subst e0 e1 e2 e3 e4 e5
        refine ⟨⟨k, s, t, u, a', b'⟩, ⟨i4, i5⟩, fun j y hy => ?_⟩
        have hj : j < 6 := by have := (List.getElem?_eq_some_iff.1 hy).1; simpa [Step.cells] using this
        rw [hcell j hj]
        match j, hj with
        | 0, _ => simp [Step.cells] at hy; subst hy; exact ⟨_, rfl, rfl, fun m => rfl⟩
        | 1, _ => simp [Step.cells] at hy; subst hy; exact ⟨_, rfl, rfl, fun m => rfl⟩
        | 2, _ => simp [Step.cells] at hy; subst hy; exact ⟨_, rfl, rfl, fun m => rfl⟩
        | 3, _ => simp [Step.cells] at hy; subst hy; exact ⟨_, rfl, rfl, fun m => rfl⟩
        | 4, _ => simp [Step.cells] at hy; subst hy; exact ⟨_, rfl, rfl, fun m => rfl⟩
        | 5, _ => simp [Step.cells] at hy; subst hy; exact ⟨_, rfl, rfl, fun m => rfl⟩
    obtain ⟨l, hl, hp⟩ := exists_list key
    refine ⟨l, ⟨some a, cap, by rw [steps_len, hl], by rw [steps_len, hl]; exact h2, fun hn => ?_⟩, fun o ho => ?_⟩
    · have hl0 : 0 < l.length := List.length_pos_iff.2 fun e => hn (by simp [steps, e])
      have hsp : a.spot = none := by
        obtain ⟨_, hc⟩ := hp 0 l[0] (by simp [hl0])
        obtain ⟨u, hu, _⟩ := hc 0 _ rfl
        simp only [Nat.zero_mul] at hu
        have e : (a.add 0).add 0 = a := by simp [Addr.add]
        rw [e] at hu
        exact World.cell?_spot hu
      obtain ⟨ab, ao, asp⟩ := a
      simp only at hsp; subst hsp
      refine ⟨ab, ao, rfl, denR_of Step.cells fun i st hst => ⟨rfl, ?_⟩⟩
      obtain ⟨_, hc⟩ := hp i st hst
      have : ∀ j y, st.cells[j]? = some y → ∃ u, memW W ab (ao + i * 6 + j) = some u ∧ y.Den (memW W) u := fun j y hy => by
        obtain ⟨u, h5, h6, h7⟩ := hc j y hy
        rw [addr_add, addr_add] at h5
        exact ⟨u, memW_of h5 h6, h7 _⟩
      exact ⟨this 0 _ rfl, this 1 _ rfl, this 2 _ rfl, this 3 _ rfl, this 4 _ rfl, this 5 _ rfl, trivial⟩
    · obtain ⟨i, hi, e⟩ := List.mem_iff_getElem.1 ho
      exact (hp i o (by rw [List.getElem?_eq_getElem hi, e])).1
end
end Go.Proofs.YtneaancanfpdhaaGreatDoor
namespace Go.Vd
open Go Go.RowKit
abbrev MapF := ByteArray → Option Int
/-- a form's map, the greater ones taken -/
def putM (f : MapF) (s : ByteArray) (n : Int) : MapF := match f s with
  | none => updM f s n
  | some m => if n > m then updM f s n else f
def joinL (f : MapF) (up : Int) : List (ByteArray × Int) → MapF
  | [] => f
  | (s, n) :: r => putM (joinL f up r) s (n + up)
/-- .. all of g's -/
def joinM (f g : MapF) (up : Int) : MapF := fun p => match g p with
  | none => f p
  | some n => match f p with
    | none => some (n + up)
    | some m => if n + up > m then some (n + up) else some m
theorem putM_at {f : MapF} {s : ByteArray} {n : Int} (p : ByteArray) : putM f s n p = if p = s then (match f s with | none => some n | some m => if n > m then some n else some m) else f p := by
  unfold putM
  cases h : f s with
  | none => simp only [updM]
  | some m =>
    simp only
    by_cases h2 : n > m
    · simp only [if_pos h2, updM]
    · simp only [if_neg h2]
      by_cases h3 : p = s
      · rw [if_pos h3, h3, h]
      · rw [if_neg h3]
theorem joinL_get {f g : MapF} {up : Int} : ∀ {dn : List (ByteArray × Int)}, (dn.map Prod.fst).Nodup → (∀ p ∈ dn, g p.1 = some p.2) → ∀ p, (p ∈ dn.map Prod.fst → joinL f up dn p = joinM f g up p) ∧ (p ∉ dn.map Prod.fst → joinL f up dn p = f p)
  | [], _, _, p => by simp [joinL]
  | (s, n) :: r, hnd, hg, p => by
    simp only [List.map_cons, List.nodup_cons] at hnd
    have ih := fun q => joinL_get (f := f) (up := up) hnd.2 (fun q hq => hg q (List.mem_cons_of_mem _ hq)) q
    have hs : g s = some n := hg (s, n) List.mem_cons_self
    simp only [joinL, putM_at, List.map_cons, List.mem_cons]
    rw [(ih s).2 hnd.1]
    by_cases hp : p = s
    · subst hp
      refine ⟨fun _ => ?_, fun h => absurd (.inl rfl) h⟩
      rw [if_pos rfl]
      unfold joinM
      rw [hs]
    · rw [if_neg hp]
      exact ⟨fun h => (ih p).1 (h.resolve_left hp), fun h => (ih p).2 (fun e => h (.inr e))⟩
theorem joinL_all {f g : MapF} {up : Int} {dn : List (ByteArray × Int)} (hnd : (dn.map Prod.fst).Nodup) (hg : ∀ p ∈ dn, g p.1 = some p.2) (hall : ∀ s n, g s = some n → (s, n) ∈ dn) : joinL f up dn = joinM f g up := by
  funext p
  by_cases h : p ∈ dn.map Prod.fst
  · exact (joinL_get hnd hg p).1 h
  · rw [(joinL_get hnd hg p).2 h]
    unfold joinM
    cases hgp : g p with
    | none => rfl
    | some n => exact absurd (List.mem_map.2 ⟨_, hall p n hgp, rfl⟩) h
/-- what a form stands for -/
def IsVal (n : Int) (f : MapF) (σ : ByteArray → Int) (v : Int) : Prop :=
  n ≤ v ∧ (∀ p m, f p = some m → σ p + m ≤ v) ∧ (v = n ∨ ∃ p m, f p = some m ∧ v = σ p + m)
theorem IsVal.join {n m up : Int} {f g : MapF} {σ : ByteArray → Int} {v w : Int} (h : IsVal n f σ v) (k : IsVal m g σ w) : IsVal (max n (m + up)) (joinM f g up) σ (max v (w + up)) := by
  obtain ⟨h1, h2, h3⟩ := h
  obtain ⟨k1, k2, k3⟩ := k
  refine ⟨by omega, fun p x hx => ?_, ?_⟩
  · unfold joinM at hx
    cases hg : g p with
    | none => rw [hg] at hx; have := h2 p x hx; omega
    | some a =>
      rw [hg] at hx
      have h4 := k2 p a hg
      cases hf : f p with
      | none => rw [hf] at hx; simp only [Option.some.injEq] at hx; omega
      | some b =>
        rw [hf] at hx
        have h5 := h2 p b hf
        simp only at hx
        split at hx <;> simp only [Option.some.injEq] at hx <;> omega
  · have hv : max v (w + up) = v ∧ w + up ≤ v ∨ max v (w + up) = w + up ∧ v ≤ w + up := by omega
    rcases hv with ⟨e, hle⟩ | ⟨e, hle⟩
    · rw [e]
      rcases h3 with h3 | ⟨p, x, hx, h3⟩
      · left; omega
      · right
        cases hg : g p with
        | none => exact ⟨p, x, by unfold joinM; rw [hg]; exact hx, h3⟩
        | some a =>
          have h4 := k2 p a hg
          exact ⟨p, x, by unfold joinM; rw [hg, hx]; simp only; rw [if_neg (by omega)], h3⟩
    · rw [e]
      rcases k3 with k3 | ⟨p, x, hx, k3⟩
      · left; omega
      · right
        cases hf : f p with
        | none => exact ⟨p, x + up, by unfold joinM; rw [hx, hf], by omega⟩
        | some b =>
          have h5 := h2 p b hf
          by_cases hgt : x + up > b
          · exact ⟨p, x + up, by unfold joinM; rw [hx, hf]; simp only; rw [if_pos hgt], by omega⟩
          · exact ⟨p, b, by unfold joinM; rw [hx, hf]; simp only; rw [if_neg hgt], by omega⟩
/-- a parameter of a level -/
def Lev.has : Lev → ByteArray → Prop
  | .zero, _ => False
  | .succ a, p => a.has p
  | .max a b, p => a.has p ∨ b.has p
  | .imax a b, p => a.has p ∨ b.has p
  | .param s, p => p = s
/-- names stand -/
def nmL (l : Lev) : Prop := ∀ p, l.has p → p ≠ .empty
/-- numbers that fit what is known of parameters -/
structure Fits (z o : MapF) (σ : ByteArray → Int) : Prop where
  pos : ∀ p, 0 ≤ σ p
  zero : ∀ p, z p ≠ none → σ p = 0
  one : ∀ p, o p ≠ none → 1 ≤ σ p
/-- maps that hold ones alone -/
def Ones (z : MapF) : Prop := ∀ p m, z p = some m → m = 1
def off (o : MapF) (σ : ByteArray → Int) : ByteArray → Int := fun p => σ p - (o p).getD 0
structure Bnd (l : Lev) (n : Int) (f : MapF) : Prop where
  n0 : 0 ≤ n
  n1 : n ≤ l.size
  f0 : ∀ p m, f p = some m → 0 ≤ m ∧ m ≤ l.size
  sup : ∀ p m, f p = some m → l.has p
structure Form (l : Lev) (z o : MapF) (n : Int) (f : MapF) : Prop where
  val : ∀ σ, Fits z o σ → IsVal n f (off o σ) (l.worth σ)
  z : ∀ p m, f p = some m → z p = none ∧ (o p).getD 0 ≤ m ∧ m ≤ n
  le : n ≤ l.succs + 1
  le0 : (∀ p, o p = none) → n ≤ l.succs
/-- what shape answers -/
structure Shape (l : Lev) (z o : MapF) (n : Int) (f : MapF) (q : ByteArray) : Prop where
  b : Bnd l n f
  ok : q = .empty → Form l z o n f
  no : q ≠ .empty → l.has q ∧ z q = none ∧ o q = none
theorem fits_pos {z o : MapF} (hz : Ones z) (ho : Ones o) {σ : ByteArray → Int} (h : Fits z o σ) (p : ByteArray) : 0 ≤ off o σ p := by
  unfold off
  cases hop : o p with
  | none => have := h.pos p; simp; omega
  | some m => have := ho p m hop; have := h.one p (by rw [hop]; simp); simp; omega
theorem Bnd.empty (l : Lev) : Bnd l 0 fun _ => none := ⟨Int.le_refl _, by omega, (fun p m h => by cases h), (fun p m h => by cases h)⟩
/-- parameters -/
theorem shape_param {z o : MapF} (hz : Ones z) (ho : Ones o) (s : ByteArray) (h : z s = none) : Shape (.param s) z o ((o s).getD 0) (updM (fun _ => none) s ((o s).getD 0)) .empty := by
  have hos : (o s).getD 0 = 0 ∨ (o s).getD 0 = 1 := by
    cases hp : o s with
    | none => left; rfl
    | some m => right; exact ho s m hp
  have hu : ∀ p m, updM (fun _ => none) s ((o s).getD 0) p = some m → p = s ∧ m = (o s).getD 0 := fun p m e => by
    simp only [updM] at e
    split at e
    · rename_i hp; cases e; exact ⟨hp, rfl⟩
    · cases e
  have hs : updM (fun _ => none) s ((o s).getD 0) s = some ((o s).getD 0) := by simp [updM]
  refine ⟨⟨by omega, by simp only [Lev.size]; omega, fun p m e => ?_, fun p m e => ?_⟩, fun _ => ⟨fun σ hσ => ⟨?_, fun p m e => ?_, .inr ⟨s, _, hs, ?_⟩⟩, fun p m e => ?_, ?_, fun h0 => ?_⟩, fun hq => absurd rfl hq⟩
  · obtain ⟨rfl, rfl⟩ := hu p m e; simp only [Lev.size]; omega
  · obtain ⟨rfl, rfl⟩ := hu p m e; rfl
  · have := fits_pos hz ho hσ s
    simp only [off] at this
    simp only [Lev.worth]; omega
  · obtain ⟨rfl, rfl⟩ := hu p m e; simp only [off, Lev.worth]; omega
  · simp only [off, Lev.worth]; omega
  · obtain ⟨rfl, rfl⟩ := hu p m e; exact ⟨h, Int.le_refl _, Int.le_refl _⟩
  · simp only [Lev.succs]; omega
  · rw [h0 s]; simp [Lev.succs]
theorem shape_zeroed {z o : MapF} (s : ByteArray) (h : z s ≠ none) : Shape (.param s) z o 0 (fun _ => none) .empty :=
  ⟨Bnd.empty _, fun _ => ⟨fun σ hσ => ⟨by simp only [Lev.worth]; rw [hσ.zero s h]; omega, (fun p m e => by cases e), .inl (by simp only [Lev.worth]; exact hσ.zero s h)⟩, (fun p m e => by cases e), by omega, fun _ => by omega⟩, fun hq => absurd rfl hq⟩
theorem shape_zero {z o : MapF} : Shape .zero z o 0 (fun _ => none) .empty :=
  ⟨Bnd.empty _, fun _ => ⟨fun σ hσ => ⟨by simp [Lev.worth], (fun p m e => by cases e), .inl (by simp [Lev.worth])⟩, (fun p m e => by cases e), by omega, fun _ => by omega⟩, fun hq => absurd rfl hq⟩
theorem joinM_some {f g : MapF} {up : Int} {p : ByteArray} {m : Int} (h : joinM f g up p = some m) : f p = some m ∨ ∃ k, g p = some k ∧ m = k + up := by
  unfold joinM at h
  cases hg : g p with
  | none => rw [hg] at h; exact .inl h
  | some k =>
    rw [hg] at h
    cases hf : f p with
    | none => rw [hf] at h; cases h; exact .inr ⟨k, rfl, rfl⟩
    | some b =>
      rw [hf] at h
      simp only at h
      split at h
      · cases h; exact .inr ⟨k, rfl, rfl⟩
      · exact .inl h
theorem Lev.worth_nonneg {σ : ByteArray → Int} (h : ∀ p, 0 ≤ σ p) : ∀ l : Lev, 0 ≤ l.worth σ
  | .zero => by simp [Lev.worth]
  | .succ a => by have := a.worth_nonneg h; simp only [Lev.worth]; omega
  | .max a b => by have := a.worth_nonneg h; simp only [Lev.worth]; omega
  | .imax a b => by have := a.worth_nonneg h; have := b.worth_nonneg h; simp only [Lev.worth]; split <;> omega
  | .param s => h s
theorem isVal_zero (σ : ByteArray → Int) : IsVal 0 (fun _ => none) σ 0 := ⟨Int.le_refl _, (fun p m e => by cases e), .inl rfl⟩
/-- what the loop over the arguments holds: those that were looked at, the last one first -/
def PSL (up : Int) (z o : MapF) : List Lev → Int → MapF → Prop
  | [], n, f => n = 0 ∧ f = fun _ => none
  | a :: r, n, f => ∃ n0 f0 na fa, PSL up z o r n0 f0 ∧ Shape a z o na fa .empty ∧ n = max n0 (na + up) ∧ f = joinM f0 fa up
theorem PSL.bound {up M : Int} {z o : MapF} (hu : 0 ≤ up) (hM : 0 ≤ M) : ∀ {as1 : List Lev} {n : Int} {f : MapF}, PSL up z o as1 n f → (∀ a ∈ as1, a.size + up ≤ M) → (0 ≤ n ∧ n ≤ M) ∧ (∀ p m, f p = some m → 0 ≤ m ∧ m ≤ M)
  | [], n, f, ⟨h1, h2⟩, _ => ⟨by omega, fun p m e => by rw [h2] at e; cases e⟩
  | a :: r, n, f, ⟨n0, f0, na, fa, h1, h2, h3, h4⟩, hs => by
    have ih := PSL.bound hu hM h1 (fun b hb => hs b (List.mem_cons_of_mem _ hb))
    have ha := hs a List.mem_cons_self
    have hb := h2.b.n0
    have hb1 := h2.b.n1
    refine ⟨by omega, fun p m e => ?_⟩
    rw [h4] at e
    rcases joinM_some e with e | ⟨k, ek, rfl⟩
    · exact ih.2 p m e
    · have := h2.b.f0 p k ek; omega
theorem PSL.sup {up : Int} {z o : MapF} : ∀ {as1 : List Lev} {n : Int} {f : MapF}, PSL up z o as1 n f → ∀ p m, f p = some m → ∃ a ∈ as1, a.has p
  | [], n, f, ⟨h1, h2⟩, p, m, e => by rw [h2] at e; cases e
  | a :: r, n, f, ⟨n0, f0, na, fa, h1, h2, h3, h4⟩, p, m, e => by
    rw [h4] at e
    rcases joinM_some e with e | ⟨k, ek, rfl⟩
    · obtain ⟨b, hb, hp⟩ := h1.sup p m e; exact ⟨b, List.mem_cons_of_mem _ hb, hp⟩
    · exact ⟨a, List.mem_cons_self, h2.b.sup p k ek⟩
theorem join_form {a b c : Lev} {z o : MapF} {na nb : Int} {fa fb : MapF} (ha : Shape a z o na fa .empty) (hb : Shape b z o nb fb .empty) (hw : ∀ σ, Fits z o σ → c.worth σ = max (a.worth σ) (b.worth σ)) (hc : c.succs = a.succs + b.succs) :
    Form c z o (max (max 0 (na + 0)) (nb + 0)) (joinM (joinM (fun _ => none) fa 0) fb 0) := by
  have fa' := ha.ok rfl
  have fb' := hb.ok rfl
  have na0 := ha.b.n0
  have nb0 := hb.b.n0
  refine ⟨fun σ hσ => ?_, fun p m e => ?_, ?_, fun h0 => ?_⟩
  · have h1 := ((isVal_zero (off o σ)).join (up := 0) (fa'.val σ hσ)).join (up := 0) (fb'.val σ hσ)
    have w1 := a.worth_nonneg hσ.pos
    have w2 := b.worth_nonneg hσ.pos
    have e : max (max 0 (a.worth σ + 0)) (b.worth σ + 0) = c.worth σ := by rw [hw σ hσ]; omega
    rw [e] at h1; exact h1
  · rcases joinM_some e with e | ⟨k, ek, rfl⟩
    · rcases joinM_some e with e | ⟨k, ek, rfl⟩
      · cases e
      · have := fa'.z p k ek; exact ⟨this.1, by omega, by omega⟩
    · have := fb'.z p k ek; exact ⟨this.1, by omega, by omega⟩
  · have := fa'.le; have := fb'.le; omega
  · have := fa'.le0 h0; have := fb'.le0 h0; omega
theorem shape_succ {a : Lev} {z o : MapF} {n : Int} {f : MapF} (h : PSL 1 z o [a] n f) : Shape (.succ a) z o n f .empty := by
  have hb := h.bound (M := (Lev.succ a).size) (by omega) (by omega) (fun x hx => by simp at hx; subst hx; simp only [Lev.size]; omega)
  refine ⟨⟨hb.1.1, hb.1.2, hb.2, fun p m e => by obtain ⟨x, hx, hp⟩ := h.sup p m e; simp at hx; subst hx; exact hp⟩, fun _ => ?_, fun hq => absurd rfl hq⟩
  obtain ⟨n0, f0, na, fa, ⟨rfl, rfl⟩, h2, rfl, rfl⟩ := h
  have fa' := h2.ok rfl
  have na0 := h2.b.n0
  refine ⟨fun σ hσ => ?_, fun p m e => ?_, ?_, fun h0 => ?_⟩
  · have h1 := (isVal_zero (off o σ)).join (up := 1) (fa'.val σ hσ)
    have w1 := a.worth_nonneg hσ.pos
    have e : max 0 (a.worth σ + 1) = (Lev.succ a).worth σ := by simp only [Lev.worth]; omega
    rw [e] at h1; exact h1
  · rcases joinM_some e with e | ⟨k, ek, rfl⟩
    · cases e
    · have := fa'.z p k ek; exact ⟨this.1, by omega, by omega⟩
  · have := fa'.le; simp only [Lev.succs]; omega
  · have := fa'.le0 h0; simp only [Lev.succs]; omega
theorem shape_max {a b : Lev} {z o : MapF} {n : Int} {f : MapF} (h : PSL 0 z o [b, a] n f) : Shape (.max a b) z o n f .empty := by
  have hb := h.bound (M := (Lev.max a b).size) (by omega) (by omega) (fun x hx => by simp at hx; rcases hx with rfl | rfl <;> simp only [Lev.size] <;> omega)
  refine ⟨⟨hb.1.1, hb.1.2, hb.2, fun p m e => by obtain ⟨x, hx, hp⟩ := h.sup p m e; simp at hx; rcases hx with rfl | rfl; exact .inr hp; exact .inl hp⟩, fun _ => ?_, fun hq => absurd rfl hq⟩
  obtain ⟨n1, f1, nb, fb, ⟨n0, f0, na, fa, ⟨rfl, rfl⟩, h2, rfl, rfl⟩, h3, rfl, rfl⟩ := h
  exact join_form h2 h3 (fun σ hσ => by simp only [Lev.worth]) (by simp only [Lev.succs])
/-- an early end -/
theorem shape_early {l : Lev} {as1 : List Lev} {up : Int} {z o : MapF} {n : Int} {f : MapF} {q : ByteArray} (h : PSL up z o as1 n f) (hu : 0 ≤ up) (hs : ∀ a ∈ as1, (a.size : Int) + up ≤ l.size ∧ ∀ p, a.has p → l.has p) (hq : q ≠ .empty) (hp : l.has q ∧ z q = none ∧ o q = none) : Shape l z o n f q := by
  have hb := h.bound (M := l.size) hu (by omega) (fun x hx => (hs x hx).1)
  exact ⟨⟨hb.1.1, hb.1.2, hb.2, fun p m e => by obtain ⟨x, hx, hxp⟩ := h.sup p m e; exact (hs x hx).2 p hxp⟩, fun e => absurd e hq, fun _ => hp⟩
/-- imax: what it hangs on is 0 -/
theorem shape_imax_zero {a b : Lev} {z o : MapF} {f : MapF} (hb : Shape b z o 0 f .empty) (he : ∀ p, f p = none) : Shape (.imax a b) z o 0 (fun _ => none) .empty := by
  refine ⟨Bnd.empty _, fun _ => ⟨fun σ hσ => ?_, (fun p m e => by cases e), by omega, fun _ => by omega⟩, fun hq => absurd rfl hq⟩
  have h1 := (hb.ok rfl).val σ hσ
  have hw : b.worth σ = 0 := by
    rcases h1.2.2 with h2 | ⟨p, m, e, _⟩
    · exact h2
    · rw [he p] at e; cases e
  have e : (Lev.imax a b).worth σ = 0 := by simp only [Lev.worth]; rw [if_pos hw]
  rw [e]; exact isVal_zero _
theorem shape_imax_at {a b : Lev} {z o : MapF} (ho : Ones o) {f : MapF} {q : ByteArray} {m : Int} (hb : Shape b z o 0 f .empty) (hq : f q = some m) (hn : q ≠ .empty) : Shape (.imax a b) z o 0 (fun _ => none) q := by
  refine ⟨Bnd.empty _, fun e => absurd e hn, fun _ => ⟨.inr (hb.b.sup q m hq), ?_⟩⟩
  have h1 := (hb.ok rfl).z q m hq
  refine ⟨h1.1, ?_⟩
  cases h2 : o q with
  | none => rfl
  | some k =>
    have := ho q k h2
    rw [h2] at h1
    simp at h1; omega
theorem shape_imax {a b : Lev} {z o : MapF} {na nb : Int} {fa fb : MapF} {q : ByteArray} (hb : Shape b z o nb fb .empty) (hn : ¬ nb = 0) (ha : Shape a z o na fa q) : Shape (.imax a b) z o (max (max 0 (nb + 0)) (na + 0)) (joinM (joinM (fun _ => none) fb 0) fa 0) q := by
  have nb0 := hb.b.n0
  have nb1 := hb.b.n1
  have na0 := ha.b.n0
  have na1 := ha.b.n1
  refine ⟨⟨by omega, by simp only [Lev.size]; omega, fun p m e => ?_, fun p m e => ?_⟩, fun e => ?_, fun hq => ?_⟩
  · rcases joinM_some e with e | ⟨k, ek, rfl⟩
    · rcases joinM_some e with e | ⟨k, ek, rfl⟩
      · cases e
      · have := hb.b.f0 p k ek; simp only [Lev.size]; omega
    · have := ha.b.f0 p k ek; simp only [Lev.size]; omega
  · rcases joinM_some e with e | ⟨k, ek, rfl⟩
    · rcases joinM_some e with e | ⟨k, ek, rfl⟩
      · cases e
      · exact .inr (hb.b.sup p k ek)
    · exact .inl (ha.b.sup p k ek)
  · subst e
    refine join_form hb ha (fun σ hσ => ?_) (by simp only [Lev.succs]; omega)
    have h1 := ((hb.ok rfl).val σ hσ).1
    simp only [Lev.worth]
    rw [if_neg (by omega)]; omega
  · obtain ⟨h1, h2⟩ := ha.no hq
    exact ⟨.inl h1, h2⟩
theorem shape_imax_b {a b : Lev} {z o : MapF} {nb : Int} {fb : MapF} {q : ByteArray} (hb : Shape b z o nb fb q) (hq : q ≠ .empty) : Shape (.imax a b) z o 0 (fun _ => none) q :=
  ⟨Bnd.empty _, fun e => absurd e hq, fun _ => by obtain ⟨h1, h2⟩ := hb.no hq; exact ⟨.inr h1, h2⟩⟩
/-! comparing -/
def FLe (n : Int) (f : MapF) (m : Int) (g : MapF) : Prop := (∀ p x, f p = some x → ∃ y, g p = some y ∧ x ≤ y) ∧ n ≤ m
/-- below under all numbers that fit -/
def Sem (z o : MapF) (a b : Lev) : Prop := ∀ σ, Fits z o σ → a.worth σ ≤ b.worth σ
theorem sem_of_fle {a b : Lev} {z o : MapF} {n m : Int} {f g : MapF} (ha : Form a z o n f) (hb : Form b z o m g) (h : FLe n f m g) : Sem z o a b := fun σ hσ => by
  have h1 := ha.val σ hσ
  have h2 := hb.val σ hσ
  rcases h1.2.2 with h3 | ⟨p, x, e, h3⟩
  · have := h2.1; have := h.2; omega
  · obtain ⟨y, hy, hxy⟩ := h.1 p x e
    have := h2.2.1 p y hy; omega
/-- the least numbers that fit, but for p -/
def leastAt (o : MapF) (p : ByteArray) (B : Int) : ByteArray → Int := fun q => (if q = p then B else 0) + (o q).getD 0
theorem leastAt_fits {z o : MapF} (hz : Ones z) (ho : Ones o) (hd : ∀ q, z q ≠ none → o q = none) {p : ByteArray} {B : Int} (hB : 0 ≤ B) (hp : B = 0 ∨ z p = none) : Fits z o (leastAt o p B) := by
  have h0 : ∀ q, 0 ≤ (o q).getD 0 := fun q => by
    cases h : o q with
    | none => simp
    | some m => have := ho q m h; simp; omega
  refine ⟨fun q => ?_, fun q hq => ?_, fun q hq => ?_⟩
  · have := h0 q; unfold leastAt; split <;> omega
  · unfold leastAt
    rw [hd q hq]
    split
    · rename_i e; subst e
      rcases hp with hp | hp
      · simp [hp]
      · exact absurd hp hq
    · simp
  · unfold leastAt
    cases h : o q with
    | none => exact absurd h hq
    | some m => have := ho q m h; simp; split <;> omega
theorem off_least (o : MapF) (p : ByteArray) (B : Int) (q : ByteArray) : off o (leastAt o p B) q = if q = p then B else 0 := by unfold off leastAt; omega
theorem fle_of_sem {a b : Lev} {z o : MapF} (hz : Ones z) (ho : Ones o) (hd : ∀ q, z q ≠ none → o q = none) {n m : Int} {f g : MapF} (ha : Form a z o n f) (hb : Form b z o m g) {B : ByteArray → Int} (hB : ∀ p, m < B p + (o p).getD 0 ∧ 0 ≤ B p)
    (h : ∀ p x, (x = 0 ∨ (x = B p ∧ z p = none)) → a.worth (leastAt o p x) ≤ b.worth (leastAt o p x)) : FLe n f m g := by
  have h0 : ∀ q, 0 ≤ (o q).getD 0 := fun q => by
    cases h : o q with
    | none => simp
    | some m => have := ho q m h; simp; omega
  refine ⟨fun p x hx => ?_, ?_⟩
  · have hzp := (ha.z p x hx).1
    have hxo := (ha.z p x hx).2.1
    have hx0 := h0 p
    have hBp := hB p
    have hf := leastAt_fits hz ho hd (p := p) hBp.2 (.inr hzp)
    have h1 := ha.val _ hf
    have h2 := hb.val _ hf
    have h3 := h p (B p) (.inr ⟨rfl, hzp⟩)
    have h4 := h1.2.1 p x hx
    rw [off_least, if_pos rfl] at h4
    rcases h2.2.2 with h5 | ⟨q, y, hy, h5⟩
    · omega
    · rw [off_least] at h5
      have hym := (hb.z q y hy).2.2
      by_cases hq : q = p
      · subst hq
        rw [if_pos rfl] at h5
        exact ⟨y, hy, by omega⟩
      · rw [if_neg hq] at h5; omega
  · have hf := leastAt_fits hz ho hd (p := .empty) (B := 0) (Int.le_refl _) (.inl rfl)
    have h1 := ha.val _ hf
    have h2 := hb.val _ hf
    have h3 := h .empty 0 (.inl rfl)
    have h4 := h1.1
    rcases h2.2.2 with h5 | ⟨q, y, hy, h5⟩
    · omega
    · rw [off_least] at h5
      have hym := (hb.z q y hy).2.2
      split at h5 <;> omega
/-- numbers, of few sorts, under which it is not so -/
def Cex (z o : MapF) (big : Int) (a b : Lev) : Prop := ∃ σ, Fits z o σ ∧ (∀ p, σ p = 0 ∨ σ p = 1 ∨ σ p = big) ∧ b.worth σ < a.worth σ
def bigOf (a b : Lev) : Int := 2 + a.succs + b.succs
theorem cex_of_not {a b : Lev} {z o : MapF} (hz : Ones z) (ho : Ones o) (hd : ∀ q, z q ≠ none → o q = none) {n m : Int} {f g : MapF} (ha : Form a z o n f) (hb : Form b z o m g) (h : ¬ FLe n f m g) : Cex z o (bigOf a b) a b := by
  have h01 : ∀ q, (o q).getD 0 = 0 ∨ (o q).getD 0 = 1 := fun q => by
    cases h : o q with
    | none => left; rfl
    | some m => right; exact ho q m h
  refine Classical.byContradiction fun hc => h (fle_of_sem hz ho hd ha hb (B := fun p => bigOf a b - (o p).getD 0) (fun p => ?_) fun p x hx => ?_)
  · have := hb.le
    have := h01 p
    unfold bigOf
    omega
  · refine Int.not_lt.1 fun hlt => hc ⟨leastAt o p x, ?_, fun q => ?_, hlt⟩
    · refine leastAt_fits hz ho hd ?_ (hx.imp (fun h => h) (fun h => h.2))
      have := h01 p
      rcases hx with rfl | ⟨rfl, _⟩
      · exact Int.le_refl _
      · unfold bigOf; omega
    · unfold leastAt
      have h1 := h01 q
      have h2 := h01 p
      split
      · rename_i e; subst e
        rcases hx with rfl | ⟨rfl, _⟩
        · omega
        · right; right; omega
      · omega
theorem Cex.zero {z o : MapF} {q : ByteArray} {big : Int} {a b : Lev} (h : Cex (updM z q 1) o big a b) : Cex z o big a b := by
  obtain ⟨σ, hσ, h1, h2⟩ := h
  refine ⟨σ, ⟨hσ.pos, fun p hp => hσ.zero p ?_, hσ.one⟩, h1, h2⟩
  simp only [updM]; split
  · simp
  · exact hp
theorem Cex.one {z o : MapF} {q : ByteArray} {big : Int} {a b : Lev} (h : Cex z (updM o q 1) big a b) : Cex z o big a b := by
  obtain ⟨σ, hσ, h1, h2⟩ := h
  refine ⟨σ, ⟨hσ.pos, hσ.zero, fun p hp => hσ.one p ?_⟩, h1, h2⟩
  simp only [updM]; split
  · simp
  · exact hp
theorem Cex.not {z o : MapF} {big : Int} {a b : Lev} (h : Cex z o big a b) : ¬ Sem z o a b := fun hs => by
  obtain ⟨σ, hσ, _, h2⟩ := h
  have := hs σ hσ
  omega
/-- what the program's leq answers -/
structure LeqA (z o : MapF) (a b : Lev) (c : Bool) : Prop where
  yes : c = true → Sem z o a b
  no : c = false → Cex z o (bigOf a b) a b
def noM : MapF := fun _ => none
noncomputable def semB (a b : Lev) : Bool := @decide (Sem noM noM a b) (Classical.propDecidable _)
theorem semB_iff {a b : Lev} : semB a b = true ↔ Sem noM noM a b := @decide_eq_true_iff _ (Classical.propDecidable _)
theorem LeqA.eq {a b : Lev} {c : Bool} (h : LeqA noM noM a b c) : c = semB a b := by
  cases c with
  | true => exact (semB_iff.2 (h.yes rfl)).symm
  | false =>
    cases hs : semB a b with
    | false => rfl
    | true => exact absurd (semB_iff.1 hs) (h.no rfl).not
def freeN (z o : MapF) (U : List ByteArray) : Nat := (U.filter fun p => (z p).isNone && (o p).isNone).length
theorem filter_less {α : Type} {P P' : α → Bool} {q : α} (hP : P q = true) (h : ∀ x, P' x = true → P x = true ∧ x ≠ q) {l : List α} (hq : q ∈ l) : (l.filter P').length < (l.filter P).length := by
  have le : ∀ l : List α, (l.filter P').length ≤ (l.filter P).length := by
    intro l
    induction l with
    | nil => simp
    | cons x l ih =>
      rw [List.filter_cons, List.filter_cons]
      cases h1 : P' x with
      | true => rw [if_pos (h x h1).1]; simp; exact ih
      | false => rw [if_neg (by simp)]; split <;> (try simp only [List.length_cons]) <;> omega
  induction l with
  | nil => cases hq
  | cons x l ih =>
    rw [List.filter_cons, List.filter_cons]
    by_cases hx : x = q
    · subst hx
      have h1 : P' x = false := by
        cases h1 : P' x with
        | false => rfl
        | true => exact absurd rfl (h x h1).2
      have := le l
      rw [h1, if_pos hP]
      simp; omega
    · have hq' : q ∈ l := (List.mem_cons.1 hq).resolve_left (Ne.symm hx)
      have := ih hq'
      cases h1 : P' x with
      | true => rw [if_pos (h x h1).1]; simp; exact this
      | false => rw [if_neg (by simp)]; split <;> (try simp only [List.length_cons]) <;> omega
theorem free_zero {z o : MapF} {U : List ByteArray} {q : ByteArray} (hq : q ∈ U) (h1 : z q = none) (h2 : o q = none) : freeN (updM z q 1) o U < freeN z o U := by
  refine filter_less (by simp [h1, h2]) (fun x hx => ?_) hq
  simp only [updM, Bool.and_eq_true] at hx
  by_cases e : x = q
  · rw [if_pos e] at hx; simp at hx
  · rw [if_neg e] at hx; exact ⟨by simp [hx.1, hx.2], e⟩
theorem free_one {z o : MapF} {U : List ByteArray} {q : ByteArray} (hq : q ∈ U) (h1 : z q = none) (h2 : o q = none) : freeN z (updM o q 1) U < freeN z o U := by
  refine filter_less (by simp [h1, h2]) (fun x hx => ?_) hq
  simp only [updM, Bool.and_eq_true] at hx
  by_cases e : x = q
  · rw [if_pos e] at hx; simp at hx
  · rw [if_neg e] at hx; exact ⟨by simp [hx.1, hx.2], e⟩
theorem disj_zero {z o : MapF} {q : ByteArray} (hd : ∀ q, z q ≠ none → o q = none) (h2 : o q = none) : ∀ p, updM z q 1 p ≠ none → o p = none := fun p hp => by
  by_cases e : p = q
  · rw [e]; exact h2
  · simp only [updM, if_neg e] at hp; exact hd p hp
theorem disj_one {z o : MapF} {q : ByteArray} (hd : ∀ q, z q ≠ none → o q = none) (h1 : z q = none) : ∀ p, z p ≠ none → updM o q 1 p = none := fun p hp => by
  by_cases e : p = q
  · rw [e] at hp; exact absurd h1 hp
  · simp only [updM, if_neg e]; exact hd p hp
/-- either it is 0, or at least 1 -/
theorem sem_split {z o : MapF} {q : ByteArray} (a b : Lev) : Sem z o a b ↔ (Sem (updM z q 1) o a b ∧ Sem z (updM o q 1) a b) := by
  constructor
  · intro h
    refine ⟨fun σ hσ => h σ ⟨hσ.pos, fun p hp => hσ.zero p ?_, hσ.one⟩, fun σ hσ => h σ ⟨hσ.pos, hσ.zero, fun p hp => hσ.one p ?_⟩⟩
    · simp only [updM]; split
      · simp
      · exact hp
    · simp only [updM]; split
      · simp
      · exact hp
  · rintro ⟨h1, h2⟩ σ hσ
    by_cases hq : σ q = 0
    · refine h1 σ ⟨hσ.pos, fun p hp => ?_, hσ.one⟩
      by_cases e : p = q
      · rw [e]; exact hq
      · simp only [updM, if_neg e] at hp; exact hσ.zero p hp
    · refine h2 σ ⟨hσ.pos, hσ.zero, fun p hp => ?_⟩
      by_cases e : p = q
      · rw [e]; have := hσ.pos q; omega
      · simp only [updM, if_neg e] at hp; exact hσ.one p hp
theorem upd_del {z : MapF} {q : ByteArray} (h : z q = none) : delM (updM z q 1) q = z := by
  funext p
  simp only [delM, updM]
  by_cases e : p = q
  · rw [if_pos e, e, h]
  · rw [if_neg e, if_neg e]
theorem ones_upd {z : MapF} {q : ByteArray} (h : Ones z) : Ones (updM z q 1) := fun p m e => by
  simp only [updM] at e
  split at e
  · cases e; rfl
  · exact h p m e
theorem nodup_len {α : Type} : ∀ {a b : List α}, a.Nodup → (∀ x ∈ a, x ∈ b) → a.length ≤ b.length
  | [], b, _, _ => by simp
  | x :: r, b, hn, hs => by
    obtain ⟨s, t, rfl⟩ := List.append_of_mem (hs x List.mem_cons_self)
    simp only [List.nodup_cons] at hn
    have := nodup_len (b := s ++ t) hn.2 fun y hy => by
      have h1 := hs y (List.mem_cons_of_mem _ hy)
      simp only [List.mem_append, List.mem_cons] at h1 ⊢
      rcases h1 with h1 | h1 | h1
      · exact .inl h1
      · subst h1; exact absurd hy hn.1
      · exact .inr h1
    simp only [List.length_append, List.length_cons] at this ⊢
    omega
theorem Lev.params_mono : ∀ (l : Lev) {ah : List ByteArray} {p : ByteArray}, p ∈ ah → p ∈ l.params ah
  | .zero, _, _, h => h
  | .succ a, _, _, h => a.params_mono h
  | .max a b, _, _, h => b.params_mono (a.params_mono h)
  | .imax a b, _, _, h => b.params_mono (a.params_mono h)
  | .param s, ah, p, h => by
    simp only [Lev.params]
    split
    · exact h
    · exact List.mem_append_left _ h
theorem Lev.has_params : ∀ (l : Lev) {ah : List ByteArray} {p : ByteArray}, l.has p → p ∈ l.params ah
  | .zero, _, _, h => h.elim
  | .succ a, _, _, h => a.has_params (show a.has _ from h)
  | .max a b, _, _, h => (show a.has _ ∨ b.has _ from h).elim (fun h => b.params_mono (a.has_params h)) (fun h => b.has_params h)
  | .imax a b, _, _, h => (show a.has _ ∨ b.has _ from h).elim (fun h => b.params_mono (a.has_params h)) (fun h => b.has_params h)
  | .param s, ah, p, h => by
    have e : p = s := h
    subst e
    simp only [Lev.params]
    split
    · rename_i h2; exact memB_iff.1 h2
    · simp
theorem putM_yes {f : MapF} {s : ByteArray} {n : Int} (h : (f s).isSome = false ∨ (f s).getD 0 < n) : updM f s n = putM f s n := by
  unfold putM
  cases hf : f s with
  | none => rfl
  | some m => rw [hf] at h; simp at h; simp only; rw [if_pos h]
theorem putM_no {f : MapF} {s : ByteArray} {n : Int} (h1 : (f s).isSome = true) (h2 : n ≤ (f s).getD 0) : f = putM f s n := by
  unfold putM
  cases hf : f s with
  | none => rw [hf] at h1; cases h1
  | some m => rw [hf] at h2; simp at h2; simp only; rw [if_neg (by omega)]
theorem joinL_step {g : MapF} {dn : List (ByteArray × Int)} {s : ByteArray} {v : Int} (h1 : (dn.map Prod.fst).Nodup) (h2 : ∀ p ∈ dn, g p.1 = some p.2) (hs : g s = some v) (hn : (s, v) ∉ dn) : (((s, v) :: dn).map Prod.fst).Nodup ∧ ∀ p ∈ (s, v) :: dn, g p.1 = some p.2 := by
  refine ⟨?_, fun p hp => ?_⟩
  · simp only [List.map_cons, List.nodup_cons]
    refine ⟨fun hm => ?_, h1⟩
    obtain ⟨⟨s', v'⟩, hp, e⟩ := List.mem_map.1 hm
    have e' : s' = s := e
    subst e'
    have := h2 _ hp
    rw [hs] at this
    cases this
    exact hn hp
  · rcases List.mem_cons.1 hp with rfl | hp
    · exact hs
    · exact h2 p hp
theorem dn_len {g : MapF} {dn : List (ByteArray × Int)} {L : List ByteArray} (h1 : (dn.map Prod.fst).Nodup) (h2 : ∀ p ∈ dn, g p.1 = some p.2) (hL : ∀ p m, g p = some m → p ∈ L) : dn.length ≤ L.length := by
  have := nodup_len h1 (b := L) fun x hx => by
    obtain ⟨p, hp, rfl⟩ := List.mem_map.1 hx
    exact hL _ _ (h2 p hp)
  simpa using this
end Go.Vd
namespace Go.Vd
open Go Go.RowKit
theorem byteAt_append (u v : ByteArray) (i : Nat) : byteAt (u ++ v) i = if i < u.size then byteAt u i else byteAt v (i - u.size) := by
  unfold byteAt
  have e : (u ++ v).data = u.data ++ v.data := by simp
  rw [e]
  simp only [Array.getD_eq_getD_getElem?, Array.getElem?_append]
  have : u.size = u.data.size := rfl
  rw [this]
  split <;> rfl
theorem byteAt_extract (s : ByteArray) {p q i : Nat} (h : p + i < q) (hq : q ≤ s.size) : byteAt (s.extract p q) i = byteAt s (p + i) := by
  unfold byteAt
  have e : (s.extract p q).data = s.data.extract p q := by simp
  rw [e]
  have hs : s.size = s.data.size := rfl
  simp only [Array.getD_eq_getD_getElem?, Array.getElem?_extract]
  rw [if_pos (by omega)]
theorem byteAt_inj {a b : ByteArray} (h : a.size = b.size) (hb : ∀ i, i < a.size → byteAt a i = byteAt b i) : a = b := by
  apply ByteArray.ext
  apply Array.ext
  · exact h
  · intro i h1 h2
    have := hb i h1
    unfold byteAt at this
    simp only [Array.getD_eq_getD_getElem?, Array.getElem?_eq_getElem h1, Array.getElem?_eq_getElem h2, Option.getD_some] at this
    exact UInt8.toNat.inj (by omega)
/-- a text stands in another one -/
structure At (T : ByteArray) (p : Nat) (w : ByteArray) : Prop where
  le : p + w.size ≤ T.size
  eq : ∀ i, i < w.size → byteAt T (p + i) = byteAt w i
theorem At.left {T u v : ByteArray} {p : Nat} (h : At T p (u ++ v)) : At T p u := by
  have hs : (u ++ v).size = u.size + v.size := ByteArray.size_append
  refine ⟨by have := h.le; omega, fun i hi => ?_⟩
  rw [h.eq i (by omega), byteAt_append, if_pos hi]
theorem At.right {T u v : ByteArray} {p : Nat} (h : At T p (u ++ v)) : At T (p + u.size) v := by
  have hs : (u ++ v).size = u.size + v.size := ByteArray.size_append
  refine ⟨by have := h.le; omega, fun i hi => ?_⟩
  have := h.eq (u.size + i) (by omega)
  rw [byteAt_append, if_neg (by omega), Nat.add_sub_cancel_left] at this
  rw [← this, Nat.add_assoc]
theorem At.extract {T w : ByteArray} {p : Nat} (h : At T p w) : T.extract p (p + w.size) = w := by
  have hle := h.le
  have hs : (T.extract p (p + w.size)).size = w.size := by rw [ByteArray.size_extract]; omega
  refine byteAt_inj hs fun i hi => ?_
  rw [byteAt_extract T (by omega) (by omega), h.eq i (by omega)]
theorem At.one {T : ByteArray} {p : Nat} {c : UInt8} (h : At T p ⟨#[c]⟩) : p < T.size ∧ byteAt T p = c.toNat := by
  have h1 := h.le
  have h2 := h.eq 0 (show 0 < 1 from Nat.one_pos)
  have hs : (ByteArray.mk #[c]).size = 1 := rfl
  rw [hs] at h1
  exact ⟨by omega, by rw [Nat.add_zero] at h2; rw [h2]; rfl⟩
theorem spanB_all {f : Int → Bool} {s : ByteArray} : ∀ {p j : Nat}, p ≤ j → j < spanB f s p → f (byteAt s j) = true := by
  intro p
  induction h : s.size - p generalizing p with
  | zero =>
    intro j h1 h2
    rw [spanB_end (by omega)] at h2; omega
  | succ n ih =>
    intro j h1 h2
    by_cases hc : p < s.size ∧ f (byteAt s p) = true
    · rw [spanB_step hc.1 hc.2] at h2
      rcases Nat.eq_or_lt_of_le h1 with rfl | h3
      · exact hc.2
      · exact ih (by omega) (by omega) h2
    · rw [spanB_end hc] at h2; omega
/-- a name as a token -/
structure okName (w : ByteArray) : Prop where
  ne : 0 < w.size
  le : w.size ≤ 40
  first : nameB (byteAt w 0) true = true
  rest : ∀ i, i < w.size → nameB (byteAt w i) false = true
/-- a name that was read -/
theorem tok_okName {s : ByteArray} {p : Nat} (hp : p ≤ s.size) (h : isNameB (tokR s p).1 = true) : okName (tokR s p).1 := by
  have h1 := spanB_le wsB s p hp
  unfold tokR at h ⊢
  simp only at h ⊢
  generalize hi : spanB wsB s p = i at h h1 ⊢
  split at h
  · simp [isNameB] at h
  rename_i hne
  rw [if_neg hne]
  have hil : i < s.size := by omega
  split at h
  · rename_i hpar
    have hb : byteAt (s.extract i (i + 1)) 0 = byteAt s i := byteAt_extract s (by omega) (by omega)
    simp only [isNameB, Bool.and_eq_true] at h
    rw [hb] at h
    have h2 := h.2
    simp only [nameB, decide_eq_true_eq] at h2
    omega
  rename_i hpar
  rw [if_neg hpar]
  have h2 : i + 1 ≤ s.size := by omega
  split at h
  · rename_i hnm
    rw [if_pos hnm]
    have h3 := spanB_le (nameB · false) s (i + 1) h2
    generalize hq : spanB (fun x => nameB x false) s (i + 1) = q at h h3 ⊢
    split at h
    · simp [isNameB] at h
    · rename_i hl
      rw [if_neg hl]
      have hsz : (s.extract i q).size = q - i := by rw [ByteArray.size_extract]; omega
      refine ⟨by rw [hsz]; omega, by rw [hsz]; omega, ?_, fun j hj => ?_⟩
      · rw [byteAt_extract s (by omega) h3.2]; exact hnm
      · rw [hsz] at hj
        rw [byteAt_extract s (by omega) h3.2]
        rcases Nat.eq_zero_or_pos j with rfl | hj0
        · rw [Nat.add_zero]
          simp [nameB] at hnm ⊢
          omega
        · exact spanB_all (f := fun x => nameB x false) (p := i + 1) (by omega) (by rw [hq]; omega)
  · rename_i hnm
    rw [if_neg hnm]
    have hbad : ∀ q, i < q → q ≤ s.size → isNameB (s.extract i q) = false := fun q h5 h6 => by
      unfold isNameB
      rw [byteAt_extract s (by omega) h6, Nat.add_zero]
      simp only [Bool.not_eq_true] at hnm
      rw [hnm]; simp
    have h4 := spanB_le digB s (i + 1) h2
    generalize (if byteAt s i = 35 then i + 1 else i) = d at h ⊢
    split at h
    · split at h
      · simp [isNameB] at h
      · rw [hbad _ (by omega) h4.2] at h; cases h
    · simp [isNameB] at h
end Go.Vd
namespace Go.Vd
open Go Go.RowKit
section
variable {P : Program} {GL : Nat → List D} {o : Oper} {σ : St} {K : SV → List Nat → Prop}
def sub8 (m n : Int) : Int := IntKind.wrap .u8 (m - n)
theorem fl_sub8 {T T' : TypeId} {x y : Operand} {m n : Int} (ho : o.op = .binOp .sub T x y T') (hx : evO GL σ.sl x = some (.d (.v (.int .u8 m)))) (hy : evO GL σ.sl y = some (.d (.v (.int .u8 n)))) (hK : K (.d (.v (.int .u8 (sub8 m n)))) []) : FloatR P GL o σ K :=
  fl_bin ho hx hy rfl (by simp) (fun w => by simp only [binOp, Op.intArith, ne_eq, not_true_eq_false, if_false]; rfl) hK
end
theorem sub8_digit {c : Int} (h : 48 ≤ c ∧ c ≤ 57) : sub8 c 48 = c - 48 := by
  unfold sub8 IntKind.wrap
  simp [IntKind.bits, IntKind.signed]
  omega
theorem wrap_digit {c : Int} (h : 0 ≤ c ∧ c ≤ 255) : IntKind.wrap .i64 c = c := by
  unfold IntKind.wrap
  simp [IntKind.bits, IntKind.signed]
  omega
end Go.Vd
namespace Go.Vd
open Go Go.RowKit
/-! terms -/
inductive Trm where
  | mk (kind num : Int) (name : ByteArray) (levels : List Lvl) (args : List Trm)
mutual
def Trm.cells : Trm → List D
  | .mk k n s ls args => [.v (.int .i64 k), .v (.int .i64 n), .v (.string s), .sl 3 (lvls ls), .sl 5 (trms args)]
def trms : List Trm → List (List D)
  | [] => []
  | t :: r => t.cells :: trms r
end
def Trm.d (t : Trm) : D := .agg t.cells
theorem Trm.cells_len : ∀ t : Trm, t.cells.length = 5
  | .mk _ _ _ _ _ => rfl
theorem Trm.case (t : Trm) : ∃ k n s ls args, t = .mk k n s ls args := by cases t; exact ⟨_, _, _, _, _, rfl⟩
theorem trms_len : ∀ l : List Trm, (trms l).length = l.length
  | [] => rfl
  | l :: r => by simp [trms, trms_len r]
theorem trms_get : ∀ {l : List Trm} {i : Nat} {x : Trm}, l[i]? = some x → (trms l)[i]? = some x.cells
  | [], i, x, h => by simp at h
  | l :: r, 0, x, h => by simp at h; subst h; simp [trms]
  | l :: r, i + 1, x, h => by simpa [trms] using trms_get (l := r) (i := i) (by simpa using h)
theorem trm_at {l : List Trm} {i : Nat} {k n : Int} {s : ByteArray} {ls : List Lvl} {args : List Trm} (h : l[i]? = some (.mk k n s ls args)) : (trms l)[((i : Nat) : Int).toNat]? = some [.v (.int .i64 k), .v (.int .i64 n), .v (.string s), .sl 3 (lvls ls), .sl 5 (trms args)] := by
  rw [Int.toNat_natCast, trms_get h]; rfl
theorem trms_app (l m : List Trm) : trms (l ++ m) = trms l ++ trms m := by
  induction l with
  | nil => rfl
  | cons a r ih => simp [trms, ih]
theorem trm_get {ls : List Trm} {i : Nat} (h : i < ls.length) : ∃ k n s l args, ls[i]? = some (.mk k n s l args) := by
  have : ls[i]? = some ls[i] := by simp [h]
  rw [this]
  cases ls[i]; exact ⟨_, _, _, _, _, rfl⟩
mutual
def Trm.size : Trm → Nat
  | .mk _ _ _ ls args => 1 + sizes ls + sizesT args
def sizesT : List Trm → Nat
  | [] => 0
  | l :: r => l.size + sizesT r
end
theorem sizeT_get : ∀ {ls : List Trm} {i : Nat} {l : Trm}, ls[i]? = some l → l.size ≤ sizesT ls
  | [], i, l, h => by simp at h
  | a :: r, 0, l, h => by simp at h; subst h; simp [sizesT]
  | a :: r, i + 1, l, h => by simp at h; have := sizeT_get h; simp [sizesT]; omega
theorem trms_size : ∀ ls : List Trm, ls.length ≤ sizesT ls
  | [] => by simp
  | l :: r => by have := trms_size r; cases l; simp [sizesT, Trm.size]; omega
mutual
/-- as they are written -/
def Trm.same : Trm → Trm → Bool
  | .mk k n s ls a, .mk k2 n2 s2 ls2 a2 => decide (k = k2) && decide (n = n2) && decide (s = s2) && sameL ls ls2 && sameT a a2
def sameT : List Trm → List Trm → Bool
  | [], [] => true
  | l :: r, l2 :: r2 => l.same l2 && sameT r r2
  | _, _ => false
end
theorem Trm.same_eq (k n : Int) (s : ByteArray) (ls : List Lvl) (a : List Trm) (k2 n2 : Int) (s2 : ByteArray) (ls2 : List Lvl) (a2 : List Trm) : Trm.same (.mk k n s ls a) (.mk k2 n2 s2 ls2 a2) = (decide (k = k2) && decide (n = n2) && decide (s = s2) && sameL ls ls2 && sameT a a2) := by simp [Trm.same]
theorem sameT_len : ∀ {a b : List Trm}, sameT a b = true → a.length = b.length
  | [], [], _ => rfl
  | l :: r, l2 :: r2, h => by simp [sameT] at h; simp [sameT_len h.2]
  | [], _ :: _, h => by simp [sameT] at h
  | _ :: _, [], h => by simp [sameT] at h
theorem sameT_app : ∀ {a b : List Trm} {x y : Trm}, a.length = b.length → sameT (a ++ [x]) (b ++ [y]) = (sameT a b && x.same y)
  | [], [], x, y, _ => by simp [sameT]
  | l :: r, l2 :: r2, x, y, h => by simp [sameT, sameT_app (a := r) (b := r2) (by simpa using h), Bool.and_assoc]
  | [], _ :: _, _, _, h => by simp at h
  | _ :: _, [], _, _, h => by simp at h
theorem sameT_take {a b : List Trm} {i : Nat} {x y : Trm} (hx : a[i]? = some x) (hy : b[i]? = some y) : sameT (a.take (i + 1)) (b.take (i + 1)) = (sameT (a.take i) (b.take i) && x.same y) := by
  have h1 := (List.getElem?_eq_some_iff.1 hx).1
  have h2 := (List.getElem?_eq_some_iff.1 hy).1
  rw [List.take_add_one, List.take_add_one, hx, hy]
  exact sameT_app (by simp; omega)
theorem sameT_false : ∀ {a b : List Trm} {i : Nat} {x y : Trm}, a[i]? = some x → b[i]? = some y → x.same y = false → sameT a b = false
  | [], _, i, _, _, h, _, _ => by simp at h
  | _ :: _, [], i, _, _, _, h, _ => by simp at h
  | l :: r, l2 :: r2, 0, x, y, h1, h2, h3 => by simp at h1 h2; subst h1 h2; simp [sameT, h3]
  | l :: r, l2 :: r2, i + 1, x, y, h1, h2, h3 => by simp [sameT]; intro _; exact sameT_false (i := i) (by simpa using h1) (by simpa using h2) h3
mutual
theorem Lvl.same_self : ∀ l : Lvl, l.same l = true
  | .mk k s a => by rw [Lvl.same_eq]; simp [sameL_self a]
theorem sameL_self : ∀ l : List Lvl, sameL l l = true
  | [] => rfl
  | t :: r => by simp [sameL, t.same_self, sameL_self r]
end
mutual
theorem Trm.same_self : ∀ t : Trm, t.same t = true
  | .mk k n s ls a => by rw [Trm.same_eq]; simp [sameL_self ls, sameT_self a]
theorem sameT_self : ∀ l : List Trm, sameT l l = true
  | [] => rfl
  | t :: r => by simp [sameT, t.same_self, sameT_self r]
end
/-! the reader -/
/-- the number that the first k digits write -/
def numR (t : ByteArray) : Nat → Int
  | 0 => 0
  | k + 1 => 10 * numR t k + (byteAt t k - 48)
def allDig (t : ByteArray) : Prop := ∀ i : Nat, (i : Int) < t.size → 48 ≤ byteAt t i ∧ byteAt t i ≤ 57
theorem numR_bound {t : ByteArray} (h : allDig t) : ∀ k : Nat, k ≤ t.size → k ≤ 5 → 0 ≤ numR t k ∧ numR t k ≤ 99999
  | 0, _, _ => by simp [numR]
  | 1, h1, h2 => by have := h 0 (by omega); simp only [numR]; omega
  | 2, h1, h2 => by have := h 0 (by omega); have := h 1 (by omega); simp only [numR]; omega
  | 3, h1, h2 => by have := h 0 (by omega); have := h 1 (by omega); have := h 2 (by omega); simp only [numR]; omega
  | 4, h1, h2 => by have := h 0 (by omega); have := h 1 (by omega); have := h 2 (by omega); have := h 3 (by omega); simp only [numR]; omega
  | 5, h1, h2 => by have := h 0 (by omega); have := h 1 (by omega); have := h 2 (by omega); have := h 3 (by omega); have := h 4 (by omega); simp only [numR]; omega
  | _ + 6, _, h2 => by omega
def peekR (s : ByteArray) (r : RS) : ByteArray := if (tokR s r.p).2.2 = false ∨ r.f ≠ none then .empty else (tokR s r.p).1
def nameR (s : ByteArray) (r : RS) : ByteArray × RS :=
  let t := tokR s r.p
  if t.2.2 = false ∨ isNameB t.1 = false then (.empty, r.fail t.2.1)
  else match r.f with
    | none => (t.1, ⟨t.2.1 + t.1.size, none⟩)
    | some a => (.empty, ⟨r.p, some a⟩)
def levelsR : Nat → ByteArray → RS → List Lvl × RS
  | 0, _, r => ([], r)
  | n + 1, s, r =>
    if r.f = none ∧ peekR s r ≠ ⟨#[41]⟩ then
      let a := levelR (s.size + 1) s r
      let b := levelsR n s a.2
      (a.1 :: b.1, b.2)
    else ([], r)
/-- the words of terms -/
def wordsT : List ByteArray := [.empty, ⟨#[115, 111, 114, 116]⟩, ⟨#[99, 111, 110, 115, 116]⟩, ⟨#[97, 112, 112]⟩, ⟨#[108, 97, 109]⟩, ⟨#[112, 105]⟩, ⟨#[108, 101, 116]⟩]
def kindT (w : ByteArray) : Nat :=
  if w = ⟨#[115, 111, 114, 116]⟩ then 1 else if w = ⟨#[99, 111, 110, 115, 116]⟩ then 2 else if w = ⟨#[97, 112, 112]⟩ then 3
  else if w = ⟨#[108, 97, 109]⟩ then 4 else if w = ⟨#[112, 105]⟩ then 5 else if w = ⟨#[108, 101, 116]⟩ then 6 else 0
theorem kindT_le (w : ByteArray) : kindT w ≤ 6 := by unfold kindT; repeat' split
                                                     all_goals omega
theorem kindT_word {w : ByteArray} {i : Nat} (h1 : 1 ≤ i) (h : i < wordsT.length) : wordsT[i] = w ↔ kindT w = i := by
  constructor
  · rintro rfl
    rcases i with _ | _ | _ | _ | _ | _ | _ | i
    · omega
    all_goals first
      | rfl
      | (simp [wordsT] at h; omega)
  · intro e
    unfold kindT at e
    repeat' split at e
    all_goals (subst e; first | omega | (rename_i h2; exact h2.symm) | (simp_all [wordsT]))
def kindTo (w : ByteArray) (i : Nat) : Nat := if kindT w < i then kindT w else 0
theorem kindTo_7 (w : ByteArray) : kindTo w 7 = kindT w := by have := kindT_le w; unfold kindTo; rw [if_pos (by omega)]
theorem kindTo_yes {w : ByteArray} {i : Nat} (h1 : 1 ≤ i) (h : i < wordsT.length) (e : wordsT[i] = w) : kindTo w (i + 1) = i := by
  have := (kindT_word h1 h).1 e; unfold kindTo; rw [if_pos (by omega)]; exact this
theorem kindTo_no {w : ByteArray} {i : Nat} (h1 : 1 ≤ i) (h : i < wordsT.length) (e : ¬ wordsT[i] = w) : kindTo w (i + 1) = kindTo w i := by
  have : ¬ kindT w = i := fun h2 => e ((kindT_word h1 h).2 h2)
  unfold kindTo
  by_cases h3 : kindT w < i
  · rw [if_pos h3, if_pos (by omega)]
  · rw [if_neg h3, if_neg (by omega)]
def zeroT : Trm := .mk 0 0 .empty [] []
/-- the parts of a term -/
def partsR (f : RS → Trm × RS) : Nat → RS → List Trm × RS
  | 0, r => ([], r)
  | n + 1, r => let b := partsR f n r; let a := f b.2; (b.1 ++ [a.1], a.2)
/-- how many terms a term of the kind has -/
def partsOf (k : Nat) : Nat := if k = 1 ∨ k = 2 then 0 else if k = 6 then 3 else 2
/-- what stands ahead of the parts: a name, levels -/
def headR (s : ByteArray) (k : Nat) (r2 : RS) : ByteArray × List Lvl × RS :=
  if k = 1 then (.empty, [(levelR (s.size + 1) s r2).1], (levelR (s.size + 1) s r2).2)
  else if k = 2 then ((nameR s r2).1, (levelsR (s.size + 2) s (nameR s r2).2).1, (levelsR (s.size + 2) s (nameR s r2).2).2)
  else (.empty, [], r2)
/-- is it a token that begins a term? -/
def headT (t : ByteArray) : Prop := t ≠ .empty ∧ (byteAt t 0 = 35 ∨ t = ⟨#[40]⟩)
instance (t : ByteArray) : Decidable (headT t) := inferInstanceAs (Decidable (_ ∧ _))
def termR : Nat → ByteArray → RS → Trm × RS
  | 0, _, r => (zeroT, r)
  | n + 1, s, r =>
    match r.f with
    | some _ => (zeroT, r)
    | none =>
      let t := tokR s r.p
      if ¬ headT t.1 then (zeroT, r.fail t.2.1)
      else if t.1 ≠ ⟨#[40]⟩ then (.mk 0 (numR (t.1.extract 1 t.1.size) (t.1.size - 1)) .empty [] [], (nextR s r).2)
      else
        let r1 := (nextR s r).2
        let w := tokR s r1.p
        let k := kindT w.1
        if k = 0 then (zeroT, r1.fail w.2.1)
        else
          let h := headR s k (nextR s r1).2
          let a := partsR (termR n s) (partsOf k) h.2.2
          (.mk k 0 h.1 h.2.1 a.1, takeR s ⟨#[41]⟩ a.2)
/-- the reference's 'ParseTerm' -/
def parseT (s : ByteArray) : Trm × Int × Int :=
  if s.size > 20000 then (zeroT, 2, 0)
  else
    let a := termR (s.size + 1) s ⟨0, none⟩
    match (doneR s a.2).f with
    | none => (a.1, 0, 0)
    | some at' => (zeroT, 1, at')
theorem nameR_le {s : ByteArray} {r : RS} (hp : r.p ≤ s.size) : r.p ≤ (nameR s r).2.p ∧ (nameR s r).2.p ≤ s.size := by
  have hat := tokR_at (s := s) hp
  obtain ⟨p, f⟩ := r
  simp only at hp hat
  unfold nameR
  dsimp only
  split
  · rw [RS.fail_p]; exact ⟨Nat.le_refl _, hp⟩
  · cases f with
    | none => dsimp only; exact ⟨by omega, hat.2⟩
    | some a => exact ⟨Nat.le_refl _, hp⟩
theorem levelsR_le {s : ByteArray} : ∀ (n : Nat) {r : RS}, r.p ≤ s.size → r.p ≤ (levelsR n s r).2.p ∧ (levelsR n s r).2.p ≤ s.size := by
  intro n
  induction n with
  | zero => intro r hp; exact ⟨Nat.le_refl _, hp⟩
  | succ n ih =>
    intro r hp
    simp only [levelsR]
    split
    · have h1 := levelR_le (s := s) (s.size + 1) hp
      have h2 := ih h1.2
      exact ⟨Nat.le_trans h1.1 h2.1, h2.2⟩
    · exact ⟨Nat.le_refl _, hp⟩
theorem headR_le {s : ByteArray} (k : Nat) {r : RS} (hp : r.p ≤ s.size) : r.p ≤ (headR s k r).2.2.p ∧ (headR s k r).2.2.p ≤ s.size := by
  unfold headR
  split
  · exact levelR_le (s := s) (s.size + 1) hp
  · split
    · have h1 := nameR_le (s := s) hp
      have h2 := levelsR_le (s.size + 2) h1.2
      exact ⟨Nat.le_trans h1.1 h2.1, h2.2⟩
    · exact ⟨Nat.le_refl _, hp⟩
theorem partsR_le {s : ByteArray} {f : RS → Trm × RS} (hf : ∀ r : RS, r.p ≤ s.size → r.p ≤ (f r).2.p ∧ (f r).2.p ≤ s.size) : ∀ (n : Nat) {r : RS}, r.p ≤ s.size → r.p ≤ (partsR f n r).2.p ∧ (partsR f n r).2.p ≤ s.size := by
  intro n
  induction n with
  | zero => intro r hp; exact ⟨Nat.le_refl _, hp⟩
  | succ n ih =>
    intro r hp
    have h1 := ih hp
    have h2 := hf _ h1.2
    exact ⟨Nat.le_trans h1.1 h2.1, h2.2⟩
theorem partsR_len (f : RS → Trm × RS) : ∀ (n : Nat) (r : RS), (partsR f n r).1.length = n := by
  intro n
  induction n with
  | zero => intro r; rfl
  | succ n ih => intro r; simp [partsR, ih]
theorem termR_le {s : ByteArray} : ∀ (n : Nat) (r : RS), r.p ≤ s.size → r.p ≤ (termR n s r).2.p ∧ (termR n s r).2.p ≤ s.size := by
  intro n
  induction n with
  | zero => intro r hp; exact ⟨Nat.le_refl _, hp⟩
  | succ n ih =>
    intro r hp
    obtain ⟨p, f⟩ := r
    simp only at hp
    cases f with
    | some a => exact ⟨Nat.le_refl _, hp⟩
    | none =>
      have h1 := nextR_le (s := s) (r := ⟨p, none⟩) hp
      have h2 := nextR_le (s := s) (r := (nextR s ⟨p, none⟩).2) h1.2
      simp only at h1
      simp only [termR]
      split
      · rw [RS.fail_p]; exact ⟨Nat.le_refl _, hp⟩
      · split
        · exact h1
        · split
          · rw [RS.fail_p]; exact h1
          · have h3 := headR_le (s := s) (kindT (tokR s (nextR s ⟨p, none⟩).2.p).1) h2.2
            have h4 := partsR_le ih (partsOf (kindT (tokR s (nextR s ⟨p, none⟩).2.p).1)) h3.2
            have h5 := takeR_le (s := s) (w := ⟨#[41]⟩) h4.2
            exact ⟨Nat.le_trans h1.1 (Nat.le_trans h2.1 (Nat.le_trans h3.1 (Nat.le_trans h4.1 h5.1))), h5.2⟩
theorem tok_hash0 {s : ByteArray} {p : Nat} (hp : p ≤ s.size) (h0 : (tokR s p).1 ≠ .empty) (h : byteAt (tokR s p).1 0 = 35) : (tokR s p).1.size ≤ 6 ∧ 2 ≤ (tokR s p).1.size ∧ allDig ((tokR s p).1.extract 1 (tokR s p).1.size) := by
  have hle := spanB_le wsB s p hp
  revert h0 h
  unfold tokR
  dsimp only
  split
  · intro h0; exact absurd rfl h0
  · rename_i hn
    have hlt : spanB wsB s p < s.size := by omega
    split
    · rename_i hc
      intro _ h
      rw [byteAt_extract s (by omega) (by omega), Nat.add_zero] at h
      omega
    · split
      · rename_i hc hnm
        have h3 := spanB_le (nameB · false) s (spanB wsB s p + 1) (by omega)
        split
        · intro h0; exact absurd rfl h0
        · intro _ h
          rw [byteAt_extract s (by omega) (by omega), Nat.add_zero] at h
          rw [h] at hnm
          exact absurd hnm (by decide)
      · split
        · have h3 := spanB_le digB s (spanB wsB s p + 1) (by omega)
          by_cases h35 : byteAt s (spanB wsB s p) = 35
          · simp only [if_pos h35]
            split
            · intro h0; exact absurd rfl h0
            · rename_i hd
              intro _ h
              simp only [ByteArray.size_extract]
              refine ⟨by omega, by omega, fun i hi => ?_⟩
              simp only [ByteArray.size_extract] at hi
              rw [byteAt_extract _ (by omega) (by simp only [ByteArray.size_extract]; omega), byteAt_extract s (by omega) (by omega)]
              have := spanB_all (f := digB) (s := s) (p := spanB wsB s p + 1) (j := spanB wsB s p + (1 + i)) (by omega) (by omega)
              simpa [digB] using this
          · simp only [if_neg h35]
            split
            · intro h0; exact absurd rfl h0
            · intro _ h
              rw [byteAt_extract s (by omega) (by omega), Nat.add_zero] at h
              exact absurd h h35
        · intro h0; exact absurd rfl h0
/-- a token that begins with # -/
theorem tok_hash {s : ByteArray} {p : Nat} (hp : p ≤ s.size) (h0 : (tokR s p).1 ≠ .empty) (h : byteAt (tokR s p).1 0 = 35) : (tokR s p).1.size ≤ 6 ∧ 1 ≤ (tokR s p).1.size ∧ allDig ((tokR s p).1.extract 1 (tokR s p).1.size) := by
  have := tok_hash0 hp h0 h
  exact ⟨this.1, by omega, this.2.2⟩
section
variable {s : ByteArray} {p n : Nat}
theorem termR_bad (h : ¬ headT (tokR s p).1) : termR (n + 1) s ⟨p, none⟩ = (zeroT, (RS.mk p none).fail (tokR s p).2.1) := by simp only [termR]; rw [if_pos h]
theorem termR_num (h : headT (tokR s p).1) (h1 : (tokR s p).1 ≠ ⟨#[40]⟩) : termR (n + 1) s ⟨p, none⟩ = (.mk 0 (numR ((tokR s p).1.extract 1 (tokR s p).1.size) ((tokR s p).1.size - 1)) .empty [] [], (nextR s ⟨p, none⟩).2) := by
  simp only [termR]; rw [if_neg (by simpa using h), if_pos h1]
theorem termR_kind (h1 : (tokR s p).1 = ⟨#[40]⟩) (h2 : kindT (tokR s (nextR s ⟨p, none⟩).2.p).1 = 0) : termR (n + 1) s ⟨p, none⟩ = (zeroT, (nextR s ⟨p, none⟩).2.fail (tokR s (nextR s ⟨p, none⟩).2.p).2.1) := by
  simp only [termR]; rw [if_neg (by rw [h1]; decide), if_neg (by simpa using h1), if_pos h2]
theorem termR_node (h1 : (tokR s p).1 = ⟨#[40]⟩) {k : Nat} (h2 : kindT (tokR s (nextR s ⟨p, none⟩).2.p).1 = k) (h3 : ¬ k = 0) {nm : ByteArray} {L : List Lvl} {r3 : RS} (h4 : headR s k (nextR s (nextR s ⟨p, none⟩).2).2 = (nm, L, r3)) :
    termR (n + 1) s ⟨p, none⟩ = (.mk k 0 nm L (partsR (termR n s) (partsOf k) r3).1, takeR s ⟨#[41]⟩ (partsR (termR n s) (partsOf k) r3).2) := by
  simp only [termR]; rw [if_neg (by rw [h1]; decide), if_neg (by simpa using h1), h2, if_neg h3, h4]
end
theorem parseT_bad {s : ByteArray} (h : ¬ s.size > 20000) (hf : ¬ fcode (doneR s (termR (s.size + 1) s ⟨0, none⟩).2).f = 0) :
    parseT s = (zeroT, fcode (doneR s (termR (s.size + 1) s ⟨0, none⟩).2).f, fat (doneR s (termR (s.size + 1) s ⟨0, none⟩).2).f) := by
  unfold parseT
  rw [if_neg h]
  simp only
  cases hf2 : (doneR s (termR (s.size + 1) s ⟨0, none⟩).2).f with
  | none => rw [hf2] at hf; exact absurd rfl hf
  | some a => rfl
theorem parseT_good {s : ByteArray} (h : ¬ s.size > 20000) (hf : fcode (doneR s (termR (s.size + 1) s ⟨0, none⟩).2).f = 0) :
    parseT s = ((termR (s.size + 1) s ⟨0, none⟩).1, fcode (doneR s (termR (s.size + 1) s ⟨0, none⟩).2).f, fat (doneR s (termR (s.size + 1) s ⟨0, none⟩).2).f) := by
  unfold parseT
  rw [if_neg h]
  simp only
  cases hf2 : (doneR s (termR (s.size + 1) s ⟨0, none⟩).2).f with
  | none => rfl
  | some a => rw [hf2] at hf; cases hf
end Go.Vd
namespace Go.Proofs.YtneaancanfpdhaaGreatDoor
open Go Go.Vd Go.RowKit
mutual
/-- F at each variable, with how many binders stand around it -/
def mapT (F : Trm → Int → Trm) : Trm → Int → Trm
  | .mk k n s ls args, d => if k = 0 then F (.mk k n s ls args) d else .mk k n s ls (mapTs F (decide (4 ≤ k)) args d)
def mapTs (F : Trm → Int → Trm) (b : Bool) : List Trm → Int → List Trm
  | [], _ => []
  | t :: r, d => mapT F t (if b && r.isEmpty then d + 1 else d) :: mapTs F b r d
end
theorem mapTs_len (F : Trm → Int → Trm) (b : Bool) (d : Int) : ∀ l : List Trm, (mapTs F b l d).length = l.length
  | [] => by simp [mapTs]
  | t :: r => by simp [mapTs, mapTs_len F b d r]
theorem mapTs_get (F : Trm → Int → Trm) (b : Bool) (d : Int) : ∀ {l : List Trm} {i : Nat} {t : Trm}, l[i]? = some t → (mapTs F b l d)[i]? = some (mapT F t (if b = true ∧ i + 1 = l.length then d + 1 else d))
  | [], i, t, h => by simp at h
  | a :: r, 0, t, h => by
    simp at h; subst h
    simp only [mapTs, List.getElem?_cons_zero]
    cases r <;> simp
  | a :: r, i + 1, t, h => by
    have := mapTs_get F b d (l := r) (i := i) (t := t) (by simpa using h)
    simp only [mapTs, List.getElem?_cons_succ, this, List.length_cons, Nat.add_right_cancel_iff]
mutual
/-- P at each variable -/
def allV (P : Int → Int → Prop) : Trm → Int → Prop
  | .mk k n s ls args, d => if k = 0 then P n d else allVs P (decide (4 ≤ k)) args d
def allVs (P : Int → Int → Prop) (b : Bool) : List Trm → Int → Prop
  | [], _ => True
  | t :: r, d => allV P t (if b && r.isEmpty then d + 1 else d) ∧ allVs P b r d
end
/-- a variable's number is at most B -/
def numT (B : Int) (t : Trm) : Prop := allV (fun n _ => 0 ≤ n ∧ n ≤ B) t 0
/-- lifting -/
def liftF (m from' : Int) : Trm → Int → Trm
  | .mk k n s ls args, d => if n ≥ from' + d then .mk k (n + m) s ls args else .mk k n s ls args
def liftT (t : Trm) (m from' : Int) : Trm := if m = 0 then t else mapT (liftF m from') t 0
/-- a term in place of the free variable 0 -/
def instF (v : Trm) : Trm → Int → Trm
  | .mk k n s ls args, d => if n - d < 0 then .mk k n s ls args else if n - d < 1 then liftT v d 0 else .mk k (n - 1) s ls args
def substT (t v : Trm) : Trm := mapT (instF v) t 0
/-! rows of terms that are written one after the other -/
def zeroC : List D := [.v (.int .i64 0), .v (.int .i64 0), .v (.string .empty), .v (.slice none 0 0), .v (.slice none 0 0)]
def rowT (L : List Trm) (i n : Nat) : List (List D) := trms (L.take i) ++ List.replicate (n - i) zeroC
theorem rowT_len {L : List Trm} {i n : Nat} (h : i ≤ L.length) (hn : i ≤ n) : (rowT L i n).length = n := by
  simp only [rowT, List.length_append, trms_len, List.length_take, List.length_replicate]; omega
theorem rowT_set {L : List Trm} {i n : Nat} {t : Trm} (h : L[i]? = some t) (hn : i < n) : (rowT L i n).set i t.cells = rowT L (i + 1) n := by
  have hi := (List.getElem?_eq_some_iff.1 h).1
  have hl : (trms (L.take i)).length = i := by rw [trms_len, List.length_take]; omega
  unfold rowT
  rw [List.set_append_right _ _ (by omega), hl, Nat.sub_self, List.take_add_one, h]
  simp only [Option.toList_some, trms_app, List.append_assoc]
  rw [show n - i = (n - (i + 1)) + 1 by omega, List.replicate_succ]
  rfl
theorem rowT_end {L : List Trm} {n : Nat} (h : L.length = n) : rowT L n n = trms L := by
  unfold rowT
  rw [Nat.sub_self, List.take_of_length_le (by omega)]; simp
theorem sizeT_get : ∀ {l : List Trm} {i : Nat} {t : Trm}, l[i]? = some t → t.size ≤ sizesT l
  | [], i, t, h => by simp at h
  | a :: r, 0, t, h => by simp at h; subst h; simp [sizesT]
  | a :: r, i + 1, t, h => by
    have := sizeT_get (l := r) (i := i) (t := t) (by simpa using h)
    simp [sizesT]; omega
theorem sizesT_len : ∀ l : List Trm, l.length ≤ sizesT l
  | [] => by simp
  | .mk k n s ls args :: r => by have := sizesT_len r; simp [sizesT, Trm.size]; omega
theorem allVs_get {P : Int → Int → Prop} {b : Bool} {d : Int} : ∀ {l : List Trm} {i : Nat} {t : Trm}, allVs P b l d → l[i]? = some t → allV P t (if b = true ∧ i + 1 = l.length then d + 1 else d)
  | [], i, t, _, h => by simp at h
  | a :: r, 0, t, hp, h => by
    simp at h; subst h
    have := hp.1
    cases r <;> simpa using this
  | a :: r, i + 1, t, hp, h => by
    have := allVs_get (l := r) (i := i) (t := t) hp.2 (by simpa using h)
    simpa only [List.length_cons, Nat.add_right_cancel_iff] using this
mutual
theorem allV_any {P : Int → Prop} : ∀ (t : Trm) (d e : Int), allV (fun n _ => P n) t d → allV (fun n _ => P n) t e
  | .mk k n s ls args, d, e, h => by
    simp only [allV] at h ⊢
    by_cases hk : k = 0
    · rw [if_pos hk] at h ⊢; exact h
    · rw [if_neg hk] at h ⊢; exact allVs_any args _ d e h
theorem allVs_any {P : Int → Prop} : ∀ (l : List Trm) (b : Bool) (d e : Int), allVs (fun n _ => P n) b l d → allVs (fun n _ => P n) b l e
  | [], _, _, _, _ => trivial
  | t :: r, b, d, e, h => ⟨allV_any t _ _ h.1, allVs_any r b d e h.2⟩
end
theorem numT_get {B k n : Int} {s : ByteArray} {ls : List Lvl} {args : List Trm} {i : Nat} {t : Trm} (h : numT B (.mk k n s ls args)) (hk : ¬ k = 0) (hi : args[i]? = some t) : numT B t := by
  unfold numT at h ⊢
  simp only [allV, if_neg hk] at h
  exact allV_any _ _ _ (allVs_get h hi)
theorem numT_var {B n : Int} {s : ByteArray} {ls : List Lvl} {args : List Trm} (h : numT B (.mk 0 n s ls args)) : 0 ≤ n ∧ n ≤ B := by
  unfold numT at h
  simpa only [allV, if_true] using h
end Go.Proofs.YtneaancanfpdhaaGreatDoor
namespace Go.Proofs.YtneaancanfpdhaaGreatDoor
open Go Go.Vd Go.RowKit
mutual
/-- whether G holds of a part -/
def someT (G : Trm → Int → Bool) : Trm → Int → Bool
  | .mk k n s ls args, d => G (.mk k n s ls args) d || someTs G (decide (4 ≤ k)) args d
def someTs (G : Trm → Int → Bool) (b : Bool) : List Trm → Int → Bool
  | [], _ => false
  | t :: r, d => someT G t (if b && r.isEmpty then d + 1 else d) || someTs G b r d
end
theorem someTs_true {G : Trm → Int → Bool} {b : Bool} {d : Int} : ∀ {l : List Trm} {i : Nat} {t : Trm}, l[i]? = some t → someT G t (if b = true ∧ i + 1 = l.length then d + 1 else d) = true → someTs G b l d = true
  | [], i, t, h, _ => by simp at h
  | a :: r, 0, t, h, hg => by
    simp at h; subst h
    simp only [someTs, Bool.or_eq_true]
    left
    cases r <;> simpa using hg
  | a :: r, i + 1, t, h, hg => by
    simp only [someTs, Bool.or_eq_true]
    right
    exact someTs_true (l := r) (i := i) (t := t) (by simpa using h) (by simpa only [List.length_cons, Nat.add_right_cancel_iff] using hg)
theorem someTs_false {G : Trm → Int → Bool} {b : Bool} {d : Int} : ∀ {l : List Trm}, (∀ (i : Nat) t, l[i]? = some t → someT G t (if b = true ∧ i + 1 = l.length then d + 1 else d) = false) → someTs G b l d = false
  | [], _ => rfl
  | a :: r, h => by
    simp only [someTs, Bool.or_eq_false_iff]
    refine ⟨?_, someTs_false fun i t hi => ?_⟩
    · have := h 0 a rfl
      cases r <;> simpa using this
    · have := h (i + 1) t (by simpa using hi)
      simpa only [List.length_cons, Nat.add_right_cancel_iff] using this
/-- a variable's number is n or more -/
def openF (n : Int) : Trm → Int → Bool
  | .mk k m _ _ _, d => decide (k = 0) && decide (n + d ≤ m)
def closedT (t : Trm) (n : Int) : Bool := !someT (openF n) t 0
/-- the head, the arguments -/
def spineT : Trm → Trm × List Trm
  | .mk k n s ls [f, a] => if k = 3 then ((spineT f).1, (spineT f).2 ++ [a]) else (.mk k n s ls [f, a], [])
  | t => (t, [])
def applyT (f : Trm) (bs : List Trm) : Trm := bs.foldl (fun f a => .mk 3 0 .empty [] [f, a]) f
/-- an application has two parts, on the way to the head -/
def spOk : Trm → Prop
  | .mk k n s ls [f, a] => k = 3 → spOk f
  | .mk k n s ls _ => ¬ k = 3
theorem spOk_app {k n : Int} {s : ByteArray} {ls : List Lvl} {args : List Trm} (h : spOk (.mk k n s ls args)) (hk : k = 3) : ∃ k1 n1 s1 l1 a1 k2 n2 s2 l2 a2, args = [.mk k1 n1 s1 l1 a1, .mk k2 n2 s2 l2 a2] ∧ spOk (.mk k1 n1 s1 l1 a1) := by
  match args, h with
  | [⟨k1, n1, s1, l1, a1⟩, ⟨k2, n2, s2, l2, a2⟩], h => exact ⟨k1, n1, s1, l1, a1, k2, n2, s2, l2, a2, rfl, by simp only [spOk] at h; exact h hk⟩
  | [], h => exact absurd hk (by simpa only [spOk] using h)
  | [a], h => exact absurd hk (by simpa only [spOk] using h)
  | a :: b :: c :: r, h => exact absurd hk (by simpa only [spOk] using h)
theorem spine_app {n : Int} {s : ByteArray} {ls : List Lvl} {f a : Trm} : spineT (.mk 3 n s ls [f, a]) = ((spineT f).1, (spineT f).2 ++ [a]) := by
  simp only [spineT, if_true]
theorem spine_no {k n : Int} {s : ByteArray} {ls : List Lvl} {args : List Trm} (h : ¬ k = 3) : spineT (.mk k n s ls args) = (.mk k n s ls args, []) := by
  match args with
  | [f, a] => simp only [spineT, if_neg h]
  | [] => rfl
  | [a] => rfl
  | a :: b :: c :: r => rfl
end Go.Proofs.YtneaancanfpdhaaGreatDoor
namespace Go.Proofs.YtneaancanfpdhaaGreatDoor
open Go Go.Vd Go.RowKit
mutual
theorem mapT_self {F : Trm → Int → Trm} (hv : ∀ n s ls args (j : Int), F (.mk 0 n s ls args) j = .mk 0 n s ls args) : ∀ (t : Trm) (j : Int), mapT F t j = t
  | .mk k n s ls args, j => by
    by_cases hk : k = 0
    · subst hk
      rw [mapT, if_pos rfl, hv]
    · rw [mapT, if_neg hk, mapTs_self hv args]
theorem mapTs_self {F : Trm → Int → Trm} (hv : ∀ n s ls args (j : Int), F (.mk 0 n s ls args) j = .mk 0 n s ls args) : ∀ (l : List Trm) (b : Bool) (j : Int), mapTs F b l j = l
  | [], b, j => rfl
  | t :: r, b, j => by
    simp only [mapTs]
    rw [mapT_self hv t, mapTs_self hv r]
end
theorem liftT_map (t : Trm) (m fr : Int) : liftT t m fr = mapT (liftF m fr) t 0 := by
  unfold liftT
  split
  · rename_i h; subst h
    exact (mapT_self (fun n s ls args j => by rw [liftF]; split <;> simp) t 0).symm
  · rfl
theorem mapT_var (F : Trm → Int → Trm) (n : Int) (s : ByteArray) (ls : List Lvl) (args : List Trm) (j : Int) : mapT F (.mk 0 n s ls args) j = F (.mk 0 n s ls args) j := by rw [mapT, if_pos rfl]
end Go.Proofs.YtneaancanfpdhaaGreatDoor
