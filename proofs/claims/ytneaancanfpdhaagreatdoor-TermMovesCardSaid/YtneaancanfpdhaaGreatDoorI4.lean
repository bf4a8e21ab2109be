/-
  What is proved here, text by text: a number's digits. contracts of strings.Builder's methods. contracts of the program's Print of levels. contracts of the reference's reader: peek, name, number. contracts of the reference's reader: term, ParseTerm. the text of a term; what the reference's reader reads is a term that can be printed, and how long its text is. of what the reader reads: names, weights. declarations as data; what the reference's reader of files computes, in plain words. what the reference's reader of declarations makes of tokens, step by step. what is printed of a term is read again as that term. terms that were read stay such that can be printed when their variables are moved; what is printed of them is read again. contracts of the reference's Lift, Subst, Closed, Has: what the plain moves are. contracts of the reference's Subst. the rule for string(bytes) of a row of one's own; over any program. rules for a slice with no room behind it: a piece of a row, cut with its capacity; an append to it makes a new row; over any program. rows of a function's own that are written in place: made, looked at, written, appended to, and made data; over any program. a row that was written in place becomes data; append to a row that is written in place; over any program. append to a row that is written in place; over any program. contracts of the walk over a term's variables, with a closure over two places.
-/
import Derived.Test.YtneaancanfpdhaaGreatDoorI3
import Derived.Laws.BytesString
import Derived.Laws.Cells
import Derived.Laws.OwnMore
set_option linter.unusedSimpArgs false
set_option linter.unusedVariables false
namespace Go.Proofs.YtneaancanfpdhaaGreatDoor
open Go Go.Vd Go.RowKit
attribute [local irreducible] Runs OpsR OpR FloatR AnyR AnyO
variable {g gl : Nat → List D}
/-- a number's digits -/
def digR (n : Nat) : ByteArray := if h : n < 10 then ⟨#[UInt8.ofNat (48 + n % 10)]⟩ else digR (n / 10) ++ ⟨#[UInt8.ofNat (48 + n % 10)]⟩
theorem digR_one {n : Nat} (h : n < 10) : digR n = ⟨#[UInt8.ofNat (48 + n % 10)]⟩ := by rw [digR, dif_pos h]
theorem digR_more {n : Nat} (h : ¬ n < 10) : digR n = digR (n / 10) ++ ⟨#[UInt8.ofNat (48 + n % 10)]⟩ := by rw [digR, dif_neg h]
theorem digR_size (n : Nat) : (digR n).size ≤ n + 1 := by
  induction n using Nat.strongRecOn with
  | _ n ih =>
    by_cases h : n < 10
    · rw [digR_one h]; show 1 ≤ _; omega
    · rw [digR_more h, ByteArray.size_append]
      have := ih (n / 10) (by omega)
      have h1 : (ByteArray.mk #[UInt8.ofNat (48 + n % 10)]).size = 1 := rfl
      omega
end Go.Proofs.YtneaancanfpdhaaGreatDoor
namespace Go.Proofs.YtneaancanfpdhaaGreatDoor
open Go Go.Vd Go.RowKit
attribute [local irreducible] Runs OpsR OpR FloatR AnyR
variable {gl : Nat → List D}
/-- a builder: used or not, and what it holds -/
def bldA (used : Bool) : SV := cond used (.blk 0 0) (.d (.v (.pointer none)))
def bldO (used : Bool) (s : ByteArray) : List Ob := [.cells [bldA used, .own 1 1 (bytesD s)] 91, .row 5 1]
theorem noesc (y : Value) (w : World) : (callFunc 130 #[y]).run Tryz.prog w = .ok (.value y) w := by
  rw [run_callFunc_extern Tryz.func130 (by kernel_rfl) (by kernel_rfl) (by kernel_rfl) (e := Extern.AbiNoEscape.same) (by kernel_rfl)]
  rw [Lib.run_noEscape]
  rfl
theorem check_spec (used : Bool) (s : ByteArray) :
    Tri Tryz.prog gl 111 (bldO used s) [.blk 0 0] fun out ob' => out = .ret (.d (.tup [])) ∧ ob' = bldO true s := by
  cases used with
  | false =>
    unfold bldO bldA
    dsimp only [cond_true, cond_false]
    refine triS_of_runs Tryz.func111 rfl Tryz.ntmps111 (rs := []) rfl rfl rfl 2 rfl ?_
    refine sr ?_; refine o1 (mv ?_); refine o1 (ncb ?_); refine o1 (fdb ti91 ?_); refine o1 (ldb ti88 ?_); refine o1 (f_peql_nil up88 ?_); refine nx ?_; refine cdf (fun h0 => ?_) (fun h0 => ?_)
    · simp only [nrm, Int.reduceEq, Int.reduceNe, Int.reduceLT, Int.reduceLE] at h0
    (try simp only [nrm, Int.reduceEq, Int.reduceNe, Int.reduceLT, Int.reduceLE] at h0); refine kp [0] ?_; refine runs_region ?_; refine o1 (mv ?_); refine o1 (mv ?_)
    refine oc (T := fun _ => False) (op_to_unsafe up88 uu136 ti91 rfl rfl rfl rfl rfl rfl rfl ?_); refine oc (T := fun _ => False) (op_same noesc rfl rfl rfl rfl ?_)
    refine oc (T := fun _ => False) (op_from_unsafe uu136 up88 ti91 rfl (by kernel_rfl) rfl rfl rfl rfl rfl rfl ?_); refine o1 (ncb ?_); refine o1 (fdb ti91 ?_); refine oc (sto ti88 ?_); refine ops_nil ?_; refine fin_normal ?_
    refine fin_od (l := []) rfl rfl ([0, 1]) ([.cells [.blk 0 0, .own 1 1 (bytesD s)] 91, .row 5 1]) rfl rfl rfl ?_ ?_
    · repeat (first | exact boz | refine boc ?_ | refine bor ?_)
    · exact ⟨rfl, rfl⟩
  | true =>
    unfold bldO bldA
    dsimp only [cond_true, cond_false]
    refine triS_of_runs Tryz.func111 rfl Tryz.ntmps111 (rs := []) rfl rfl rfl 2 rfl ?_
    refine sr ?_; refine o1 (mv ?_); refine o1 (ncb ?_); refine o1 (fdb ti91 ?_); refine o1 (ldb ti88 ?_); refine o1 (f_peql_blk up88 ?_); refine nx ?_; refine cd (fun h0 => ?_) (fun h0 => ?_)
    · simp only [nrm, Int.reduceEq, Int.reduceNe, Int.reduceLT, Int.reduceLE] at h0
    (try simp only [nrm, Int.reduceEq, Int.reduceNe, Int.reduceLT, Int.reduceLE] at h0); refine kp [0] ?_; refine sr ?_; refine o1 (mv ?_); refine o1 (ncb ?_); refine o1 (fdb ti91 ?_); refine o1 (ldb ti88 ?_); refine o1 (mv ?_)
    refine o1 (f_pneq_self up88 ti91 ?_); refine nx ?_; refine cd (fun h2 => ?_) (fun h2 => ?_)
    · simp only [nrm, Int.reduceEq, Int.reduceNe, Int.reduceLT, Int.reduceLE] at h2
    (try simp only [nrm, Int.reduceEq, Int.reduceNe, Int.reduceLT, Int.reduceLE] at h2); refine runs_skip ?_; refine fin_normal ?_
    refine fin_od (l := []) rfl rfl ([0, 1]) ([.cells [.blk 0 0, .own 1 1 (bytesD s)] 91, .row 5 1]) rfl rfl rfl ?_ ?_
    · repeat (first | exact boz | refine boc ?_ | refine bor ?_)
    · exact ⟨rfl, rfl⟩
theorem ws_spec (used : Bool) (s t : ByteArray) (ht : t ≠ .empty) (hb : s.size + t.size ≤ 70368744177664) :
    Tri Tryz.prog gl 79 (bldO used s) [.blk 0 0, .d (.v (.string t))] fun out ob' => out = .ret (.d (.tup [.v (.int .i64 t.size), .v .nilIface])) ∧ ob' = bldO true (s ++ t) := by
  have hck := check_spec (gl := gl) used s
  cases used
  all_goals (
    unfold bldO bldA
    dsimp only [cond_true, cond_false]
    refine triS_of_runs Tryz.func79 rfl Tryz.ntmps79 (rs := [.tmp 4, .tmp 5]) rfl rfl rfl 2 rfl ?_
    refine sr ?_; refine o1 (asg ?_); refine o1 (asg ?_); refine nx ?_; refine sr ?_; refine o1 (mv ?_); refine oc (ck ca111 rfl rfl (hck) [0, 1] rfl (boc (bor .nil)) (fir .nil) ?_); refine nx ?_; refine kp [0, 1] ?_; refine sr ?_
    refine o1 (mv ?_); refine o1 (mv ?_); refine o1 (ncb ?_); refine o1 (fdb ti91 ?_); refine o1 (ldb ti89 ?_); refine o1 (mv ?_); refine oc (op_appends sl89 ut9 rfl rfl rfl rfl rfl rfl (.inl rfl) (ht) (by omega) rfl rfl rfl ?_)
    refine o1 (ncb ?_); refine o1 (fdb ti91 ?_); refine oc (sto ti89 ?_); refine nx ?_; refine kp [1] ?_; refine sr ?_; refine o1 (mv ?_); refine o1 (le3 ut9 ?_); refine o1 (asg ?_); refine o1 (asg ?_); refine nx ?_; refine runs_ret ?_
    refine fin_ret ?_; refine fin_od ⟨_, _, rfl, rfl, ⟨_, _, rfl, rfl, rfl⟩⟩ rfl ([0, 1]) ([.cells [.blk 0 0, .own 1 1 (bytesD (s ++ t))] 91, .row 5 1]) rfl rfl rfl ?_ ?_
    · repeat (first | exact boz | refine boc ?_ | refine bor ?_)
    · exact ⟨rfl, rfl⟩
  )
theorem bytesD_push (s : ByteArray) (c : UInt8) : bytesD s ++ [[.v (.int .u8 c.toNat)]] = bytesD (s ++ ⟨#[c]⟩) := by
  rw [← bytesD_app]; rfl
theorem wb_spec (used : Bool) (s : ByteArray) (c : UInt8) (hb : s.size ≤ 70368744177664) :
    Tri Tryz.prog gl 100 (bldO used s) [.blk 0 0, .d (.v (.int .u8 c.toNat))] fun out ob' => out = .ret (.d (.v .nilIface)) ∧ ob' = bldO true (s ++ ⟨#[c]⟩) := by
  have hl := bytesD_len s
  have hck := check_spec (gl := gl) used s
  cases used
  all_goals (
    unfold bldO bldA
    dsimp only [cond_true, cond_false]
    refine triS_of_runs Tryz.func100 rfl Tryz.ntmps100 (rs := [.tmp 4]) rfl rfl rfl 2 rfl ?_
    refine sr ?_; refine o1 (asg ?_); refine nx ?_; refine sr ?_; refine o1 (mv ?_); refine oc (ck ca111 rfl rfl (hck) [0, 1] rfl (boc (bor .nil)) (fir .nil) ?_); refine nx ?_; refine sr ?_; refine o1 (mv ?_); refine o1 (mv ?_)
    refine o1 (ncb ?_); refine o1 (fdb ti91 ?_); refine o1 (ldb ti89 ?_); refine o1 (mv ?_)
    refine oc (T := fun _ => False) (op_lit sl89 [.tmp 12] ti5 rfl rfl rfl rfl rfl rfl rfl (by decide) (by decide) (by decide) (by simp only [List.length_cons, List.length_nil, Nat.reduceAdd]; rfl) rfl ?_)
    refine oc (op_append sl89 rfl rfl rfl rfl rfl rfl rfl (.inl rfl) (by decide) (by simp) (by simp only [maxLen, hl, List.length_cons, List.length_nil]; omega) rfl rfl rfl ?_); refine o1 (ncb ?_); refine o1 (fdb ti91 ?_)
    refine oc (sto ti89 ?_); refine nx ?_; refine kp [] ?_; refine sr ?_; refine o1 (asg ?_); refine nx ?_; refine runs_ret ?_; refine fin_ret ?_
    refine fin_od ⟨_, _, rfl, rfl, rfl⟩ rfl ([0, 1]) ([.cells [.blk 0 0, .own 1 1 (bytesD s ++ [[.v (.int .u8 c.toNat)]])] 91, .row 5 1]) rfl rfl rfl ?_ ?_
    · repeat (first | exact boz | refine boc ?_ | refine bor ?_)
    · exact ⟨rfl, by rw [bytesD_push]⟩
  )
theorem bstr_spec (s : ByteArray) (hs : s ≠ .empty) :
    Tri Tryz.prog gl 67 (bldO true s) [.blk 0 0] fun out ob' => out = .ret (.d (.v (.string s))) ∧ ob' = [.dead, .dead] := by
  have hl := bytesD_len s
  have hne := bytesD_ne hs
  unfold bldO
  refine triS_of_runs Tryz.func67 rfl Tryz.ntmps67 (rs := [.tmp 2]) rfl rfl rfl 2 rfl ?_
  refine sr ?_; refine o1 (asg ?_); refine nx ?_; refine runs_seq ?_; refine a_start ?_ (hm := by exact mixed); refine A1 0 rfl (mv ⟨_, rfl, ?_⟩); refine A1 1 rfl (ncb ⟨_, rfl, ?_⟩); refine A1 2 rfl (fdb ti91 ⟨_, rfl, ?_⟩)
  refine A1 3 rfl (ldb ti89 ⟨_, rfl, ?_⟩); refine A1 4 rfl (f_usd ⟨_, rfl, ?_⟩ (hne := by exact hne)); refine A1 5 rfl (mv ⟨_, rfl, ?_⟩); refine A1 6 rfl (ncb ⟨_, rfl, ?_⟩); refine A1 7 rfl (fdb ti91 ⟨_, rfl, ?_⟩)
  refine A1 8 rfl (ldb ti89 ⟨_, rfl, ?_⟩); refine A1 9 rfl (le2 us89 ⟨_, rfl, ?_⟩); refine A2 10 rfl (op_ustr (u := 6) up123 (by kernel_rfl) rfl rfl rfl rfl rfl rfl rfl hs (by rw [hl]) rfl rfl ?_); refine A1 11 rfl (asg ⟨_, rfl, ?_⟩)
  refine a_end ?_; refine seq_normal ?_; refine runs_ret ?_; refine fin_ret ?_; refine fin_od ⟨_, _, rfl, rfl, rfl⟩ rfl ([0, 1]) ([.dead, .dead]) rfl rfl rfl ?_ ?_
  · repeat (first | exact boz | refine bod ?_)
  · exact ⟨rfl, rfl⟩
end Go.Proofs.YtneaancanfpdhaaGreatDoor
namespace Go.Proofs.YtneaancanfpdhaaGreatDoor
open Go Go.Vd Go.RowKit
attribute [local irreducible] Runs OpsR OpR FloatR AnyR
variable {gl : Nat → List D}
def word (k : Int) : ByteArray := if k = 1 then ⟨#[115]⟩ else if k = 2 then ⟨#[109, 97, 120]⟩ else if k = 3 then ⟨#[105, 109, 97, 120]⟩ else .empty
def wordsD : List D := [.v (.string .empty), .v (.string ⟨#[115]⟩), .v (.string ⟨#[109, 97, 120]⟩), .v (.string ⟨#[105, 109, 97, 120]⟩)]
theorem word_at {k : Int} (h0 : 0 ≤ k) (h1 : k < 4) (hw : gl 3 = wordsD) : ∃ r, dropO (k.toNat * 1) (gl 3) = some (.v (.string (word k)) :: r) := by
  rw [hw]
  have : k = 0 ∨ k = 1 ∨ k = 2 ∨ k = 3 := by omega
  rcases this with rfl | rfl | rfl | rfl <;> exact ⟨_, rfl⟩
theorem word_size (k : Int) : (word k).size ≤ 4 := by
  unfold word; split
  · decide
  · split
    · decide
    · split <;> decide
mutual
def wr : Lvl → ByteArray
  | .mk k s args => if k = 0 then ⟨#[48]⟩ else if k = 4 then s else ⟨#[40]⟩ ++ word k ++ wrL args ++ ⟨#[41]⟩
def wrL : List Lvl → ByteArray
  | [] => .empty
  | l :: r => ⟨#[32]⟩ ++ wr l ++ wrL r
end
theorem wrL_append (l m : List Lvl) : wrL (l ++ m) = wrL l ++ wrL m := by
  induction l with
  | nil => simp [wrL]
  | cons a r ih => simp only [List.cons_append, wrL, ih, ByteArray.append_assoc]
theorem wrL_take {l : List Lvl} {i : Nat} {a : Lvl} (h : l[i]? = some a) : wrL (l.take (i + 1)) = wrL (l.take i) ++ ⟨#[32]⟩ ++ wr a := by
  rw [List.take_add_one, h]; simp [wrL_append, wrL, ByteArray.append_assoc]
theorem wrL_take_le (l : List Lvl) (i : Nat) : (wrL (l.take i)).size ≤ (wrL l).size := by
  have : wrL l = wrL (l.take i) ++ wrL (l.drop i) := by rw [← wrL_append, List.take_append_drop]
  rw [this, ByteArray.size_append]; omega
theorem fit_get : ∀ {ls : List Lvl} {i : Nat} {l : Lvl}, fitL ls → ls[i]? = some l → fitP l
  | [], i, l, _, h => by simp at h
  | a :: r, 0, l, hf, h => by simp at h; subst h; exact hf.1
  | a :: r, i + 1, l, hf, h => fit_get hf.2 (by simpa using h)
theorem write_spec (hw : gl 3 = wordsD) : ∀ (n : Nat) (k : Int) (s : ByteArray) (args : List Lvl) (used : Bool) (b : ByteArray), (Lvl.mk k s args).size ≤ n → (Lvl.mk k s args).size ≤ 1099511627776 → fitP (Lvl.mk k s args) → b.size + (wr (.mk k s args)).size ≤ 35184372088832 →
    Tri Tryz.prog gl 117 (bldO used b) [.blk 0 0, .d (Lvl.mk k s args).d] fun out ob' => out = .ret (.d (.tup [])) ∧ ob' = bldO true (b ++ wr (.mk k s args)) := by
  intro n
  induction n with
  | zero => intro k s args used b h; simp [Lvl.size] at h
  | succ n ih =>
    intro k s args used b hn hb hf hsize
    have hsz : sizes args ≤ n := by simp [Lvl.size] at hn; omega
    have hlen := lvls_len args
    have hlb := lvls_size args
    simp only [Lvl.size] at hb
    obtain ⟨hf0, hf4, hfs, hfa⟩ := hf
    have hws := word_size k
    by_cases hk0 : k = 0
    · subst hk0
      have hck := ws_spec (gl := gl) used b ⟨#[48]⟩ (by decide) (by simp [size_mk]; omega)
      rw [show wr (.mk 0 s args) = ⟨#[48]⟩ by simp [wr]]
      cases used
      all_goals (
        unfold bldO bldA
        dsimp only [cond_true, cond_false]
        refine triS_of_runs Tryz.func117 rfl Tryz.ntmps117 (rs := []) rfl rfl rfl 2 rfl ?_
        refine sr ?_; refine oc (T := fun _ => False) (bx ti45 ?_ (hl := by simp only [List.length_cons, List.length_nil, Nat.reduceAdd]; rfl)); refine nx ?_; refine sr ?_; refine o1 (fdb ti45 ?_); refine o1 (ldb ti3 ?_); refine nx ?_
        refine runs_block ?_; refine sr ?_; refine o1 (ieq ?_); refine o1 (asg ?_); refine nx ?_; refine cdf (fun h10 => ?_) (fun h10 => ?_)
        · simp only [nrm, Int.reduceEq, Int.reduceNe, Int.reduceLT, Int.reduceLE] at h10
        (try simp only [nrm, Int.reduceEq, Int.reduceNe, Int.reduceLT, Int.reduceLE] at h10); refine kp [0] ?_; refine runs_region ?_; refine o1 (mv ?_); refine oc (ck ca79 rfl rfl (hck) [0, 1] rfl (boc (bor .nil)) (fir (fir .nil)) ?_)
        refine ops_nil ?_; refine inb_normal ?_; refine fin_normal ?_; refine fin_od (l := []) rfl rfl ([0, 1]) (bldO true (b ++ ⟨#[48]⟩)) rfl rfl rfl ?_ ?_
        · repeat (first | exact boz | refine boc ?_ | refine bor ?_)
        · exact ⟨rfl, rfl⟩
      )
    by_cases hk4 : k = 4
    · subst hk4
      rw [show wr (.mk 4 s args) = s by simp [wr]] at hsize ⊢
      have hck := ws_spec (gl := gl) used b s (hfs rfl) (by omega)
      cases used
      all_goals (
        unfold bldO bldA
        dsimp only [cond_true, cond_false]
        refine triS_of_runs Tryz.func117 rfl Tryz.ntmps117 (rs := []) rfl rfl rfl 2 rfl ?_
        refine sr ?_; refine oc (T := fun _ => False) (bx ti45 ?_ (hl := by simp only [List.length_cons, List.length_nil, Nat.reduceAdd]; rfl)); refine nx ?_; refine sr ?_; refine o1 (fdb ti45 ?_); refine o1 (ldb ti3 ?_); refine nx ?_
        refine runs_block ?_; refine sr ?_; refine o1 (ieq ?_); refine o1 (asg ?_); refine nx ?_; refine cd (fun h10 => ?_) (fun h10 => ?_)
        · simp only [nrm, Int.reduceEq, Int.reduceNe, Int.reduceLT, Int.reduceLE] at h10
        (try simp only [nrm, Int.reduceEq, Int.reduceNe, Int.reduceLT, Int.reduceLE] at h10); refine kp [7, 3, 0] ?_; refine sr ?_; refine o1 (ieq ?_); refine o1 (asg ?_); refine nx ?_; refine cdf (fun h12 => ?_) (fun h12 => ?_)
        · simp only [nrm, Int.reduceEq, Int.reduceNe, Int.reduceLT, Int.reduceLE] at h12
        (try simp only [nrm, Int.reduceEq, Int.reduceNe, Int.reduceLT, Int.reduceLE] at h12); refine runs_region ?_; refine o1 (mv ?_); refine o1 (fdb ti45 ?_); refine o1 (ldb ti9 ?_)
        refine oc (ck ca79 rfl rfl (hck) [0, 1] rfl (boc (bor .nil)) (fir (fir .nil)) ?_); refine ops_nil ?_; refine inb_normal ?_; refine fin_normal ?_; refine fin_od (l := []) rfl rfl ([0, 1]) (bldO true (b ++ s)) rfl rfl rfl ?_ ?_
        · repeat (first | exact boz | refine boc ?_ | refine bor ?_)
        · exact ⟨rfl, rfl⟩
      )
    have hwr : wr (.mk k s args) = ⟨#[40]⟩ ++ word k ++ wrL args ++ ⟨#[41]⟩ := by simp only [wr, if_neg hk0, if_neg hk4]
    rw [hwr] at hsize ⊢
    simp only [ByteArray.size_append, size_mk, List.size_toArray, List.length_cons, List.length_nil] at hsize
    obtain ⟨rr, hat⟩ := word_at (gl := gl) hf0 (show k < 4 by omega) hw
    have hck := ws_spec (gl := gl) used b (⟨#[40]⟩ ++ word k) (fun e => by have := congrArg ByteArray.size e; simp only [ByteArray.size_append, size_mk, List.size_toArray, List.length_cons, List.length_nil, ByteArray.size_empty] at this; omega) (by simp only [ByteArray.size_append, size_mk, List.size_toArray, List.length_cons, List.length_nil]; omega)
    cases used
    all_goals (
      unfold bldO bldA
      dsimp only [cond_true, cond_false]
      refine triS_of_runs Tryz.func117 rfl Tryz.ntmps117 (rs := []) rfl rfl rfl 2 rfl ?_
      refine sr ?_; refine oc (T := fun _ => False) (bx ti45 ?_ (hl := by simp only [List.length_cons, List.length_nil, Nat.reduceAdd]; rfl)); refine nx ?_; refine sr ?_; refine o1 (fdb ti45 ?_); refine o1 (ldb ti3 ?_); refine nx ?_
      refine runs_block ?_; refine sr ?_; refine o1 (ieq ?_); refine o1 (asg ?_); refine nx ?_; refine cd (fun h10 => ?_) (fun h10 => ?_)
      · (try simp only [nrm, Int.reduceEq, Int.reduceNe, Int.reduceLT, Int.reduceLE] at h10); contradiction
      (try simp only [nrm, Int.reduceEq, Int.reduceNe, Int.reduceLT, Int.reduceLE] at h10); refine kp [7, 3, 0] ?_; refine sr ?_; refine o1 (ieq ?_); refine o1 (asg ?_); refine nx ?_; refine cd (fun h12 => ?_) (fun h12 => ?_)
      · (try simp only [nrm, Int.reduceEq, Int.reduceNe, Int.reduceLT, Int.reduceLE] at h12); contradiction
      (try simp only [nrm, Int.reduceEq, Int.reduceNe, Int.reduceLT, Int.reduceLE] at h12); refine sr ?_; refine o1 (mv ?_); refine o1 (fdb ti45 ?_); refine o1 (ldb ti3 ?_); refine o1 (f_index_arr ua155 ti9 ?_ (hl := by exact (hat)))
      refine o1 (ldc ti9 ?_); refine o1 (f_sadd ?_ (hb := by (try simp only [ByteArray.size_append, size_mk, List.size_toArray, List.length_cons, List.length_nil]); omega))
      refine oc (ck ca79 rfl rfl (hck) [0, 1] rfl (boc (bor .nil)) (fir (fir .nil)) ?_); refine nx ?_; refine runs_seq ?_; refine kp [3, 0] ?_; refine sr ?_; refine o1 (fdb ti45 ?_); refine o1 (ldb ti28 ?_); refine o1 (le1 us28 ?_)
      refine o1 (mv ?_); refine nx ?_; refine runs_block ?_; refine kp [18, 17, 16, 0] ?_
      rw [show b ++ (⟨#[40]⟩ ++ word k) = b ++ (⟨#[40]⟩ ++ word k) ++ wrL (args.take 0) by simp [wrL]]
      apply runs_loop_o (ι := Nat) (fun i => [(18, int i)]) (fun i => [.cells [.blk 0 0, .own 1 1 (bytesD (b ++ (⟨#[40]⟩ ++ word k) ++ wrL (args.take i)))] 91, .row 5 1, .cells [.d (.v (.int .i64 k)), .d (.v (.string s)), .d (.sl 3 (lvls args))] 45]) [17, 16, 0] (fun i => i ≤ args.length) (fun i => args.length - i) (0) ([0, 1, 2])
      case hk => exact rfl
      case hI =>
        exact Nat.zero_le _
      case hm =>
        refine mo ?_ (sly (sly (sly (sly slz))))
        repeat (first | exact boz | refine boc ?_ | refine bor ?_)
      case h =>
        rintro i hinv
        try dsimp only at hinv
        refine kp [18, 17, 16, 0] ?_; refine sr ?_; refine o1 (ilt ?_); refine nx ?_; refine runs_seq ?_; refine cdf (fun h4 => ?_) (fun h4 => ?_)
        · (try simp only [nrm, Int.reduceEq, Int.reduceNe, Int.reduceLT, Int.reduceLE] at h4)
          refine runs_exit ?_; refine seq_exit ?_; refine seq_exit ?_; refine inb_exit ?_; refine seq_normal ?_; refine kp [0] ?_
          have hsl := wrL_take_le args i
          refine runs_region ?_; refine o1 (mv ?_)
          refine oc (ck ca100 rfl rfl (wb_spec true (b ++ (⟨#[40]⟩ ++ word k) ++ wrL (args.take i)) 41 (by simp only [ByteArray.size_append, size_mk, List.size_toArray, List.length_cons, List.length_nil]; omega)) [0, 1] rfl (boc (bor .nil)) (fir (fir .nil)) ?_)
          refine ops_nil ?_; refine inb_normal ?_; refine fin_normal ?_; refine fin_od (l := []) rfl rfl ([0, 1]) (bldO true (b ++ (⟨#[40]⟩ ++ word k) ++ wrL (args.take i) ++ ⟨#[41]⟩)) rfl rfl rfl ?_ ?_
          · repeat (first | exact boz | refine boc ?_ | refine bor ?_)
          · refine ⟨rfl, ?_⟩; rw [List.take_of_length_le (by omega)]; simp only [ByteArray.append_assoc]; rfl
        (try simp only [nrm, Int.reduceEq, Int.reduceNe, Int.reduceLT, Int.reduceLE] at h4); refine runs_skip ?_; refine seq_normal ?_; refine runs_seq ?_; refine runs_block ?_; refine runs_seq ?_
        obtain ⟨k', s', a', hget⟩ := lvl_get (show i < args.length by omega)
        have hsz' := size_get hget
        have hf' := fit_get hfa hget
        have hst := congrArg ByteArray.size (wrL_take hget)
        simp only [ByteArray.size_append, size_mk, List.size_toArray, List.length_cons, List.length_nil] at hst
        have hsl := wrL_take_le args (i + 1)
        refine runs_region ?_; refine o1 (ixs us28 te28 ?_ (he := by exact (lvl_at hget))); refine o1 (ldc ti45 ?_); refine oc (T := fun _ => False) (alc ti45 ?_ (hl := by simp only [List.length_cons, List.length_nil, Nat.reduceAdd]; rfl))
        refine oc (sto ti45 ?_); refine nx ?_; refine sr ?_; refine o1 (mv ?_)
        refine oc (ck ca100 rfl rfl (wb_spec true (b ++ (⟨#[40]⟩ ++ word k) ++ wrL (args.take i)) 32 (by simp only [ByteArray.size_append, size_mk, List.size_toArray, List.length_cons, List.length_nil]; omega)) [0, 1] rfl (boc (bor .nil)) (fir (fir .nil)) ?_)
        refine nx ?_; refine kp [5, 18, 17, 16, 0] ?_; refine runs_region ?_; refine o1 (mv ?_); refine o1 (ldb ti45 ?_)
        refine oc (ck ca117 rfl rfl (ih k' s' a' true (b ++ (⟨#[40]⟩ ++ word k) ++ wrL (args.take i) ++ ⟨#[32]⟩) (by omega) (by omega) hf' (by simp only [ByteArray.size_append, size_mk, List.size_toArray, List.length_cons, List.length_nil]; omega)) [0, 1] rfl (boc (bor .nil)) (fir (fid .nil)) ?_)
        refine ops_nil ?_; refine inb_normal ?_; refine seq_normal ?_; refine kp [18, 17, 16, 0] ?_; refine runs_region ?_; refine o1 (iad ?_); refine o1 (mv ?_); refine ops_nil ?_; refine seq_back ?_
        rw [show b ++ (⟨#[40]⟩ ++ word k) ++ wrL (args.take i) ++ ⟨#[32]⟩ ++ wr (.mk k' s' a') = b ++ (⟨#[40]⟩ ++ word k) ++ wrL (args.take (i + 1)) by rw [wrL_take hget]; simp only [ByteArray.append_assoc]]
        refine back_c (i + 1) rfl ?_ ([0, 1, 2]) ?_
        · exact ⟨by omega, by omega⟩
        · refine mo ?_ (sly (sly (sly (sly slz))))
          repeat (first | exact boz | refine boc ?_ | refine bor ?_)
    )
theorem wr_ne {k : Int} {s : ByteArray} {args : List Lvl} (h : fitP (.mk k s args)) : wr (.mk k s args) ≠ .empty := by
  simp only [wr]
  split
  · decide
  · split
    · rename_i h4; exact h.2.2.1 h4
    · intro e
      have := congrArg ByteArray.size e
      simp only [ByteArray.size_append, size_mk, List.size_toArray, List.length_cons, List.length_nil, ByteArray.size_empty] at this; omega
theorem pprint_spec (hw : gl 3 = wordsD) (k : Int) (s : ByteArray) (args : List Lvl) (hb : (Lvl.mk k s args).size ≤ 1099511627776) (hf : fitP (.mk k s args)) (hs : (wr (.mk k s args)).size ≤ 35184372088832) :
    TriD Tryz.prog gl 99 [(Lvl.mk k s args).d] (· = .v (.string (wr (.mk k s args)))) := by
  have hwe := write_spec (gl := gl) hw _ k s args false .empty (Nat.le_refl _) hb hf (by simpa using hs)
  rw [ByteArray.empty_append] at hwe
  refine triD_of_runs Tryz.func99 rfl Tryz.ntmps99 (rs := [.tmp 2]) rfl rfl rfl ?_
  refine sr ?_; refine oc (T := fun _ => False) (bx ti45 ?_ (hl := by simp only [List.length_cons, List.length_nil, Nat.reduceAdd]; rfl)); refine o1 (asg ?_); refine nx ?_; refine sr ?_
  refine oc (T := fun _ => False) (alc ti91 ?_ (hl := by simp only [List.length_cons, List.length_nil, Nat.reduceAdd]; rfl)); refine nx ?_; refine runs_seq ?_; refine runs_nilrow 5 1 rfl ?_; refine runs_region ?_; refine o1 (ldb ti45 ?_)
  refine oc (ck ca117 rfl rfl (hwe) [1, 2] rfl (.cons rfl (.cells rfl (by repeat (first | exact fiz | refine fir ?_ | refine .cons (.nil rfl) ?_))) (bon .nil)) (fir (fid .nil)) ?_); refine nx ?_; refine kp [3] ?_; refine sr ?_
  refine oc (ck ca67 rfl rfl (bstr_spec (wr (.mk k s args)) (wr_ne hf)) [1, 2] rfl (boc (bor .nil)) (fir .nil) ?_); refine o1 (asg ?_); refine nx ?_; refine runs_ret ?_; refine fin_ret ?_; refine fin_d1 rfl rfl ?_
  rfl
theorem wr_lev : ∀ l : Lev, wr l.toLvl = l.print
  | .zero => by simp [Lev.toLvl, wr, Lev.print]
  | .param s => by simp [Lev.toLvl, wr, Lev.print]
  | .succ a => by
    have h := wr_lev a
    simp only [Lev.toLvl, wr, wrL, Lev.print, h]
    rw [if_neg (by decide), if_neg (by decide), show (⟨#[40, 115, 32]⟩ : ByteArray) = ⟨#[40]⟩ ++ word 1 ++ ⟨#[32]⟩ by rfl]
    simp only [ByteArray.append_assoc, ByteArray.append_empty]
  | .max a b => by
    have h := wr_lev a
    have h2 := wr_lev b
    simp only [Lev.toLvl, wr, wrL, Lev.print, h, h2]
    rw [if_neg (by decide), if_neg (by decide), show (⟨#[109, 97, 120]⟩ : ByteArray) = word 2 by rfl]
    simp only [ByteArray.append_assoc, ByteArray.append_empty]
  | .imax a b => by
    have h := wr_lev a
    have h2 := wr_lev b
    simp only [Lev.toLvl, wr, wrL, Lev.print, h, h2]
    rw [if_neg (by decide), if_neg (by decide), show (⟨#[105, 109, 97, 120]⟩ : ByteArray) = word 3 by rfl]
    simp only [ByteArray.append_assoc, ByteArray.append_empty]
end Go.Proofs.YtneaancanfpdhaaGreatDoor
namespace Go.Proofs.YtneaancanfpdhaaGreatDoor
open Go Go.Vd Go.RowKit
attribute [local irreducible] Runs OpsR OpR FloatR AnyR
variable {gl : Nat → List D}
theorem peek_spec (s : ByteArray) (r : RS) (hs : s.size ≤ 1099511627776) (hp : r.p ≤ s.size) :
    Tri Tryz.prog gl 87 [rdO s r] [.blk 0 0] fun out ob' => out = .ret (.d (.v (.string (peekR s r)))) ∧ ob' = [rdO s r] := by
  obtain ⟨p, f⟩ := r
  simp only at hp
  cases f with
  | none =>
    refine triS_of_runs Tryz.func87 rfl Tryz.ntmps87 (rs := [.tmp 2]) rfl rfl rfl 1 rfl ?_
    refine sr ?_; refine o1 (asg ?_); refine nx ?_; refine sr ?_; refine o1 (mv ?_); refine oc (ck ca82 rfl rfl (token_spec s p (fcode none) (fat none) hs hp) [0] rfl (boc .nil) (fir .nil) ?_); refine o1 (mv ?_); refine o1 (ex2 ?_)
    refine o1 (ex2 ?_); refine o1 (ex2 ?_); refine o1 (asg ?_); refine o1 (asg ?_); refine o1 (asg ?_); refine nx ?_; refine runs_seq ?_; refine kp [5, 3, 0] ?_; refine sr ?_; refine o1 (mv ?_); refine o1 (f_not ?_); refine o1 (mv ?_)
    apply ops_or (yt := 20) (d := 14) 6 rfl rfl rfl (.none rfl) rfl rfl
    case h1 =>
      intro hb4 hK
      have hc := hb4; (try simp only [nrm, Int.reduceEq, Int.reduceNe, Int.reduceLT, Int.reduceLE, fcode, fat] at hc)
      refine gye ?_ (hbw := by exact hb4); refine o1 (mv ?_); refine gye ?_ (hbw := by exact hb4); refine o1 (ncb ?_); refine gye ?_ (hbw := by exact hb4); refine o1 (fdb ti71 ?_); refine gye ?_ (hbw := by exact hb4); refine o1 (fdb ti33 ?_)
      refine gye ?_ (hbw := by exact hb4); refine o1 (ldb ti3 ?_); refine gye ?_ (hbw := by exact hb4); refine o1 (ine ?_); exact hK [_, _, _, _, _, _] rfl rfl
    case h2 =>
      intro hb4 hK; refine gno ?_ (hbw := by exact hb4); refine gno ?_ (hbw := by exact hb4); refine gno ?_ (hbw := by exact hb4); refine gno ?_ (hbw := by exact hb4); refine gno ?_ (hbw := by exact hb4); refine gno ?_ (hbw := by exact hb4)
      exact hK [_, _, _, _, _, _] rfl
    refine nx ?_; refine cd (fun h2 => ?_) (fun h2 => ?_)
    · (try simp only [nrm, Int.reduceEq, Int.reduceNe, Int.reduceLT, Int.reduceLE, fcode, fat] at h2)
      refine kp [] ?_; refine sr ?_; refine o1 (asg ?_); refine nx ?_; refine runs_ret ?_; refine seq_ret ?_; refine fin_ret ?_; refine fin_od ⟨_, _, rfl, rfl, rfl⟩ rfl ([0]) ([rdO s ⟨p, none⟩]) rfl rfl rfl ?_ ?_
      · repeat (first | exact boz | refine boc ?_)
      · refine ⟨?_, rfl⟩; unfold peekR; dsimp only; rw [if_pos (by simp_all)]; rfl
    (try simp only [nrm, Int.reduceEq, Int.reduceNe, Int.reduceLT, Int.reduceLE, fcode, fat] at h2); refine runs_skip ?_; refine seq_normal ?_; refine kp [3] ?_; refine sr ?_; refine o1 (mv ?_); refine o1 (asg ?_); refine nx ?_
    refine runs_ret ?_; refine fin_ret ?_; refine fin_od ⟨_, _, rfl, rfl, rfl⟩ rfl ([0]) ([rdO s ⟨p, none⟩]) rfl rfl rfl ?_ ?_
    · repeat (first | exact boz | refine boc ?_)
    · refine ⟨?_, rfl⟩; unfold peekR; dsimp only; rw [if_neg (by simp_all)]
  | some a =>
    refine triS_of_runs Tryz.func87 rfl Tryz.ntmps87 (rs := [.tmp 2]) rfl rfl rfl 1 rfl ?_
    refine sr ?_; refine o1 (asg ?_); refine nx ?_; refine sr ?_; refine o1 (mv ?_); refine oc (ck ca82 rfl rfl (token_spec s p (fcode (some a)) (fat (some a)) hs hp) [0] rfl (boc .nil) (fir .nil) ?_); refine o1 (mv ?_); refine o1 (ex2 ?_)
    refine o1 (ex2 ?_); refine o1 (ex2 ?_); refine o1 (asg ?_); refine o1 (asg ?_); refine o1 (asg ?_); refine nx ?_; refine runs_seq ?_; refine kp [5, 3, 0] ?_; refine sr ?_; refine o1 (mv ?_); refine o1 (f_not ?_); refine o1 (mv ?_)
    apply ops_or (yt := 20) (d := 14) 6 rfl rfl rfl (.none rfl) rfl rfl
    case h1 =>
      intro hb4 hK
      have hc := hb4; (try simp only [nrm, Int.reduceEq, Int.reduceNe, Int.reduceLT, Int.reduceLE, fcode, fat] at hc)
      refine gye ?_ (hbw := by exact hb4); refine o1 (mv ?_); refine gye ?_ (hbw := by exact hb4); refine o1 (ncb ?_); refine gye ?_ (hbw := by exact hb4); refine o1 (fdb ti71 ?_); refine gye ?_ (hbw := by exact hb4); refine o1 (fdb ti33 ?_)
      refine gye ?_ (hbw := by exact hb4); refine o1 (ldb ti3 ?_); refine gye ?_ (hbw := by exact hb4); refine o1 (ine ?_); exact hK [_, _, _, _, _, _] rfl rfl
    case h2 =>
      intro hb4 hK; refine gno ?_ (hbw := by exact hb4); refine gno ?_ (hbw := by exact hb4); refine gno ?_ (hbw := by exact hb4); refine gno ?_ (hbw := by exact hb4); refine gno ?_ (hbw := by exact hb4); refine gno ?_ (hbw := by exact hb4)
      exact hK [_, _, _, _, _, _] rfl
    refine nx ?_; refine cdf (fun h2 => ?_) (fun h2 => ?_)
    · simp only [nrm, Int.reduceEq, Int.reduceNe, Int.reduceLT, Int.reduceLE, fcode, fat] at h2
    (try simp only [nrm, Int.reduceEq, Int.reduceNe, Int.reduceLT, Int.reduceLE, fcode, fat] at h2); refine kp [] ?_; refine sr ?_; refine o1 (asg ?_); refine nx ?_; refine runs_ret ?_; refine seq_ret ?_; refine fin_ret ?_
    refine fin_od ⟨_, _, rfl, rfl, rfl⟩ rfl ([0]) ([rdO s ⟨p, some a⟩]) rfl rfl rfl ?_ ?_
    · repeat (first | exact boz | refine boc ?_)
    · refine ⟨?_, rfl⟩; unfold peekR; dsimp only; rw [if_pos (by simp)]; rfl
theorem name_spec (s : ByteArray) (r : RS) (hs : s.size ≤ 1099511627776) (hp : r.p ≤ s.size) :
    Tri Tryz.prog gl 86 [rdO s r] [.blk 0 0] fun out ob' => out = .ret (.d (.v (.string (nameR s r).1))) ∧ ob' = [rdO s (nameR s r).2] := by
  have hat := tokR_at (s := s) hp
  obtain ⟨p, f⟩ := r
  simp only at hat hp
  cases f with
  | none =>
    refine triS_of_runs Tryz.func86 rfl Tryz.ntmps86 (rs := [.tmp 2]) rfl rfl rfl 1 rfl ?_
    refine sr ?_; refine o1 (asg ?_); refine nx ?_; refine sr ?_; refine o1 (mv ?_); refine oc (ck ca82 rfl rfl (token_spec s p (fcode none) (fat none) hs hp) [0] rfl (boc .nil) (fir .nil) ?_); refine o1 (mv ?_); refine o1 (ex2 ?_)
    refine o1 (ex2 ?_); refine o1 (ex2 ?_); refine o1 (asg ?_); refine o1 (asg ?_); refine o1 (asg ?_); refine nx ?_; refine kp [5, 4, 3, 0] ?_; refine sr ?_; refine o1 (mv ?_)
    refine oc (cv ca97 rfl rfl (isName_spec (tokR s p).1) (fir .nil) ?_); refine o1 (asg ?_); refine nx ?_; refine runs_seq ?_; refine sr ?_; refine o1 (mv ?_); refine o1 (f_not ?_); refine o1 (mv ?_)
    apply ops_or (yt := 19) (d := 17) 2 rfl rfl rfl (.none rfl) rfl rfl
    case h1 =>
      intro hb4 hK
      have hc := hb4; (try simp only [nrm, Int.reduceEq, Int.reduceNe, Int.reduceLT, Int.reduceLE, fcode, fat, RS.fail] at hc)
      refine gye ?_ (hbw := by exact hb4); refine o1 (mv ?_); refine gye ?_ (hbw := by exact hb4); refine o1 (f_not ?_); exact hK [_, _] rfl rfl
    case h2 =>
      intro hb4 hK; refine gno ?_ (hbw := by exact hb4); refine gno ?_ (hbw := by exact hb4); exact hK [_, _] rfl
    refine nx ?_; refine cd (fun h3 => ?_) (fun h3 => ?_)
    · (try simp only [nrm, Int.reduceEq, Int.reduceNe, Int.reduceLT, Int.reduceLE, fcode, fat, RS.fail] at h3)
      refine kp [4, 3, 0] ?_; refine runs_region ?_; refine o1 (mv ?_); refine o1 (mv ?_); refine oc (ck ca83 rfl rfl (fail_spec s (tokR s p).2.1 ⟨p, none⟩) [0] rfl (boc .nil) (fir (fir .nil)) ?_); refine nx ?_; refine runs_seq ?_; refine sr ?_
      refine o1 (mv ?_); refine o1 (ncb ?_); refine o1 (fdb ti71 ?_); refine o1 (fdb ti33 ?_); refine o1 (ldb ti3 ?_); refine o1 (ine ?_); refine nx ?_; refine cdf (fun h5 => ?_) (fun h5 => ?_)
      · simp only [nrm, Int.reduceEq, Int.reduceNe, Int.reduceLT, Int.reduceLE, fcode, fat, RS.fail] at h5
      (try simp only [nrm, Int.reduceEq, Int.reduceNe, Int.reduceLT, Int.reduceLE, fcode, fat, RS.fail] at h5); refine kp [] ?_; refine sr ?_; refine o1 (asg ?_); refine nx ?_; refine runs_ret ?_; refine seq_ret ?_; refine fin_ret ?_
      refine fin_od ⟨_, _, rfl, rfl, rfl⟩ rfl ([0]) ([rdO s (RS.fail (tokR s p).2.1 ⟨p, none⟩)]) rfl rfl rfl ?_ ?_
      · repeat (first | exact boz | refine boc ?_)
      · unfold nameR; simp only; rw [if_pos (by simp_all)]; exact ⟨rfl, rfl⟩
    (try simp only [nrm, Int.reduceEq, Int.reduceNe, Int.reduceLT, Int.reduceLE, fcode, fat, RS.fail] at h3); refine runs_skip ?_; refine seq_normal ?_; refine runs_seq ?_; refine kp [4, 3, 0] ?_; refine sr ?_; refine o1 (mv ?_)
    refine o1 (ncb ?_); refine o1 (fdb ti71 ?_); refine o1 (fdb ti33 ?_); refine o1 (ldb ti3 ?_); refine o1 (ine ?_); refine nx ?_; refine cd (fun h5 => ?_) (fun h5 => ?_)
    · simp only [nrm, Int.reduceEq, Int.reduceNe, Int.reduceLT, Int.reduceLE, fcode, fat, RS.fail] at h5
    (try simp only [nrm, Int.reduceEq, Int.reduceNe, Int.reduceLT, Int.reduceLE, fcode, fat, RS.fail] at h5); refine runs_skip ?_; refine seq_normal ?_; refine kp [4, 3, 0] ?_; refine sr ?_; refine o1 (mv ?_); refine o1 (mv ?_)
    refine o1 (mv ?_); refine o1 (le3 ut9 ?_); refine o1 (iad ?_); refine o1 (ncb ?_); refine o1 (fdb ti71 ?_); refine oc (sto ti3 ?_); refine nx ?_; refine kp [3] ?_; refine sr ?_; refine o1 (mv ?_); refine o1 (asg ?_); refine nx ?_
    refine runs_ret ?_; refine fin_ret ?_; refine fin_od ⟨_, _, rfl, rfl, rfl⟩ rfl ([0]) ([rdO s ⟨(tokR s p).2.1 + (tokR s p).1.size, none⟩]) rfl rfl rfl ?_ ?_
    · repeat (first | exact boz | refine boc ?_)
    · unfold nameR; simp only; rw [if_neg (by simp_all)]; exact ⟨rfl, rfl⟩
  | some a =>
    refine triS_of_runs Tryz.func86 rfl Tryz.ntmps86 (rs := [.tmp 2]) rfl rfl rfl 1 rfl ?_
    refine sr ?_; refine o1 (asg ?_); refine nx ?_; refine sr ?_; refine o1 (mv ?_); refine oc (ck ca82 rfl rfl (token_spec s p (fcode (some a)) (fat (some a)) hs hp) [0] rfl (boc .nil) (fir .nil) ?_); refine o1 (mv ?_); refine o1 (ex2 ?_)
    refine o1 (ex2 ?_); refine o1 (ex2 ?_); refine o1 (asg ?_); refine o1 (asg ?_); refine o1 (asg ?_); refine nx ?_; refine kp [5, 4, 3, 0] ?_; refine sr ?_; refine o1 (mv ?_)
    refine oc (cv ca97 rfl rfl (isName_spec (tokR s p).1) (fir .nil) ?_); refine o1 (asg ?_); refine nx ?_; refine runs_seq ?_; refine sr ?_; refine o1 (mv ?_); refine o1 (f_not ?_); refine o1 (mv ?_)
    apply ops_or (yt := 19) (d := 17) 2 rfl rfl rfl (.none rfl) rfl rfl
    case h1 =>
      intro hb4 hK
      have hc := hb4; (try simp only [nrm, Int.reduceEq, Int.reduceNe, Int.reduceLT, Int.reduceLE, fcode, fat, RS.fail] at hc)
      refine gye ?_ (hbw := by exact hb4); refine o1 (mv ?_); refine gye ?_ (hbw := by exact hb4); refine o1 (f_not ?_); exact hK [_, _] rfl rfl
    case h2 =>
      intro hb4 hK; refine gno ?_ (hbw := by exact hb4); refine gno ?_ (hbw := by exact hb4); exact hK [_, _] rfl
    refine nx ?_; refine cdf (fun h3 => ?_) (fun h3 => ?_)
    · (try simp only [nrm, Int.reduceEq, Int.reduceNe, Int.reduceLT, Int.reduceLE, fcode, fat, RS.fail] at h3)
      refine runs_skip ?_; refine seq_normal ?_; refine runs_seq ?_; refine kp [4, 3, 0] ?_; refine sr ?_; refine o1 (mv ?_); refine o1 (ncb ?_); refine o1 (fdb ti71 ?_); refine o1 (fdb ti33 ?_); refine o1 (ldb ti3 ?_); refine o1 (ine ?_)
      refine nx ?_; refine cdf (fun h5 => ?_) (fun h5 => ?_)
      · simp only [nrm, Int.reduceEq, Int.reduceNe, Int.reduceLT, Int.reduceLE, fcode, fat, RS.fail] at h5
      (try simp only [nrm, Int.reduceEq, Int.reduceNe, Int.reduceLT, Int.reduceLE, fcode, fat, RS.fail] at h5); refine kp [] ?_; refine sr ?_; refine o1 (asg ?_); refine nx ?_; refine runs_ret ?_; refine seq_ret ?_; refine fin_ret ?_
      refine fin_od ⟨_, _, rfl, rfl, rfl⟩ rfl ([0]) ([rdO s ⟨p, some a⟩]) rfl rfl rfl ?_ ?_
      · repeat (first | exact boz | refine boc ?_)
      · unfold nameR; simp only; split <;> exact ⟨rfl, rfl⟩
    (try simp only [nrm, Int.reduceEq, Int.reduceNe, Int.reduceLT, Int.reduceLE, fcode, fat, RS.fail] at h3); refine kp [4, 3, 0] ?_; refine runs_region ?_; refine o1 (mv ?_); refine o1 (mv ?_)
    refine oc (ck ca83 rfl rfl (fail_spec s (tokR s p).2.1 ⟨p, some a⟩) [0] rfl (boc .nil) (fir (fir .nil)) ?_); refine nx ?_; refine runs_seq ?_; refine sr ?_; refine o1 (mv ?_); refine o1 (ncb ?_); refine o1 (fdb ti71 ?_)
    refine o1 (fdb ti33 ?_); refine o1 (ldb ti3 ?_); refine o1 (ine ?_); refine nx ?_; refine cdf (fun h5 => ?_) (fun h5 => ?_)
    · simp only [nrm, Int.reduceEq, Int.reduceNe, Int.reduceLT, Int.reduceLE, fcode, fat, RS.fail] at h5
    (try simp only [nrm, Int.reduceEq, Int.reduceNe, Int.reduceLT, Int.reduceLE, fcode, fat, RS.fail] at h5); refine kp [] ?_; refine sr ?_; refine o1 (asg ?_); refine nx ?_; refine runs_ret ?_; refine seq_ret ?_; refine fin_ret ?_
    refine fin_od ⟨_, _, rfl, rfl, rfl⟩ rfl ([0]) ([rdO s ⟨p, some a⟩]) rfl rfl rfl ?_ ?_
    · repeat (first | exact boz | refine boc ?_)
    · unfold nameR; simp only; split <;> exact ⟨rfl, rfl⟩
theorem number_spec (t : ByteArray) (h5 : t.size ≤ 5) (hd : allDig t) : TriD Tryz.prog gl 85 [.v (.string t)] (· = .v (.int .i64 (numR t t.size))) := by
  refine triD_of_runs Tryz.func85 rfl Tryz.ntmps85 (rs := [.tmp 2]) rfl rfl rfl ?_
  refine sr ?_; refine o1 (asg ?_); refine nx ?_; refine sr ?_; refine o1 (asg ?_); refine nx ?_; refine runs_seq ?_; refine sr ?_; refine o1 (asg ?_); refine nx ?_; refine runs_block ?_; refine kp [4, 3, 0] ?_
  apply runs_loop_c (ι := Nat) (fun i => [(4, int i), (3, int (numR t i))]) [0] (fun i => i ≤ t.size) (fun i => t.size - i) (0)
  case hk => exact rfl
  case hI =>
    exact Nat.zero_le _
  case hm =>
    refine mo ?_ (sly (sly (sly slz))); exact boz
  case h =>
    rintro i hinv
    try dsimp only at hinv
    refine kp [4, 3, 0] ?_; refine runs_seq ?_; refine sr ?_; refine o1 (mv ?_); refine o1 (mv ?_); refine o1 (le3 ut9 ?_); refine o1 (ilt ?_); refine nx ?_; refine cdf (fun h3 => ?_) (fun h3 => ?_)
    · (try simp only [nrm, Int.reduceEq, Int.reduceNe, Int.reduceLT, Int.reduceLE] at h3)
      refine runs_exit ?_; refine seq_exit ?_; refine seq_exit ?_; refine inb_exit ?_; refine seq_normal ?_; refine kp [3] ?_; refine sr ?_; refine o1 (mv ?_); refine o1 (asg ?_); refine nx ?_; refine runs_ret ?_; refine fin_ret ?_
      refine fin_d1 rfl rfl ?_
      have hi : i = t.size := by omega
      subst hi
      rfl
    (try simp only [nrm, Int.reduceEq, Int.reduceNe, Int.reduceLT, Int.reduceLE] at h3); refine runs_skip ?_; refine seq_normal ?_; refine runs_seq ?_; refine runs_block ?_; refine kp [4, 3, 0] ?_
    have hdi := hd i (by omega)
    have hnb := numR_bound hd i (by omega) (by omega)
    have hw : IntKind.wrap .i64 (sub8 (byteAt t ((i : Nat) : Int).toNat) 48) = byteAt t i - 48 := by rw [Int.toNat_natCast, sub8_digit hdi]; exact wrap_digit (by omega)
    refine runs_region ?_; refine o1 (mv ?_); refine o1 (fl_mul rfl rfl rfl (by omega) ?_); refine o1 (mv ?_); refine o1 (mv ?_); refine o1 (byt ut9 ?_); refine o1 (fl_sub8 rfl rfl rfl ?_); refine o1 (fl_conv ui3 uo5 rfl rfl ?_)
    refine o1 (iad ?_); refine o1 (asg ?_); refine ops_nil ?_; refine inb_normal ?_; refine seq_normal ?_; refine kp [3, 4, 0] ?_; refine runs_region ?_; refine o1 (mv ?_); refine o1 (iad ?_); refine o1 (asg ?_); refine ops_nil ?_
    refine seq_back ?_
    rw [hw]
    refine back_i (i + 1) rfl ?_ ?_
    · exact ⟨by omega, by omega⟩
    · refine mo ?_ (sly (sly (sly slz)))
      exact boz
end Go.Proofs.YtneaancanfpdhaaGreatDoor
namespace Go.Proofs.YtneaancanfpdhaaGreatDoor
open Go Go.Vd Go.RowKit
attribute [local irreducible] Runs OpsR OpR FloatR AnyR
/-- the package's variables: the program's words (1), the reference's (0) -/
def glQ (g : Nat → List D) : Nat → List D
  | 1 => wordsT.map fun s => .v (.string s)
  | n => g n
def gl0 (g : Nat → List D) : Nat → List D
  | 0 => [strsD wordsT]
  | n => g n
abbrev glT (g : Nat → List D) : Nat → List D := glQ (gl0 g)
variable {g : Nat → List D}
theorem size_pos {s : ByteArray} (h : s ≠ .empty) : 0 < s.size := by
  rcases Nat.eq_zero_or_pos s.size with h1 | h1
  · exact absurd (ByteArray.size_eq_zero_iff.1 h1) h
  · exact h1
theorem fcode_n : fcode none = 0 := rfl
theorem fcode_none {f : Option Nat} : fcode f = 0 ↔ f = none := by cases f <;> simp [fcode]
theorem levels_stop {s : ByteArray} {r : RS} {m : Nat} (h : ¬ (fcode r.f = 0 ∧ ¬ peekR s r = ⟨#[41]⟩)) : levelsR m s r = ([], r) := by
  cases m with
  | zero => rfl
  | succ m => simp only [levelsR]; rw [if_neg (by rw [fcode_none] at h; exact h)]
theorem level_prog {s : ByteArray} {n : Nat} {r : RS} (hp : r.p ≤ s.size) (h1 : r.f = none) (h2 : (levelR (n + 1) s r).2.f = none) : r.p < (levelR (n + 1) s r).2.p := by
  obtain ⟨p, f⟩ := r
  simp only at h1 hp
  subst h1
  have hf : ∀ (q : RS) (x : Nat), (q.fail x).f ≠ none := by rintro ⟨a, f⟩ x; cases f <;> simp [RS.fail]
  have hat := tokR_at (s := s) hp
  have hnx : (tokR s p).1 ≠ .empty → p < (nextR s ⟨p, none⟩).2.p := fun h => by rw [nextR_ok h]; have := size_pos h; simp only; omega
  have hn1 := nextR_le (s := s) (r := ⟨p, none⟩) hp
  have hn2 := nextR_le (s := s) (r := (nextR s ⟨p, none⟩).2) hn1.2
  have hl1 := levelR_le (s := s) n (r := (nextR s (nextR s ⟨p, none⟩).2).2) hn2.2
  have hl2 := levelR_le (s := s) n (r := (levelR n s (nextR s (nextR s ⟨p, none⟩).2).2).2) hl1.2
  have ht1 := takeR_le (s := s) (w := ⟨#[41]⟩) hl1.2
  have ht2 := takeR_le (s := s) (w := ⟨#[41]⟩) hl2.2
  by_cases c0 : (tokR s p).1 = ⟨#[48]⟩
  · rw [levelR_zero c0]; exact hnx (by rw [c0]; decide)
  cases c1 : isNameB (tokR s p).1 with
  | true =>
    rw [levelR_name c0 c1]
    exact hnx (by intro e; rw [e] at c1; simp [isNameB] at c1)
  | false =>
    by_cases c2 : (tokR s p).1 = ⟨#[40]⟩
    · have h3 := hnx (by rw [c2]; decide)
      by_cases c3 : kindR (tokR s (nextR s ⟨p, none⟩).2.p).1 = 0
      · rw [levelR_kind c0 c1 c2 c3] at h2; exact absurd h2 (hf _ _)
      · by_cases c4 : kindR (tokR s (nextR s ⟨p, none⟩).2.p).1 = 1
        · rw [levelR_one c0 c1 c2 c4]; simp only at h3 ⊢; omega
        · rw [levelR_two c0 c1 c2 c3 c4]; simp only at h3 ⊢; omega
    · rw [levelR_else c0 c1 c2] at h2; exact absurd h2 (hf _ _)
theorem levels_step {s : ByteArray} {r0 r' : RS} {m : Nat} {acc : List Lvl} {x : Lvl} (hinv : r'.p ≤ s.size ∧ acc.length + m = s.size + 2 ∧ (r'.f = none → s.size - r'.p < m) ∧ levelsR (s.size + 2) s r0 = (acc ++ (levelsR m s r').1, (levelsR m s r').2))
    (h : fcode r'.f = 0 ∧ ¬ peekR s r' = ⟨#[41]⟩) (hX : (levelR (s.size + 1) s r').1 = x) :
    (levelR (s.size + 1) s r').2.p ≤ s.size ∧ (acc ++ [x]).length + (m - 1) = s.size + 2 ∧ ((levelR (s.size + 1) s r').2.f = none → s.size - (levelR (s.size + 1) s r').2.p < m - 1) ∧
      levelsR (s.size + 2) s r0 = (acc ++ [x] ++ (levelsR (m - 1) s (levelR (s.size + 1) s r').2).1, (levelsR (m - 1) s (levelR (s.size + 1) s r').2).2) := by
  rw [fcode_none] at h
  obtain ⟨h1, h2, h3, h4⟩ := hinv
  have hm := h3 h.1
  obtain ⟨m, rfl⟩ : ∃ k, m = k + 1 := ⟨m - 1, by omega⟩
  have hle := levelR_le (s := s) (s.size + 1) h1
  refine ⟨hle.2, by simp; omega, fun hf => by have := level_prog h1 h.1 hf; omega, ?_⟩
  rw [h4]
  simp only [levelsR]
  rw [if_pos h, ← hX]
  simp
theorem partsOf_le (k : Nat) : partsOf k ≤ 3 := by unfold partsOf; split; omega; split <;> omega
theorem term_spec (s : ByteArray) (hs : s.size ≤ 1099511627776) : ∀ (n : Nat) (r : RS), r.p ≤ s.size → s.size - r.p < n →
    Tri Tryz.prog (glT g) 42 [rdO s r] [.blk 0 0] fun out ob' => out = .ret (.d (termR n s r).1.d) ∧ ob' = [rdO s (termR n s r).2] := by
  intro n
  induction n with
  | zero => intro r _ h; omega
  | succ n ih =>
    intro r hp hn
    have hat := tokR_at (s := s) hp
    obtain ⟨p, f⟩ := r
    simp only at hat hp hn
    cases f with
    | some a =>
      refine triS_of_runs Tryz.func42 rfl Tryz.ntmps42 (rs := [.cell 2 31]) rfl rfl rfl 1 rfl ?_
      refine sr ?_; refine oc (T := fun _ => False) (alc ti31 ?_ (hl := by simp only [List.length_cons, List.length_nil, Nat.reduceAdd]; rfl)); refine nx ?_; refine sr ?_; refine o1 (mv ?_)
      refine oc (ck ca82 rfl rfl (token_spec s p (fcode (some a)) (fat (some a)) hs hp) [0] rfl (boc .nil) (fir .nil) ?_); refine o1 (mv ?_); refine o1 (ex2 ?_); refine o1 (ex2 ?_); refine o1 (ex2 ?_); refine o1 (asg ?_); refine o1 (asg ?_)
      refine o1 (asg ?_); refine nx ?_; refine runs_seq ?_; refine kp [5, 4, 3, 2, 0] ?_; refine sr ?_; refine o1 (mv ?_); refine o1 (ncb ?_); refine o1 (fdb ti71 ?_); refine o1 (fdb ti33 ?_); refine o1 (ldb ti3 ?_); refine o1 (ine ?_)
      refine nx ?_; refine cdf (fun h2 => ?_) (fun h2 => ?_)
      · simp only [nrm, Int.reduceEq, Int.reduceNe, Int.reduceLT, Int.reduceLE, fcode, fat] at h2
      (try simp only [nrm, Int.reduceEq, Int.reduceNe, Int.reduceLT, Int.reduceLE, fcode, fat] at h2); refine kp [2] ?_; refine sr ?_; refine o1 (bld ti31 ?_); refine oc (sto ti31 ?_); refine nx ?_; refine runs_ret ?_; refine seq_ret ?_
      refine fin_ret ?_; refine fin_odl ⟨_, _, rfl, (from_cell rfl rfl ti31 rfl rfl rfl rfl), rfl⟩ rfl (zeroT.d) (by repeat (first | exact .refl _ | exact .nil | refine .agg ?_ | refine .cons ?_ ?_)) ([0]) ([rdO s ⟨p, some a⟩]) rfl rfl rfl ?_ ?_
      · repeat (first | exact boz | refine boc ?_)
      · exact ⟨rfl, rfl⟩
    | none =>
      have hn1 := nextR_le (s := s) (r := ⟨p, none⟩) hp
      have hn2 := nextR_le (s := s) (r := (nextR s ⟨p, none⟩).2) hn1.2
      have hpos := size_pos (s := (tokR s p).1)
      have hash := tok_hash (s := s) hp
      have hwl : (strs wordsT).length = 7 := rfl
      have hwl2 : wordsT.length = 7 := rfl
      refine triS_of_runs Tryz.func42 rfl Tryz.ntmps42 (rs := [.cell 2 31]) rfl rfl rfl 1 rfl ?_
      refine sr ?_; refine oc (T := fun _ => False) (alc ti31 ?_ (hl := by simp only [List.length_cons, List.length_nil, Nat.reduceAdd]; rfl)); refine nx ?_; refine sr ?_; refine o1 (mv ?_)
      refine oc (ck ca82 rfl rfl (token_spec s p (fcode none) (fat none) hs hp) [0] rfl (boc .nil) (fir .nil) ?_); refine o1 (mv ?_); refine o1 (ex2 ?_); refine o1 (ex2 ?_); refine o1 (ex2 ?_); refine o1 (asg ?_); refine o1 (asg ?_)
      refine o1 (asg ?_); refine nx ?_; refine runs_seq ?_; refine kp [5, 4, 3, 2, 0] ?_; refine sr ?_; refine o1 (mv ?_); refine o1 (ncb ?_); refine o1 (fdb ti71 ?_); refine o1 (fdb ti33 ?_); refine o1 (ldb ti3 ?_); refine o1 (ine ?_)
      refine nx ?_; refine cd (fun h2 => ?_) (fun h2 => ?_)
      · simp only [nrm, Int.reduceEq, Int.reduceNe, Int.reduceLT, Int.reduceLE, fcode_n] at h2
      (try simp only [nrm, Int.reduceEq, Int.reduceNe, Int.reduceLT, Int.reduceLE, fcode_n] at h2); refine runs_skip ?_; refine seq_normal ?_; refine runs_seq ?_; refine kp [5, 4, 3, 2, 0] ?_; refine sr ?_; refine o1 (mv ?_); refine o1 (f_not ?_)
      refine o1 (mv ?_)
      apply ops_or (yt := 31) (d := 29) 2 rfl rfl rfl (.none rfl) rfl rfl
      case h1 =>
        intro hb4 hK
        have hc := hb4; (try simp only [nrm, Int.reduceEq, Int.reduceNe, Int.reduceLT, Int.reduceLE, fcode_n] at hc)
        refine gye ?_ (hbw := by exact hb4); refine o1 (mv ?_); refine gye ?_ (hbw := by exact hb4); refine o1 (seq1 ?_); exact hK [_, _] rfl rfl
      case h2 =>
        intro hb4 hK; refine gno ?_ (hbw := by exact hb4); refine gno ?_ (hbw := by exact hb4); exact hK [_, _] rfl
      refine o1 (mv ?_)
      apply ops_or (yt := 40) (d := 33) 7 rfl rfl rfl (.none rfl) rfl rfl
      case h1 =>
        intro hb12 hK
        have hc := hb12; (try simp only [nrm, Int.reduceEq, Int.reduceNe, Int.reduceLT, Int.reduceLE, fcode_n] at hc)
        refine gye ?_ (hbw := by exact hb12); refine o1 (mv ?_); refine gye ?_ (hbw := by exact hb12); refine o1 (byt ut9 ?_ (h01 := by have h1 := hpos hc.2; omega)); refine gye ?_ (hbw := by exact hb12); refine o1 (ine ?_)
        refine gye ?_ (hbw := by exact hb12); refine o1 (mv ?_)
        apply ops_and (yt := 39) (d := 37) 2 rfl rfl rfl (.yes rfl rfl rfl hb12) rfl rfl
        case h1 =>
          intro hb21 hK
          have hc := hb21; (try simp only [nrm, Int.reduceEq, Int.reduceNe, Int.reduceLT, Int.reduceLE, fcode_n] at hc)
          refine gye ?_ (hbw := by exact hb21); refine o1 (mv ?_); refine gye ?_ (hbw := by exact hb21); refine o1 (sne ?_); exact hK [_, _] rfl rfl
        case h2 =>
          intro hb21 hK; refine gno ?_ (hbw := by exact hb21); refine gno ?_ (hbw := by exact hb21); exact hK [_, _] rfl
        exact hK [_, _, _, _, _] rfl rfl
      case h2 =>
        intro hb12 hK; refine gno ?_ (hbw := by exact hb12); refine gno ?_ (hbw := by exact hb12); refine gno ?_ (hbw := by exact hb12); refine gno ?_ (hbw := by exact hb12); refine gud ?_; refine gud ?_; refine gno ?_ (hbw := by exact hb12)
        exact hK [_, _, _, _, _, _, _] rfl
      refine nx ?_; refine cd (fun h4 => ?_) (fun h4 => ?_)
      · (try simp only [nrm, Int.reduceEq, Int.reduceNe, Int.reduceLT, Int.reduceLE, fcode_n] at h4)
        refine kp [4, 2, 0] ?_; refine sr ?_; refine o1 (mv ?_); refine o1 (mv ?_); refine oc (ck ca83 rfl rfl (fail_spec s (tokR s p).2.1 ⟨p, none⟩) [0] rfl (boc .nil) (fir (fir .nil)) ?_); refine nx ?_; refine kp [2] ?_; refine sr ?_
        refine o1 (bld ti31 ?_); refine oc (sto ti31 ?_); refine nx ?_; refine runs_ret ?_; refine seq_ret ?_; refine fin_ret ?_
        refine fin_odl ⟨_, _, rfl, (from_cell rfl rfl ti31 rfl rfl rfl rfl), rfl⟩ rfl (zeroT.d) (by repeat (first | exact .refl _ | exact .nil | refine .agg ?_ | refine .cons ?_ ?_)) ([0]) ([rdO s ((RS.mk p none).fail (tokR s p).2.1)]) rfl rfl rfl ?_ ?_
        · repeat (first | exact boz | refine boc ?_)
        · rw [termR_bad (by rintro ⟨ha, hb⟩; rcases h4 with (h | h) | h; exact ha (tokR_empty h); exact ha h; rcases hb with hb | hb; exact h.1 hb; exact h.2 hb)]; exact ⟨rfl, rfl⟩
      (try simp only [nrm, Int.reduceEq, Int.reduceNe, Int.reduceLT, Int.reduceLE, fcode_n] at h4); refine runs_skip ?_; refine seq_normal ?_; refine kp [3, 2, 0] ?_; refine sr ?_; refine o1 (mv ?_)
      refine oc (ck ca84 rfl rfl (next_spec s ⟨p, none⟩ hs hp) [0] rfl (boc .nil) (fir .nil) ?_); refine nx ?_; refine runs_seq ?_; refine sr ?_; refine o1 (mv ?_); refine o1 (sne ?_); refine nx ?_; refine cd (fun h8 => ?_) (fun h8 => ?_)
      · (try simp only [nrm, Int.reduceEq, Int.reduceNe, Int.reduceLT, Int.reduceLE, fcode_n] at h8)
        refine runs_seq ?_; refine kp [3, 2] ?_
        have hh4 : headT (tokR s p).1 := ⟨h4.1.2, h4.2⟩
        have hh35 : byteAt (tokR s p).1 0 = 35 := by rcases h4.2 with h | h; exact h; exact absurd h h8
        have hhash := hash h4.1.2 hh35
        refine runs_region ?_; refine o1 (mv ?_); refine o1 (fl_sub_l ut9 rfl rfl rfl (by omega) ?_)
        refine oc (cv ca85 rfl rfl (number_spec ((tokR s p).1.extract 1 (tokR s p).1.size) (by rw [ByteArray.size_extract]; omega) hhash.2.2) (fir .nil) ?_); refine o1 (bld ti31 ?_); refine oc (sto ti31 ?_); refine nx ?_; refine runs_ret ?_
        refine seq_ret ?_; refine fin_ret ?_
        refine fin_odl ⟨_, _, rfl, (from_cell rfl rfl ti31 rfl rfl rfl rfl), rfl⟩ rfl ((Trm.mk 0 (numR ((tokR s p).1.extract 1 (tokR s p).1.size) ((tokR s p).1.extract 1 (tokR s p).1.size).size) .empty [] []).d) (by repeat (first | exact .refl _ | exact .nil | refine .agg ?_ | refine .cons ?_ ?_)) ([0]) ([rdO s (nextR s ⟨p, none⟩).2]) rfl rfl rfl ?_ ?_
        · repeat (first | exact boz | refine boc ?_)
        · rw [termR_num hh4 h8, show ((tokR s p).1.extract 1 (tokR s p).1.size).size = (tokR s p).1.size - 1 by rw [ByteArray.size_extract]; omega]; exact ⟨rfl, rfl⟩
      (try simp only [nrm, Int.reduceEq, Int.reduceNe, Int.reduceLT, Int.reduceLE, fcode_n] at h8); refine runs_skip ?_; refine seq_normal ?_; refine kp [2, 0] ?_; refine sr ?_; refine o1 (mv ?_)
      refine oc (ck ca82 rfl rfl (token_spec s (nextR s ⟨p, none⟩).2.p (fcode (nextR s ⟨p, none⟩).2.f) (fat (nextR s ⟨p, none⟩).2.f) hs hn1.2) [0] rfl (boc .nil) (fir .nil) ?_); refine o1 (mv ?_); refine o1 (ex2 ?_); refine o1 (ex2 ?_)
      refine o1 (ex2 ?_); refine o1 (asg ?_); refine o1 (asg ?_); refine o1 (asg ?_); refine nx ?_; refine kp [7, 6, 2, 0] ?_; refine sr ?_; refine o1 (asg ?_); refine nx ?_; refine runs_seq ?_; refine sr ?_; refine o1 (asg ?_); refine nx ?_
      refine runs_block ?_
      apply runs_loop_c (ι := Nat) (fun i => [(10, int i), (9, int (kindTo (tokR s (nextR s ⟨p, none⟩).2.p).1 i))]) [7, 6, 2, 0] (fun i => 1 ≤ i ∧ i ≤ 7) (fun i => 7 - i) (1)
      case hk => exact rfl
      case hI =>
        exact ⟨Nat.le_refl _, by omega⟩
      case hm =>
        refine mo ?_ (sly (slx rfl (by exact Fit.of_eq (by unfold kindTo; rw [show (if kindT (tokR s (nextR s ⟨p, none⟩).2.p).1 < 1 then kindT (tokR s (nextR s ⟨p, none⟩).2.p).1 else 0) = 0 by split <;> omega]; rfl)) (sly (sly (sly (sly slz))))))
        repeat (first | exact boz | refine boc ?_)
      case h =>
        rintro i hinv
        try dsimp only at hinv
        refine kp [10, 9, 7, 6, 2, 0] ?_; refine runs_seq ?_; refine sr ?_; refine o1 (mv ?_); refine o1 (ldc ti42 ?_); refine o1 (le1 us42 ?_); refine o1 (ilt ?_); refine nx ?_; refine cd (fun h13 => ?_) (fun h13 => ?_)
        · (try simp only [nrm, Int.reduceEq, Int.reduceNe, Int.reduceLT, Int.reduceLE, fcode_n] at h13)
          refine runs_skip ?_; refine seq_normal ?_; refine runs_seq ?_; refine runs_block ?_; refine kp [10, 9, 7, 6, 2, 0] ?_; refine sr ?_; refine o1 (ldc ti42 ?_); refine o1 (mv ?_)
          refine o1 (ixs us42 te42 ?_ (he := by exact (str_at (show i < wordsT.length by omega)))); refine o1 (ldc ti9 ?_); refine o1 (mv ?_); refine o1 (seq1 ?_); refine nx ?_; refine cdf (fun h15 => ?_) (fun h15 => ?_)
          · (try simp only [nrm, Int.reduceEq, Int.reduceNe, Int.reduceLT, Int.reduceLE, fcode_n] at h15)
            refine runs_skip ?_; refine inb_normal ?_; refine seq_normal ?_; refine kp [10, 9, 7, 6, 2, 0] ?_; refine runs_region ?_; refine o1 (mv ?_); refine o1 (iad ?_); refine o1 (asg ?_); refine ops_nil ?_; refine seq_back ?_
            refine back_i (i + 1) rfl ?_ ?_
            · exact ⟨⟨by omega, by omega⟩, by omega⟩
            · refine mo ?_ (sly (slx rfl (by exact Fit.of_eq (by (first | rw [kindTo_yes hinv.1 (by omega) h15] | rw [kindTo_no hinv.1 (by omega) h15]); rfl)) (sly (sly (sly (sly slz))))))
              repeat (first | exact boz | refine boc ?_)
          (try simp only [nrm, Int.reduceEq, Int.reduceNe, Int.reduceLT, Int.reduceLE, fcode_n] at h15); refine kp [10, 7, 6, 2, 0] ?_; refine runs_region ?_; refine o1 (mv ?_); refine o1 (asg ?_); refine ops_nil ?_; refine inb_normal ?_
          refine seq_normal ?_; refine runs_region ?_; refine o1 (mv ?_); refine o1 (iad ?_); refine o1 (asg ?_); refine ops_nil ?_; refine seq_back ?_; refine back_i (i + 1) rfl ?_ ?_
          · exact ⟨⟨by omega, by omega⟩, by omega⟩
          · refine mo ?_ (sly (slx rfl (by exact Fit.of_eq (by (first | rw [kindTo_yes hinv.1 (by omega) h15] | rw [kindTo_no hinv.1 (by omega) h15]); rfl)) (sly (sly (sly (sly slz))))))
            repeat (first | exact boz | refine boc ?_)
        (try simp only [nrm, Int.reduceEq, Int.reduceNe, Int.reduceLT, Int.reduceLE, fcode_n] at h13); refine runs_exit ?_; refine seq_exit ?_; refine seq_exit ?_; refine inb_exit ?_; refine seq_normal ?_; refine runs_seq ?_; refine runs_seq ?_
        refine kp [9, 7, 2, 0] ?_; obtain rfl : i = 7 := by omega
        rw [kindTo_7]
        have hkl := kindT_le (tokR s (nextR s ⟨p, none⟩).2.p).1
        generalize hk : kindT (tokR s (nextR s ⟨p, none⟩).2.p).1 = k at hkl ⊢
        refine runs_region ?_; refine o1 (mv ?_); refine o1 (ieq ?_); refine nx ?_; refine cd (fun h17 => ?_) (fun h17 => ?_)
        · (try simp only [nrm, Int.reduceEq, Int.reduceNe, Int.reduceLT, Int.reduceLE, fcode_n] at h17)
          refine sr ?_; refine o1 (mv ?_); refine o1 (mv ?_); refine oc (ck ca83 rfl rfl (fail_spec s (tokR s (nextR s ⟨p, none⟩).2.p).2.1 (nextR s ⟨p, none⟩).2) [0] rfl (boc .nil) (fir (fir .nil)) ?_); refine nx ?_; refine kp [2] ?_; refine sr ?_
          refine o1 (bld ti31 ?_); refine oc (sto ti31 ?_); refine nx ?_; refine runs_ret ?_; refine seq_ret ?_; refine fin_ret ?_
          refine fin_odl ⟨_, _, rfl, (from_cell rfl rfl ti31 rfl rfl rfl rfl), rfl⟩ rfl (zeroT.d) (by repeat (first | exact .refl _ | exact .nil | refine .agg ?_ | refine .cons ?_ ?_)) ([0]) ([rdO s ((nextR s ⟨p, none⟩).2.fail (tokR s (nextR s ⟨p, none⟩).2.p).2.1)]) rfl rfl rfl ?_ ?_
          · repeat (first | exact boz | refine boc ?_)
          · rw [termR_kind h8 (by omega)]; exact ⟨rfl, rfl⟩
        (try simp only [nrm, Int.reduceEq, Int.reduceNe, Int.reduceLT, Int.reduceLE, fcode_n] at h17); refine runs_skip ?_; refine seq_normal ?_; refine sr ?_; refine o1 (mv ?_)
        refine oc (ck ca84 rfl rfl (next_spec s (nextR s ⟨p, none⟩).2 hs hn1.2) [0] rfl (boc .nil) (fir .nil) ?_); refine nx ?_; refine kp [9, 2, 0] ?_; refine sr ?_; refine o1 (mv ?_); refine o1 (bld ti31 ?_)
        refine oc (T := fun _ => False) (alc ti31 ?_ (hl := by simp only [List.length_cons, List.length_nil, Nat.reduceAdd]; rfl)); refine oc (sto ti31 ?_); refine nx ?_; refine runs_seq ?_; refine runs_nilrow 31 5 rfl ?_; refine runs_region ?_
        refine o1 (asg ?_); refine nx ?_; refine runs_seq ?_; refine sr ?_; refine o1 (mv ?_); refine nx ?_; refine kp [83, 12, 11, 2, 0] ?_
        apply runs_cut_o (ι := ByteArray × List Lvl × RS) (fun ⟨nm, L, r3⟩ => [(12, int (partsOf k))]) (fun ⟨nm, L, r3⟩ => [rdO s r3, .cells [.d (.v (.int .i64 0)), .d (.v (.int .i64 0)), .d (.v (.string .empty)), .d (.v (.slice none 0 0)), .d (.v (.slice none 0 0))] 31, .cells [.d (.v (.int .i64 k)), .d (.v (.int .i64 0)), .d (.v (.string nm)), .own 3 3 (lvls L), .d (.v (.slice none 0 0))] 31, .row 45 3, .nilrow 31 5]) [11, 2, 0] (fun ⟨nm, L, r3⟩ => headR s k (nextR s (nextR s ⟨p, none⟩).2).2 = (nm, L, r3))
        case hk => exact rfl
        case h1 =>
          refine runs_block ?_; refine sr ?_; refine o1 (ieq ?_); refine o1 (asg ?_); refine nx ?_; refine cd (fun h24 => ?_) (fun h24 => ?_)
          · (try simp only [nrm, Int.reduceEq, Int.reduceNe, Int.reduceLT, Int.reduceLE, fcode_n] at h24)
            refine runs_seq ?_; refine kp [11, 2, 0] ?_; obtain ⟨k1, s1, a1, hX⟩ := Lvl.case (levelR (s.size + 1) s (nextR s (nextR s ⟨p, none⟩).2).2).1; refine a_start ?_ (hm := by exact mixed); refine A1 0 rfl (fdb ti31 ⟨_, rfl, ?_⟩)
            refine A1 1 rfl (ldb ti28 ⟨_, rfl, ?_⟩); refine A1 2 rfl (mv ⟨_, rfl, ?_⟩)
            refine A2 3 rfl (op_callo ca60 rfl rfl rfl rfl (level_spec s hs (s.size + 1) (nextR s (nextR s ⟨p, none⟩).2).2 hn2.2 (by omega)) [0] (boc .nil) rfl rfl rfl rfl (fir .nil) (fun s ob' hq => ?_) (fun s ob' hq => ?_))
            rotate_left
            · first | exact hq.elim | cases hq.1
            obtain ⟨hq1, rfl⟩ := hq; rw [hX] at hq1; cases hq1; refine ⟨_, _, _, _, _, rfl, rfl, rfl, rfl, rfl, ?_⟩
            refine A2 (T := fun _ => False) 4 rfl (op_lit sl28 [.tmp 89] ti45 rfl rfl rfl rfl rfl rfl rfl (by decide) (by decide) (by decide) (by simp only [List.length_cons, List.length_nil, Nat.reduceAdd]; rfl) rfl ?_)
            refine A2 (T := fun _ => False) 5 rfl (op_append_nil sl28 rfl rfl rfl rfl rfl rfl (by simp only [List.length_cons, List.length_nil, Nat.reduceAdd]; rfl) rfl rfl (by decide) (by simp) (by first | decide | (simp only [maxLen, List.length_cons, List.length_nil, List.length_append, List.length_map]; omega) | omega) rfl rfl rfl ?_)
            refine A1 6 rfl (fdb ti31 ⟨_, rfl, ?_⟩); refine A2 7 rfl (sto ti28 ?_); refine a_end ?_; refine seq_normal ?_; refine kp [11, 2, 0] ?_; refine runs_region ?_; refine o1 (asg ?_); refine ops_nil ?_; refine inb_normal ?_; refine seq_back ?_
            refine back_c ((.empty, [Lvl.mk k1 s1 a1], (levelR (s.size + 1) s (nextR s (nextR s ⟨p, none⟩).2).2).2)) rfl ?_ ([0, 1, 2, 5, 3]) ?_
            · unfold headR; rw [if_pos (by omega), hX]
            · refine mo ?_ (slx rfl (by exact Fit.of_eq (by unfold partsOf; first | (rw [if_pos (by omega)]; rfl) | (rw [if_neg (by omega), if_pos (by omega)]; rfl) | (rw [if_neg (by omega), if_neg (by omega)]; rfl))) (sly (sly (sly slz))))
              repeat (first | exact boz | refine boc ?_ | refine bor ?_ | refine bonn ?_)
          (try simp only [nrm, Int.reduceEq, Int.reduceNe, Int.reduceLT, Int.reduceLE, fcode_n] at h24); refine sr ?_; refine o1 (ieq ?_); refine o1 (asg ?_); refine nx ?_; refine cdf (fun h27 => ?_) (fun h27 => ?_)
          · (try simp only [nrm, Int.reduceEq, Int.reduceNe, Int.reduceLT, Int.reduceLE, fcode_n] at h27)
            refine runs_seq ?_; refine kp [83, 12, 11, 2, 0] ?_; refine runs_nilrow 45 3 rfl ?_; refine runs_region ?_; refine o1 (ieq ?_); refine o1 (asg ?_); refine nx ?_; refine cdf (fun h32 => ?_) (fun h32 => ?_)
            · (try simp only [nrm, Int.reduceEq, Int.reduceNe, Int.reduceLT, Int.reduceLE, fcode_n] at h32)
              refine runs_skip ?_; refine inb_normal ?_; refine seq_back ?_; refine back_c ((.empty, [], (nextR s (nextR s ⟨p, none⟩).2).2)) rfl ?_ ([0, 1, 2, 4, 3]) ?_
              · unfold headR; rw [if_neg (by omega), if_neg (by omega)]
              · refine mo ?_ (slx rfl (by exact Fit.of_eq (by unfold partsOf; first | (rw [if_pos (by omega)]; rfl) | (rw [if_neg (by omega), if_pos (by omega)]; rfl) | (rw [if_neg (by omega), if_neg (by omega)]; rfl))) (sly (sly (sly slz))))
                repeat (first | exact boz | exact fiz | refine boc ?_ | refine bonn ?_ | refine bon ?_ | refine boe ?_ ?_ | refine fir ?_ | refine .cons (.nil rfl) ?_)
            (try simp only [nrm, Int.reduceEq, Int.reduceNe, Int.reduceLT, Int.reduceLE, fcode_n] at h32); refine kp [11, 2, 0] ?_; refine runs_region ?_; refine o1 (asg ?_); refine ops_nil ?_; refine inb_normal ?_; refine seq_back ?_
            refine back_c ((.empty, [], (nextR s (nextR s ⟨p, none⟩).2).2)) rfl ?_ ([0, 1, 2, 4, 3]) ?_
            · unfold headR; rw [if_neg (by omega), if_neg (by omega)]
            · refine mo ?_ (slx rfl (by exact Fit.of_eq (by unfold partsOf; first | (rw [if_pos (by omega)]; rfl) | (rw [if_neg (by omega), if_pos (by omega)]; rfl) | (rw [if_neg (by omega), if_neg (by omega)]; rfl))) (sly (sly (sly slz))))
              repeat (first | exact boz | exact fiz | refine boc ?_ | refine bonn ?_ | refine bon ?_ | refine boe ?_ ?_ | refine fir ?_ | refine .cons (.nil rfl) ?_)
          (try simp only [nrm, Int.reduceEq, Int.reduceNe, Int.reduceLT, Int.reduceLE, fcode_n] at h27); refine runs_seq ?_; refine kp [11, 2, 0] ?_
          have hnm := nameR_le (s := s) (r := (nextR s (nextR s ⟨p, none⟩).2).2) hn2.2
          refine runs_region ?_; refine o1 (mv ?_); refine oc (ck ca86 rfl rfl (name_spec s (nextR s (nextR s ⟨p, none⟩).2).2 hs hn2.2) [0] rfl (boc .nil) (fir .nil) ?_); refine o1 (fdb ti31 ?_); refine oc (sto ti9 ?_); refine nx ?_; refine sr ?_
          refine o1 (asg ?_); refine nx ?_; refine runs_block ?_; refine kp [12, 11, 2, 0] ?_; refine runs_nilrow 45 3 rfl ?_
          apply runs_loop_o (ι := Nat × List Lvl × RS) (fun ⟨m, acc, r'⟩ => []) (fun ⟨m, acc, r'⟩ => [rdO s r', .cells [.d (.v (.int .i64 0)), .d (.v (.int .i64 0)), .d (.v (.string .empty)), .d (.v (.slice none 0 0)), .d (.v (.slice none 0 0))] 31, .cells [.d (.v (.int .i64 k)), .d (.v (.int .i64 0)), .d (.v (.string (nameR s (nextR s (nextR s ⟨p, none⟩).2).2).1)), .own 4 3 (lvls acc), .d (.v (.slice none 0 0))] 31, .nilrow 31 5, .row 45 3]) [12, 11, 2, 0] (fun ⟨m, acc, r'⟩ => r'.p ≤ s.size ∧ acc.length + m = s.size + 2 ∧ (r'.f = none → s.size - r'.p < m) ∧ levelsR (s.size + 2) s (nameR s (nextR s (nextR s ⟨p, none⟩).2).2).2 = (acc ++ (levelsR m s r').1, (levelsR m s r').2)) (fun ⟨m, acc, r'⟩ => m) ((s.size + 2, [], (nameR s (nextR s (nextR s ⟨p, none⟩).2).2).2)) ([0, 1, 2, 3, 4])
          case hk => exact rfl
          case hI =>
            exact ⟨hnm.2, by simp, fun _ => by omega, rfl⟩
          case hm =>
            refine mo ?_ (sly (sly (sly (sly slz))))
            repeat (first | exact boz | exact fiz | refine boc ?_ | refine bonn ?_ | refine bon ?_ | refine boe ?_ ?_ | refine fir ?_ | refine .cons (.nil rfl) ?_)
          case h =>
            rintro ⟨m, acc, r'⟩ hinv
            try dsimp only at hinv
            refine kp [12, 11, 2, 0] ?_; refine runs_seq ?_; refine sr ?_; refine o1 (mv ?_); refine o1 (ncb ?_); refine o1 (fdb ti71 ?_); refine o1 (fdb ti33 ?_); refine o1 (ldb ti3 ?_); refine o1 (ieq ?_); refine o1 (mv ?_)
            apply ops_and (yt := 107) (d := 104) 3 rfl rfl rfl (.none rfl) rfl rfl
            case h1 =>
              intro hb13 hK
              have hc := hb13; (try simp only [nrm, Int.reduceEq, Int.reduceNe, Int.reduceLT, Int.reduceLE, fcode_n] at hc)
              refine gye ?_ (hbw := by exact hb13); refine o1 (mv ?_); refine gye ?_ (hbw := by exact hb13); refine oc (ck ca87 rfl rfl (peek_spec s r' hs hinv.1) [0] rfl (boc .nil) (fir .nil) ?_); refine gye ?_ (hbw := by exact hb13); refine o1 (sne ?_)
              exact hK [_, _, _] rfl rfl
            case h2 =>
              intro hb13 hK; refine gno ?_ (hbw := by exact hb13); refine gno ?_ (hbw := by exact hb13); refine gno ?_ (hbw := by exact hb13); exact hK [_, _, _] rfl
            refine nx ?_; refine cdf (fun h30 => ?_) (fun h30 => ?_)
            · (try simp only [nrm, Int.reduceEq, Int.reduceNe, Int.reduceLT, Int.reduceLE, fcode_n] at h30)
              refine runs_exit ?_; refine seq_exit ?_; refine seq_exit ?_; refine inb_exit ?_; refine inb_normal ?_; refine seq_back ?_; refine back_c (((nameR s (nextR s (nextR s ⟨p, none⟩).2).2).1, acc, r')) rfl ?_ ([0, 1, 2, 4, 3]) ?_
              · unfold headR; rw [if_neg (by omega), if_pos (by omega), hinv.2.2.2, levels_stop (by rintro ⟨ha, hb⟩; rcases h30 with h | h; exact h ha; exact hb h), List.append_nil]
              · refine mo ?_ (slx rfl (by exact Fit.of_eq (by unfold partsOf; first | (rw [if_pos (by omega)]; rfl) | (rw [if_neg (by omega), if_pos (by omega)]; rfl) | (rw [if_neg (by omega), if_neg (by omega)]; rfl))) (sly (sly (sly slz))))
                repeat (first | exact boz | refine boc ?_ | refine bor ?_ | refine bonn ?_)
            (try simp only [nrm, Int.reduceEq, Int.reduceNe, Int.reduceLT, Int.reduceLE, fcode_n] at h30); refine runs_skip ?_; refine seq_normal ?_; refine runs_block ?_; refine kp [12, 11, 2, 0] ?_
            obtain ⟨k1, s1, a1, hX⟩ := Lvl.case (levelR (s.size + 1) s r').1
            have hm1 := hinv.2.2.1 (fcode_none.1 h30.1)
            have hln := lvls_len acc
            have hlast : lvls acc ++ [[.v (.int .i64 k1), .v (.string s1), .sl 3 (lvls a1)]] = lvls (acc ++ [Lvl.mk k1 s1 a1]) := by rw [lvls_app]; rfl
            refine a_start ?_ (hm := by exact mixed); refine A1 0 rfl (fdb ti31 ⟨_, rfl, ?_⟩); refine A1 1 rfl (ldb ti28 ⟨_, rfl, ?_⟩); refine A1 2 rfl (mv ⟨_, rfl, ?_⟩)
            refine A2 3 rfl (op_callo ca60 rfl rfl rfl rfl (level_spec s hs (s.size + 1) r' hinv.1 (by omega)) [0] (boc .nil) rfl rfl rfl rfl (fir .nil) (fun s ob' hq => ?_) (fun s ob' hq => ?_))
            rotate_left
            · first | exact hq.elim | cases hq.1
            obtain ⟨hq1, rfl⟩ := hq; rw [hX] at hq1; cases hq1; refine ⟨_, _, _, _, _, rfl, rfl, rfl, rfl, rfl, ?_⟩
            refine A2 (T := fun _ => False) 4 rfl (op_lit sl28 [.tmp 112] ti45 rfl rfl rfl rfl rfl rfl rfl (by decide) (by decide) (by decide) (by simp only [List.length_cons, List.length_nil, Nat.reduceAdd]; rfl) rfl ?_)
            refine A2 5 rfl (op_append sl28 rfl rfl rfl rfl rfl rfl rfl (.inl rfl) (by decide) (by simp) (by first | decide | (simp only [maxLen, List.length_cons, List.length_nil, List.length_append, List.length_map]; omega) | omega) rfl rfl rfl ?_)
            refine A1 6 rfl (fdb ti31 ⟨_, rfl, ?_⟩); refine A2 7 rfl (sto ti28 ?_); refine a_end ?_; refine inb_normal ?_; refine seq_back ?_
            rw [hlast]
            refine back_c ((m - 1, acc ++ [Lvl.mk k1 s1 a1], (levelR (s.size + 1) s r').2)) rfl ?_ ([0, 1, 2, 3, 4]) ?_
            · exact ⟨levels_step hinv h30 hX, show m - 1 < m by omega⟩
            · refine mo ?_ (sly (sly (sly (sly slz))))
              repeat (first | exact boz | refine boc ?_ | refine bor ?_ | refine bonn ?_)
        case h2 =>
          rintro ⟨nm, L, r3⟩ hcut
          try dsimp only at hcut
          refine kp [12, 11, 2, 0] ?_; refine runs_seq ?_; refine runs_seq ?_
          have hh3 := headR_le (s := s) k (r := (nextR s (nextR s ⟨p, none⟩).2).2) hn2.2
          rw [hcut] at hh3
          dsimp only at hh3
          have hpl := partsOf_le k
          refine runs_region ?_; refine o1 (asg ?_); refine nx ?_; refine runs_block ?_
          apply runs_loop_o (ι := Nat) (fun i => [(13, int i)]) (fun i => [rdO s (partsR (termR n s) i r3).2, .cells [.d (.v (.int .i64 0)), .d (.v (.int .i64 0)), .d (.v (.string .empty)), .d (.v (.slice none 0 0)), .d (.v (.slice none 0 0))] 31, .cells [.d (.v (.int .i64 k)), .d (.v (.int .i64 0)), .d (.v (.string nm)), .own 3 3 (lvls L), .own 4 5 (trms (partsR (termR n s) i r3).1)] 31, .row 45 3, .row 31 5]) [12, 11, 2, 0] (fun i => i ≤ partsOf k) (fun i => partsOf k - i) (0) ([0, 1, 2, 3, 4])
          case hk => exact rfl
          case hI =>
            exact Nat.zero_le _
          case hm =>
            refine mo ?_ (sly (sly (sly (sly (sly slz)))))
            repeat (first | exact boz | exact fiz | refine boc ?_ | refine bor ?_ | refine bon ?_ | refine boe ?_ ?_ | refine fir ?_ | refine .cons (.nil rfl) ?_)
          case h =>
            rintro i hinv
            try dsimp only at hinv
            refine kp [13, 12, 11, 2, 0] ?_; refine runs_seq ?_; refine sr ?_; refine o1 (mv ?_); refine o1 (mv ?_); refine o1 (ilt ?_); refine nx ?_; refine cdf (fun h35 => ?_) (fun h35 => ?_)
            · (try simp only [nrm, Int.reduceEq, Int.reduceNe, Int.reduceLT, Int.reduceLE, fcode_n] at h35)
              refine runs_exit ?_; refine seq_exit ?_; refine seq_exit ?_; refine inb_exit ?_; refine seq_normal ?_; refine kp [11, 2, 0] ?_; refine sr ?_; refine o1 (mv ?_)
              refine oc (ck ca88 rfl rfl (take_spec s ⟨#[41]⟩ (partsR (termR n s) i r3).2 hs (partsR_le (s := s) (f := termR n s) (fun r hr => termR_le n r hr) i hh3.2).2) [0] rfl (boc .nil) (fir (fir .nil)) ?_); refine nx ?_; refine sr ?_
              refine o1 (ldb ti31 ?_); refine oc (sto ti31 ?_); refine nx ?_; refine runs_ret ?_; refine fin_ret ?_; obtain rfl : i = partsOf k := by omega
              refine fin_odl ⟨_, _, rfl, (from_cell rfl rfl ti31 rfl rfl rfl rfl), rfl⟩ rfl ((Trm.mk k 0 nm L (partsR (termR n s) (partsOf k) r3).1).d) (by exact .refl _) ([0]) ([rdO s (takeR s ⟨#[41]⟩ (partsR (termR n s) (partsOf k) r3).2)]) rfl rfl rfl ?_ ?_
              · repeat (first | exact boz | refine boc ?_)
              · rw [termR_node h8 hk (by omega) hcut]; exact ⟨rfl, rfl⟩
            (try simp only [nrm, Int.reduceEq, Int.reduceNe, Int.reduceLT, Int.reduceLE, fcode_n] at h35); refine runs_skip ?_; refine seq_normal ?_; refine runs_seq ?_; refine runs_block ?_
            have hpp := partsR_le (s := s) (f := termR n s) (fun r hr => termR_le n r hr) i hh3.2
            obtain ⟨k2, n2, s2, l2, a2', hX⟩ := Trm.case (termR n s (partsR (termR n s) i r3).2).1
            have hln : (trms (partsR (termR n s) i r3).1).length = i := by rw [trms_len, partsR_len]
            have hlast : trms (partsR (termR n s) i r3).1 ++ [[.v (.int .i64 k2), .v (.int .i64 n2), .v (.string s2), .sl 3 (lvls l2), .sl 5 (trms a2')]] = trms (partsR (termR n s) (i + 1) r3).1 := by simp only [partsR]; rw [hX, trms_app]; rfl
            have hpr : p < (nextR s ⟨p, none⟩).2.p := by rw [nextR_ok (by rw [h8]; decide), h8]; simp only; have : (ByteArray.mk #[40]).size = 1 := rfl; omega
            refine a_start ?_ (hm := by exact mixed); refine A1 0 rfl (fdb ti31 ⟨_, rfl, ?_⟩); refine A1 1 rfl (ldb ti29 ⟨_, rfl, ?_⟩); refine A1 2 rfl (mv ⟨_, rfl, ?_⟩)
            refine A2 3 rfl (op_callo ca42 rfl rfl rfl rfl (ih (partsR (termR n s) i r3).2 hpp.2 (by omega)) [0] (boc .nil) rfl rfl rfl rfl (fir .nil) (fun s ob' hq => ?_) (fun s ob' hq => ?_))
            rotate_left
            · first | exact hq.elim | cases hq.1
            obtain ⟨hq1, rfl⟩ := hq; rw [hX] at hq1; cases hq1; refine ⟨_, _, _, _, _, rfl, rfl, rfl, rfl, rfl, ?_⟩
            refine A2 (T := fun _ => False) 4 rfl (op_lit sl29 [.tmp 126] ti31 rfl rfl rfl rfl rfl rfl rfl (by decide) (by decide) (by decide) (by simp only [List.length_cons, List.length_nil, Nat.reduceAdd]; rfl) rfl ?_)
            refine A2 5 rfl (op_append sl29 rfl rfl rfl rfl rfl rfl rfl (.inl rfl) (by decide) (by simp) (by first | decide | (simp only [maxLen, List.length_cons, List.length_nil, List.length_append, List.length_map]; omega) | omega) rfl rfl rfl ?_)
            refine A1 6 rfl (fdb ti31 ⟨_, rfl, ?_⟩); refine A2 7 rfl (sto ti29 ?_); refine a_end ?_; refine inb_normal ?_; refine seq_normal ?_; refine kp [13, 12, 11, 2, 0] ?_; refine runs_region ?_; refine o1 (mv ?_); refine o1 (iad ?_)
            refine o1 (asg ?_); refine ops_nil ?_; refine seq_back ?_
            rw [hlast]
            refine back_c (i + 1) rfl ?_ ([0, 1, 2, 3, 4]) ?_
            · exact ⟨by omega, by omega⟩
            · refine mo ?_ (sly (sly (sly (sly (sly slz)))))
              repeat (first | exact boz | refine boc ?_ | refine bor ?_)
end Go.Proofs.YtneaancanfpdhaaGreatDoor
namespace Go.Proofs.YtneaancanfpdhaaGreatDoor
open Go Go.Vd Go.RowKit
attribute [local irreducible] Runs OpsR OpR FloatR AnyR AnyO
variable {g gl : Nat → List D}
theorem ne_of_size {s : ByteArray} (h : 0 < s.size) : s ≠ .empty := by rintro rfl; exact absurd h (by decide)
mutual
/-- the bytes of names, and ten for each part -/
def wtL : Lvl → Nat
  | .mk _ s args => 10 + s.size + wtLs args
def wtLs : List Lvl → Nat
  | [] => 0
  | l :: r => wtL l + wtLs r
end
theorem wtL_lev : ∀ x : Lev, wtL x.toLvl = x.weight
  | .zero => by simp [Lev.toLvl, wtL, wtLs, Lev.weight]
  | .succ a => by simp [Lev.toLvl, wtL, wtLs, Lev.weight, wtL_lev a]
  | .max a b => by simp [Lev.toLvl, wtL, wtLs, Lev.weight, wtL_lev a, wtL_lev b]; omega
  | .imax a b => by simp [Lev.toLvl, wtL, wtLs, Lev.weight, wtL_lev a, wtL_lev b]; omega
  | .param s => by simp [Lev.toLvl, wtL, wtLs, Lev.weight]
theorem wtL_get : ∀ {ls : List Lvl} {i : Nat} {l : Lvl}, ls[i]? = some l → wtL l ≤ wtLs ls
  | [], i, l, h => by simp at h
  | a :: r, 0, l, h => by simp at h; subst h; simp [wtLs]
  | a :: r, i + 1, l, h => by simp at h; have := wtL_get h; simp [wtLs]; omega
mutual
def wtT : Trm → Nat
  | .mk _ _ s ls args => 20 + s.size + wtLs ls + ls.length + wtTs args
def wtTs : List Trm → Nat
  | [] => 0
  | t :: r => 1 + wtT t + wtTs r
end
theorem wtTs_app (l m : List Trm) : wtTs (l ++ m) = wtTs l + wtTs m := by
  induction l with
  | nil => simp [wtTs]
  | cons a r ih => simp [wtTs, ih]; omega
theorem wtT_get : ∀ {ls : List Trm} {i : Nat} {l : Trm}, ls[i]? = some l → wtT l + 1 ≤ wtTs ls
  | [], i, l, h => by simp at h
  | a :: r, 0, l, h => by simp at h; subst h; simp [wtTs]; omega
  | a :: r, i + 1, l, h => by simp at h; have := wtT_get h; simp [wtTs]; omega
/-- levels that can be printed -/
def okLs (ls : List Lvl) : Prop := ∀ l ∈ ls, ∃ x : Lev, l = x.toLvl ∧ fitP x.toLvl
mutual
/-- terms that can be printed -/
def okT : Trm → Prop
  | .mk k n _ ls args => 0 ≤ k ∧ k ≤ 6 ∧ 0 ≤ n ∧ n ≤ 999999 ∧ okLs ls ∧ okTs args
def okTs : List Trm → Prop
  | [] => True
  | t :: r => okT t ∧ okTs r
end
theorem okTs_app {l : List Trm} {t : Trm} (h1 : okTs l) (h2 : okT t) : okTs (l ++ [t]) := by
  induction l with
  | nil => exact ⟨h2, trivial⟩
  | cons a r ih => exact ⟨h1.1, ih h1.2⟩
theorem okT_get : ∀ {ls : List Trm} {i : Nat} {l : Trm}, okTs ls → ls[i]? = some l → okT l
  | [], i, l, _, h => by simp at h
  | a :: r, 0, l, ho, h => by simp at h; subst h; exact ho.1
  | a :: r, i + 1, l, ho, h => okT_get ho.2 (by simpa using h)
theorem okLs_get {ls : List Lvl} {i : Nat} {l : Lvl} (ho : okLs ls) (h : ls[i]? = some l) : ∃ x : Lev, l = x.toLvl ∧ fitP x.toLvl := ho _ (List.mem_of_getElem? h)
def wordT (k : Int) : ByteArray := wordsT.getD k.toNat .empty
theorem wordT_size (k : Int) : (wordT k).size ≤ 5 := by
  unfold wordT
  by_cases h : k.toNat < wordsT.length
  · have h7 : wordsT.length = 7 := rfl
    have : k.toNat = 0 ∨ k.toNat = 1 ∨ k.toNat = 2 ∨ k.toNat = 3 ∨ k.toNat = 4 ∨ k.toNat = 5 ∨ k.toNat = 6 := by omega
    rcases this with h | h | h | h | h | h | h <;> rw [h] <;> decide
  · rw [List.getD_eq_getElem?_getD, List.getElem?_eq_none (by omega)]; decide
mutual
/-- the text of a term -/
def wrT : Trm → ByteArray
  | .mk k n s ls args => if k = 0 then ⟨#[35]⟩ ++ digR n.toNat else ⟨#[40]⟩ ++ wordT k ++ (if k = 2 then ⟨#[32]⟩ ++ s else .empty) ++ wrL ls ++ wrTs args ++ ⟨#[41]⟩
def wrTs : List Trm → ByteArray
  | [] => .empty
  | t :: r => ⟨#[32]⟩ ++ wrT t ++ wrTs r
end
theorem wrTs_append (l m : List Trm) : wrTs (l ++ m) = wrTs l ++ wrTs m := by
  induction l with
  | nil => simp [wrTs]
  | cons a r ih => simp only [List.cons_append, wrTs, ih, ByteArray.append_assoc]
theorem wrTs_take {l : List Trm} {i : Nat} {a : Trm} (h : l[i]? = some a) : wrTs (l.take (i + 1)) = wrTs (l.take i) ++ ⟨#[32]⟩ ++ wrT a := by
  rw [List.take_add_one, h]; simp [wrTs_append, wrTs, ByteArray.append_assoc]
theorem wrTs_take_le (l : List Trm) (i : Nat) : (wrTs (l.take i)).size ≤ (wrTs l).size := by
  have : wrTs l = wrTs (l.take i) ++ wrTs (l.drop i) := by rw [← wrTs_append, List.take_append_drop]
  rw [this, ByteArray.size_append]; omega
theorem wrT_var {n : Int} {s : ByteArray} {ls : List Lvl} {args : List Trm} : wrT (.mk 0 n s ls args) = ⟨#[35]⟩ ++ digR n.toNat := by simp [wrT]
theorem wrT_const {n : Int} {s : ByteArray} {ls : List Lvl} {args : List Trm} : wrT (.mk 2 n s ls args) = ⟨#[40]⟩ ++ wordT 2 ++ (⟨#[32]⟩ ++ s) ++ wrL ls ++ wrTs args ++ ⟨#[41]⟩ := by simp [wrT]
theorem wrT_else {k n : Int} {s : ByteArray} {ls : List Lvl} {args : List Trm} (h0 : ¬ k = 0) (h2 : ¬ k = 2) : wrT (.mk k n s ls args) = ⟨#[40]⟩ ++ wordT k ++ wrL ls ++ wrTs args ++ ⟨#[41]⟩ := by simp [wrT, h0, h2]
theorem wrT_ne (t : Trm) : wrT t ≠ .empty := by
  obtain ⟨k, n, s, ls, args⟩ := t
  intro e
  have := congrArg ByteArray.size e
  simp only [wrT] at this
  split at this <;> simp only [ByteArray.size_append, size_mk, List.size_toArray, List.length_cons, List.length_nil, ByteArray.size_empty] at this <;> omega
theorem digR_size6 {n : Nat} (h : n ≤ 999999) : (digR n).size ≤ 6 := by
  have key : ∀ m : Nat, (ByteArray.mk #[UInt8.ofNat (48 + m % 10)]).size = 1 := fun _ => rfl
  by_cases h1 : n < 10
  · rw [digR_one h1, key]; omega
  rw [digR_more h1, ByteArray.size_append, key]
  by_cases h2 : n / 10 < 10
  · rw [digR_one h2, key]; omega
  rw [digR_more h2, ByteArray.size_append, key]
  by_cases h3 : n / 10 / 10 < 10
  · rw [digR_one h3, key]; omega
  rw [digR_more h3, ByteArray.size_append, key]
  by_cases h4 : n / 10 / 10 / 10 < 10
  · rw [digR_one h4, key]; omega
  rw [digR_more h4, ByteArray.size_append, key]
  by_cases h5 : n / 10 / 10 / 10 / 10 < 10
  · rw [digR_one h5, key]; omega
  rw [digR_more h5, ByteArray.size_append, key, digR_one (by omega), key]; omega
theorem wrL_size {ls : List Lvl} (h : okLs ls) : (wrL ls).size ≤ wtLs ls + ls.length := by
  induction ls with
  | nil => simp [wrL]
  | cons l r ih =>
    obtain ⟨x, rfl, _⟩ := h l (by simp)
    have h1 := ih fun m hm => h m (by simp [hm])
    have h2 := x.print_size
    simp only [wrL, wtLs, ByteArray.size_append, size_mk, List.size_toArray, List.length_cons, List.length_nil, wr_lev, wtL_lev] at *
    omega
mutual
theorem wrT_size : ∀ t : Trm, okT t → (wrT t).size ≤ wtT t
  | .mk k n s ls args, h => by
    obtain ⟨h0, h6, hn0, hn, hl, ha⟩ := h
    have h1 := wrTs_size args ha
    have h2 := wrL_size hl
    have h3 := wordT_size k
    have h4 := digR_size6 (n := n.toNat) (by omega)
    simp only [wrT, wtT]
    split
    · simp only [ByteArray.size_append, size_mk, List.size_toArray, List.length_cons, List.length_nil]; omega
    · split <;> simp only [ByteArray.size_append, size_mk, List.size_toArray, List.length_cons, List.length_nil, ByteArray.size_empty] <;> omega
theorem wrTs_size : ∀ l : List Trm, okTs l → (wrTs l).size ≤ wtTs l
  | [], _ => by simp [wrTs]
  | t :: r, h => by
    have h1 := wrT_size t h.1
    have h2 := wrTs_size r h.2
    simp only [wrTs, wtTs, ByteArray.size_append, size_mk, List.size_toArray, List.length_cons, List.length_nil]; omega
end
/-- what stands ahead of a term's levels -/
def hdT (k : Int) (s : ByteArray) : ByteArray := if k = 2 then ⟨#[40]⟩ ++ wordT k ++ ⟨#[32]⟩ ++ s else ⟨#[40]⟩ ++ wordT k
theorem wrT_hd {k n : Int} {s : ByteArray} {ls : List Lvl} {args : List Trm} (h0 : ¬ k = 0) : wrT (.mk k n s ls args) = hdT k s ++ wrL ls ++ wrTs args ++ ⟨#[41]⟩ := by
  unfold hdT
  split
  · rename_i h; subst h; rw [wrT_const]; simp only [ByteArray.append_assoc]
  · rename_i h; rw [wrT_else h0 h]
theorem wtLs_len : ∀ ls : List Lvl, ls.length ≤ wtLs ls
  | [] => by simp
  | l :: r => by have := wtLs_len r; cases l; simp [wtLs, wtL]; omega
theorem wtTs_len : ∀ ls : List Trm, ls.length ≤ wtTs ls
  | [] => by simp
  | l :: r => by have := wtTs_len r; simp [wtTs]; omega
/-! what was read -/
theorem level_ok {s : ByteArray} (n : Nat) {r : RS} (hp : r.p ≤ s.size) : okLs [(levelR n s r).1] ∧ wtL (levelR n s r).1 + 20 * r.p ≤ 10 + 20 * (levelR n s r).2.p := by
  obtain ⟨x, hx, hf, hw⟩ := levelR_lev n hp
  rw [hx]
  refine ⟨fun l hl => ?_, by rw [wtL_lev]; omega⟩
  simp only [List.mem_singleton] at hl
  exact ⟨x, hl, hf⟩
theorem okLs_cons {l : Lvl} {r : List Lvl} (h1 : okLs [l]) (h2 : okLs r) : okLs (l :: r) := fun m hm => by
  rcases List.mem_cons.1 hm with rfl | hm
  · exact h1 _ (by simp)
  · exact h2 _ hm
theorem levels_ok {s : ByteArray} : ∀ (n : Nat) {r : RS}, r.p ≤ s.size → okLs (levelsR n s r).1 ∧ wtLs (levelsR n s r).1 + (levelsR n s r).1.length + 40 * r.p ≤ 11 + 40 * (levelsR n s r).2.p := by
  intro n
  induction n with
  | zero => intro r hp; exact ⟨fun l hl => by simp [levelsR] at hl, by simp only [levelsR, wtLs, List.length_nil]; omega⟩
  | succ n ih =>
    intro r hp
    simp only [levelsR]
    split
    · rename_i hc
      have h1 := levelR_le (s := s) (s.size + 1) hp
      have h2 := level_ok (s := s) (s.size + 1) hp
      have h3 := ih h1.2
      refine ⟨okLs_cons h2.1 h3.1, ?_⟩
      simp only [wtLs, List.length_cons]
      cases hf : (levelR (s.size + 1) s r).2.f with
      | none =>
        have h4 := level_prog hp hc.1 hf
        omega
      | some a =>
        have h5 : levelsR n s (levelR (s.size + 1) s r).2 = ([], (levelR (s.size + 1) s r).2) := by
          cases n with
          | zero => rfl
          | succ n => simp only [levelsR]; rw [if_neg (by rintro ⟨e, _⟩; rw [hf] at e; cases e)]
        rw [h5]
        simp only [wtLs, List.length_nil]
        omega
    · exact ⟨fun l hl => by simp at hl, by simp only [wtLs, List.length_nil]; omega⟩
theorem nameR_size {s : ByteArray} {r : RS} (hp : r.p ≤ s.size) : (nameR s r).1.size + r.p ≤ (nameR s r).2.p := by
  have hat := tokR_at (s := s) hp
  obtain ⟨p, f⟩ := r
  simp only at hp hat
  unfold nameR
  dsimp only
  split
  · rw [RS.fail_p]; simp
  · cases f with
    | none => dsimp only; omega
    | some a => simp
theorem head_ok {s : ByteArray} (k : Nat) {r : RS} (hp : r.p ≤ s.size) : okLs (headR s k r).2.1 ∧ (headR s k r).1.size + wtLs (headR s k r).2.1 + (headR s k r).2.1.length + 40 * r.p ≤ 11 + 40 * (headR s k r).2.2.p := by
  unfold headR
  split
  · have h1 := levelR_le (s := s) (s.size + 1) hp
    have h2 := level_ok (s := s) (s.size + 1) hp
    refine ⟨h2.1, ?_⟩
    simp only [wtLs, List.length_cons, List.length_nil, ByteArray.size_empty]; omega
  · split
    · have h1 := nameR_le (s := s) hp
      have h2 := levels_ok (s.size + 2) h1.2
      have h3 := nameR_size (s := s) hp
      refine ⟨h2.1, ?_⟩
      simp only; omega
    · exact ⟨fun l hl => by simp at hl, by simp only [wtLs, List.length_nil, ByteArray.size_empty]; omega⟩
theorem next_ge {s : ByteArray} {p : Nat} (hp : p ≤ s.size) (h : (tokR s p).1 ≠ .empty) : p + 1 ≤ (nextR s ⟨p, none⟩).2.p := by
  have hat := tokR_at (s := s) hp
  rw [nextR_ok h]; have := size_pos h; simp only; omega
/-- a number that was read -/
theorem num_ok {s : ByteArray} {p : Nat} (hp : p ≤ s.size) (h : headT (tokR s p).1) (h1 : (tokR s p).1 ≠ ⟨#[40]⟩) :
    0 ≤ numR ((tokR s p).1.extract 1 (tokR s p).1.size) ((tokR s p).1.size - 1) ∧ numR ((tokR s p).1.extract 1 (tokR s p).1.size) ((tokR s p).1.size - 1) ≤ 99999 := by
  have h2 : byteAt (tokR s p).1 0 = 35 := by rcases h.2 with h | h; exact h; exact absurd h h1
  have h3 := tok_hash hp h.1 h2
  exact numR_bound h3.2.2 _ (by rw [ByteArray.size_extract]; omega) (by omega)
theorem term_ok {s : ByteArray} : ∀ (n : Nat) (r : RS), r.p ≤ s.size → okT (termR n s r).1 ∧ wtT (termR n s r).1 + 100 * r.p ≤ 20 + 100 * (termR n s r).2.p := by
  have hz : wtT zeroT = 20 := rfl
  have hzo : okT zeroT := ⟨by decide, by decide, by decide, by decide, fun l hl => (by cases hl), trivial⟩
  intro n
  induction n with
  | zero => intro r hp; exact ⟨hzo, by simp only [termR, hz]; omega⟩
  | succ n ih =>
    have hpart : ∀ (i : Nat) {r : RS}, r.p ≤ s.size → okTs (partsR (termR n s) i r).1 ∧ wtTs (partsR (termR n s) i r).1 + 100 * r.p ≤ 21 * i + 100 * (partsR (termR n s) i r).2.p := by
      intro i
      induction i with
      | zero => intro r hp; exact ⟨trivial, by simp only [partsR, wtTs]; omega⟩
      | succ i ihi =>
        intro r hp
        have h1 := ihi hp
        have h2 := partsR_le (s := s) (f := termR n s) (fun r hr => termR_le n r hr) i hp
        have h3 := ih _ h2.2
        simp only [partsR, wtTs_app, wtTs]
        exact ⟨okTs_app h1.1 h3.1, by omega⟩
    intro r hp
    obtain ⟨p, f⟩ := r
    simp only at hp
    cases f with
    | some a => exact ⟨hzo, by simp only [termR, hz]; omega⟩
    | none =>
      have h1 := nextR_le (s := s) (r := ⟨p, none⟩) hp
      have h2 := nextR_le (s := s) (r := (nextR s ⟨p, none⟩).2) h1.2
      simp only at h1
      by_cases c1 : headT (tokR s p).1
      · by_cases c2 : (tokR s p).1 = ⟨#[40]⟩
        · rcases hk : kindT (tokR s (nextR s ⟨p, none⟩).2.p).1 with _ | k
          · rw [termR_kind c2 hk]
            exact ⟨hzo, by simp only [hz, RS.fail_p]; omega⟩
          · rcases hh : headR s (k + 1) (nextR s (nextR s ⟨p, none⟩).2).2 with ⟨nm, L, r3⟩
            have h3 := headR_le (s := s) (k + 1) h2.2
            have h4 := head_ok (s := s) (k + 1) h2.2
            rw [hh] at h3 h4
            simp only at h3 h4
            have h5 := hpart (partsOf (k + 1)) h3.2
            have h6 := partsR_le (s := s) (f := termR n s) (fun r hr => termR_le n r hr) (partsOf (k + 1)) h3.2
            have h7 := takeR_le (s := s) (w := ⟨#[41]⟩) h6.2
            have h8 := partsOf_le (k + 1)
            have h9 := kindT_le (tokR s (nextR s ⟨p, none⟩).2.p).1
            have h10 := next_ge hp (by rw [c2]; decide)
            rw [termR_node c2 hk (by omega) hh]
            refine ⟨⟨by omega, by omega, by decide, by decide, h4.1, h5.1⟩, ?_⟩
            simp only [wtT]
            omega
        · rw [termR_num c1 c2]
          have h3 := num_ok hp c1 c2
          refine ⟨⟨by decide, by decide, h3.1, (by have := h3.2; omega), fun l hl => (by cases hl), trivial⟩, ?_⟩
          simp only [wtT, wtLs, wtTs, List.length_nil, ByteArray.size_empty]; omega
      · rw [termR_bad c1]
        exact ⟨hzo, by simp only [hz, RS.fail_p]; omega⟩
end Go.Proofs.YtneaancanfpdhaaGreatDoor
namespace Go.Proofs.YtneaancanfpdhaaGreatDoor
open Go Go.Vd Go.RowKit
theorem zero_nm {x : Lev} (h : zeroL = x.toLvl) : ∀ w, x.has w → okName w := by
  cases x <;> simp [zeroL, Lev.toLvl] at h
  intro w hw; exact hw.elim
theorem levelR_nm {s : ByteArray} : ∀ (n : Nat) {r : RS}, r.p ≤ s.size → ∀ x : Lev, (levelR n s r).1 = x.toLvl → ∀ w, x.has w → okName w := by
  intro n
  induction n with
  | zero => intro r hp x h; exact zero_nm h
  | succ n ih =>
    intro r hp x h
    obtain ⟨p, f⟩ := r
    simp only at hp
    cases f with
    | some a => exact zero_nm h
    | none =>
      have h1 := nextR_le (s := s) (r := ⟨p, none⟩) hp
      have h2 := nextR_le (s := s) (r := (nextR s ⟨p, none⟩).2) h1.2
      have h3 := levelR_le n h2.2
      by_cases c0 : (tokR s p).1 = ⟨#[48]⟩
      · rw [levelR_zero c0] at h; exact zero_nm h
      cases c1 : isNameB (tokR s p).1 with
      | true =>
        rw [levelR_name c0 c1] at h
        cases x <;> simp [Lev.toLvl] at h
        intro w hw
        have e : w = _ := hw
        rw [e, ← h]
        exact tok_okName hp c1
      | false =>
        by_cases c2 : (tokR s p).1 = ⟨#[40]⟩
        · rcases kindR_case (tokR s (nextR s ⟨p, none⟩).2.p).1 with hk | ⟨hk, hne2⟩
          · rw [levelR_kind c0 c1 c2 hk] at h; exact zero_nm h
          · rcases hk with hk | hk | hk
            · rw [levelR_one c0 c1 c2 hk] at h
              cases x <;> simp [Lev.toLvl] at h
              intro w hw; exact ih h2.2 _ h w hw
            · rw [levelR_two c0 c1 c2 (by omega) (by omega), hk] at h
              cases x <;> simp [Lev.toLvl] at h
              intro w hw
              rcases hw with hw | hw
              · exact ih h2.2 _ h.1 w hw
              · exact ih h3.2 _ h.2 w hw
            · rw [levelR_two c0 c1 c2 (by omega) (by omega), hk] at h
              cases x <;> simp [Lev.toLvl] at h
              intro w hw
              rcases hw with hw | hw
              · exact ih h2.2 _ h.1 w hw
              · exact ih h3.2 _ h.2 w hw
        · rw [levelR_else c0 c1 c2] at h; exact zero_nm h
end Go.Proofs.YtneaancanfpdhaaGreatDoor
namespace Go.Vd
open Go Go.RowKit
inductive Dec where
  | mk (kind : Int) (name : ByteArray) (params : List ByteArray) (ty val : Trm) (arity : Int) (ctors : List (ByteArray × Trm))
def ctrs (l : List (ByteArray × Trm)) : List (List D) := l.map fun c => .v (.string c.1) :: c.2.cells
def Dec.cells : Dec → List D
  | .mk k s ps t v a cs => .v (.int .i64 k) :: .v (.string s) :: .sl 1 (strs ps) :: (t.cells ++ (v.cells ++ [.v (.int .i64 a), .sl 6 (ctrs cs)]))
def Dec.d (x : Dec) : D := .agg x.cells
theorem Dec.case (x : Dec) : ∃ k s ps k1 n1 s1 l1 a1 k2 n2 s2 l2 a2 a cs, x = .mk k s ps (.mk k1 n1 s1 l1 a1) (.mk k2 n2 s2 l2 a2) a cs := by
  obtain ⟨k, s, ps, ⟨k1, n1, s1, l1, a1⟩, ⟨k2, n2, s2, l2, a2⟩, a, cs⟩ := x
  exact ⟨_, _, _, _, _, _, _, _, _, _, _, _, _, _, _, rfl⟩
/-! the reader -/
/-- a number of at most two digits -/
def arityB (t : ByteArray × Nat × Bool) : Prop := t.1 ≠ .empty ∧ 48 ≤ byteAt t.1 0 ∧ byteAt t.1 0 ≤ 57 ∧ t.1.size ≤ 2
instance (t : ByteArray × Nat × Bool) : Decidable (arityB t) := inferInstanceAs (Decidable (_ ∧ _))
def atEnd (s : ByteArray) (r : RS) : Prop := (tokR s r.p).2.2 = true ∧ (tokR s r.p).1 = .empty
instance (s : ByteArray) (r : RS) : Decidable (atEnd s r) := inferInstanceAs (Decidable (_ ∧ _))
/-! faults stay -/
theorem fail_f (r : RS) (x : Nat) : (r.fail x).f ≠ none := by obtain ⟨a, f⟩ := r; cases f <;> simp [RS.fail]
theorem take_f {s w : ByteArray} {r : RS} (h : (takeR s w r).f = none) : r.f = none := by
  obtain ⟨p, f⟩ := r
  unfold takeR at h
  dsimp only at h
  split at h
  · exact absurd h (fail_f _ _)
  · cases f with
    | none => rfl
    | some a => cases h
theorem term_f {s : ByteArray} {n : Nat} {r : RS} (h : (termR n s r).2.f = none) : r.f = none := by
  obtain ⟨p, f⟩ := r
  cases f with
  | none => rfl
  | some a => cases n <;> cases h
/-! the loops' steps -/
end Go.Vd
namespace Go.Proofs.YtneaancanfpdhaaGreatDoor
open Go Go.Vd Go.RowKit
attribute [local irreducible] Runs OpsR OpR FloatR AnyR AnyO
variable {g gl : Nat → List D}
end Go.Proofs.YtneaancanfpdhaaGreatDoor
namespace Go.Proofs.YtneaancanfpdhaaGreatDoor
open Go Go.Vd Go.RowKit
/-! the shape of what was read -/
def goodL (l : Lvl) : Prop := ∃ x : Lev, l = x.toLvl ∧ fitP x.toLvl ∧ ∀ w, x.has w → okName w
mutual
def goodT : Trm → Prop
  | .mk k n s ls args => (∀ l ∈ ls, goodL l) ∧ goodTs args ∧
    ((k = 0 ∧ 0 ≤ n ∧ n ≤ 99999 ∧ s = .empty ∧ ls = [] ∧ args = []) ∨ (k = 1 ∧ n = 0 ∧ s = .empty ∧ ls.length = 1 ∧ args = []) ∨ (k = 2 ∧ n = 0 ∧ okName s ∧ args = []) ∨
      ((k = 3 ∨ k = 4 ∨ k = 5) ∧ n = 0 ∧ s = .empty ∧ ls = [] ∧ args.length = 2) ∨ (k = 6 ∧ n = 0 ∧ s = .empty ∧ ls = [] ∧ args.length = 3))
def goodTs : List Trm → Prop
  | [] => True
  | t :: r => goodT t ∧ goodTs r
end
theorem goodTs_app {l : List Trm} {t : Trm} (h1 : goodTs l) (h2 : goodT t) : goodTs (l ++ [t]) := by
  induction l with
  | nil => exact ⟨h2, trivial⟩
  | cons a r ih => exact ⟨h1.1, ih h1.2⟩
theorem goodTs_get : ∀ {ls : List Trm} {i : Nat} {l : Trm}, goodTs ls → ls[i]? = some l → goodT l
  | [], i, l, _, h => by simp at h
  | a :: r, 0, l, ho, h => by simp at h; subst h; exact ho.1
  | a :: r, i + 1, l, ho, h => goodTs_get ho.2 (by simpa using h)
theorem level_shape {s : ByteArray} (n : Nat) {r : RS} (hp : r.p ≤ s.size) : goodL (levelR n s r).1 := by
  obtain ⟨x, h1, h2, _⟩ := levelR_lev (s := s) n hp
  exact ⟨x, h1, h2, levelR_nm n hp x h1⟩
theorem levels_shape {s : ByteArray} : ∀ (n : Nat) {r : RS}, r.p ≤ s.size → ∀ l ∈ (levelsR n s r).1, goodL l := by
  intro n
  induction n with
  | zero => intro r hp l hl; simp [levelsR] at hl
  | succ n ih =>
    intro r hp l hl
    simp only [levelsR] at hl
    split at hl
    · rcases List.mem_cons.1 hl with rfl | hl
      · exact level_shape _ hp
      · exact ih (levelR_le (s := s) (s.size + 1) hp).2 l hl
    · simp at hl
theorem nameR_shape {s : ByteArray} {r : RS} (hp : r.p ≤ s.size) (h : (nameR s r).2.f = none) : okName (nameR s r).1 := by
  obtain ⟨p, f⟩ := r
  unfold nameR at h ⊢
  dsimp only at h ⊢
  split at h
  · exact absurd h (fail_f _ _)
  · rename_i hn
    rw [if_neg hn]
    cases f with
    | none =>
      have h1 : isNameB (tokR s p).1 = true := by
        cases hb : isNameB (tokR s p).1 with
        | true => rfl
        | false => exact absurd (.inr hb) hn
      exact tok_okName hp h1
    | some a => cases h
theorem levels_f {s : ByteArray} : ∀ {n : Nat} {r : RS}, (levelsR n s r).2.f = none → r.f = none
  | 0, r, h => h
  | n + 1, r, h => by
    simp only [levelsR] at h
    split at h
    · rename_i hc; exact hc.1
    · exact h
theorem partsR_f {s : ByteArray} {n : Nat} : ∀ {i : Nat} {r : RS}, (partsR (termR n s) i r).2.f = none → r.f = none
  | 0, r, h => h
  | i + 1, r, h => partsR_f (i := i) (term_f h)
theorem term_shape {s : ByteArray} : ∀ (n : Nat) (r : RS), r.p ≤ s.size → (termR n s r).2.f = none → s.size < n + r.p → goodT (termR n s r).1 := by
  intro n
  induction n with
  | zero => intro r hp _ hn; omega
  | succ n ih =>
    intro r hp hf hn
    obtain ⟨p, f⟩ := r
    simp only at hp hn
    cases f with
    | some a => cases hf
    | none =>
      have h1 := nextR_le (s := s) (r := ⟨p, none⟩) hp
      have h2 := nextR_le (s := s) (r := (nextR s ⟨p, none⟩).2) h1.2
      simp only at h1
      by_cases c1 : headT (tokR s p).1
      · by_cases c2 : (tokR s p).1 = ⟨#[40]⟩
        · rcases hk : kindT (tokR s (nextR s ⟨p, none⟩).2.p).1 with _ | k
          · rw [termR_kind c2 hk] at hf; exact absurd hf (fail_f _ _)
          · rcases hh : headR s (k + 1) (nextR s (nextR s ⟨p, none⟩).2).2 with ⟨nm, L, r3⟩
            have h3 := headR_le (s := s) (k + 1) h2.2
            rw [hh] at h3
            simp only at h3
            have h9 := kindT_le (tokR s (nextR s ⟨p, none⟩).2.p).1
            have h10 := next_ge hp (by rw [c2]; decide)
            have hpart : ∀ (i : Nat), (partsR (termR n s) i r3).2.f = none → goodTs (partsR (termR n s) i r3).1 := by
              intro i
              induction i with
              | zero => intro _; exact trivial
              | succ i ihi =>
                intro hfi
                have h5 := partsR_le (s := s) (f := termR n s) (fun r hr => termR_le n r hr) i h3.2
                exact goodTs_app (ihi (term_f hfi)) (ih _ h5.2 hfi (by omega))
            rw [termR_node c2 hk (by omega) hh] at hf ⊢
            have hf2 := take_f hf
            have hf3 := partsR_f hf2
            have hpl := partsR_len (termR n s) (partsOf (k + 1)) r3
            have hga := hpart _ hf2
            generalize (partsR (termR n s) (partsOf (k + 1)) r3).1 = as1 at hpl hga ⊢
            unfold headR at hh
            split at hh
            · rename_i hk1
              cases hh
              refine ⟨fun l hl => ?_, hga, .inr (.inl ⟨by omega, rfl, rfl, rfl, ?_⟩)⟩
              · simp only [List.mem_singleton] at hl; subst hl; exact level_shape _ h2.2
              · rw [hk1] at hpl; exact List.length_eq_zero_iff.1 hpl
            · split at hh
              · rename_i hk1 hk2
                cases hh
                have h6 := nameR_le (s := s) h2.2
                refine ⟨levels_shape _ h6.2, hga, .inr (.inr (.inl ⟨by omega, rfl, nameR_shape h2.2 (levels_f hf3), ?_⟩))⟩
                rw [hk2] at hpl; exact List.length_eq_zero_iff.1 hpl
              · rename_i hk1 hk2
                cases hh
                refine ⟨fun l hl => (by cases hl), hga, ?_⟩
                unfold partsOf at hpl
                rw [if_neg (by omega)] at hpl
                split at hpl
                · exact .inr (.inr (.inr (.inr ⟨by omega, rfl, rfl, rfl, hpl⟩)))
                · exact .inr (.inr (.inr (.inl ⟨by omega, rfl, rfl, rfl, hpl⟩)))
        · rw [termR_num c1 c2]
          have h3 := num_ok hp c1 c2
          exact ⟨fun l hl => (by cases hl), trivial, .inl ⟨rfl, h3.1, h3.2, rfl, rfl, rfl⟩⟩
      · rw [termR_bad c1] at hf; exact absurd hf (fail_f _ _)
/-! numbers -/
/-! terms -/
end Go.Proofs.YtneaancanfpdhaaGreatDoor
namespace Go.Proofs.YtneaancanfpdhaaGreatDoor
open Go Go.Vd Go.RowKit
/-! heads and arguments -/
theorem spOk_no {k n : Int} {s : ByteArray} {ls : List Lvl} {args : List Trm} (h : ¬ k = 3) : spOk (.mk k n s ls args) := by
  match args with
  | [f, a] => simp only [spOk]; exact fun e => absurd e h
  | [] => simpa only [spOk] using h
  | [a] => simpa only [spOk] using h
  | a :: b :: c :: r => simpa only [spOk] using h
theorem good_app {k n : Int} {s : ByteArray} {ls : List Lvl} {args : List Trm} (h : goodT (.mk k n s ls args)) (hk : k = 3) : ∃ f a, args = [f, a] ∧ n = 0 ∧ s = .empty ∧ ls = [] ∧ goodT f := by
  obtain ⟨h1, h2, h3⟩ := h
  rcases h3 with h3 | h3 | h3 | h3 | h3
  · omega
  · omega
  · omega
  · obtain ⟨_, hn, hs, hl, ha⟩ := h3
    match args, ha with
    | [f, a], _ => exact ⟨f, a, rfl, hn, hs, hl, h2.1⟩
  · omega
theorem good_spine : ∀ (n : Nat) (t : Trm), t.size ≤ n → goodT t → spOk t ∧ applyT (spineT t).1 (spineT t).2 = t := by
  intro n
  induction n with
  | zero => intro t h; cases t; simp [Trm.size] at h
  | succ n ih =>
    intro t hsz hg
    obtain ⟨k, m, s, ls, args⟩ := t
    by_cases hk : k = 3
    · obtain ⟨f, a, rfl, rfl, rfl, rfl, hf⟩ := good_app hg hk
      subst hk
      simp only [Trm.size, sizes, sizesT] at hsz
      obtain ⟨i1, i2⟩ := ih f (by omega) hf
      refine ⟨by simp only [spOk]; exact fun _ => i1, ?_⟩
      rw [spine_app]
      show applyT (spineT f).1 ((spineT f).2 ++ [a]) = _
      unfold applyT at i2 ⊢
      rw [List.foldl_append, i2]
      rfl
    · exact ⟨spOk_no hk, by rw [spine_no hk]; rfl⟩
theorem spine_len : ∀ (n : Nat) (t : Trm), t.size ≤ n → (spineT t).2.length ≤ t.size := by
  intro n
  induction n with
  | zero => intro t h; cases t; simp [Trm.size] at h
  | succ n ih =>
    intro t hsz
    obtain ⟨k, m, s, ls, args⟩ := t
    by_cases hk : k = 3
    · subst hk
      match args with
      | [f, a] =>
        rw [spine_app]
        simp only [Trm.size, sizesT] at hsz ⊢
        have := ih f (by omega)
        simp only [List.length_append, List.length_cons, List.length_nil]; omega
      | [] => simp [spineT]
      | [a] => simp [spineT]
      | a :: b :: c :: r => simp [spineT]
    · rw [spine_no hk]; simp
/-! numbers -/
mutual
theorem allV_ok : ∀ (t : Trm) (d : Int), okT t → allV (fun n _ => 0 ≤ n ∧ n ≤ 999999) t d
  | .mk k n s ls args, d, h => by
    obtain ⟨_, _, h1, h2, _, h3⟩ := h
    simp only [allV]
    by_cases hk : k = 0
    · rw [if_pos hk]; exact ⟨h1, h2⟩
    · rw [if_neg hk]; exact allVs_ok args _ d h3
theorem allVs_ok : ∀ (l : List Trm) (b : Bool) (d : Int), okTs l → allVs (fun n _ => 0 ≤ n ∧ n ≤ 999999) b l d
  | [], _, _, _ => trivial
  | t :: r, b, d, h => ⟨allV_ok t _ h.1, allVs_ok r b d h.2⟩
end
theorem okT_num {t : Trm} (h : okT t) : numT 999999 t := allV_ok t 0 h
/-! weights -/
mutual
theorem wtT_lift (m fr : Int) : ∀ (t : Trm) (d : Int), wtT (mapT (liftF m fr) t d) = wtT t
  | .mk k n s ls args, d => by
    by_cases hk : k = 0
    · subst hk
      rw [mapT_var, liftF]; split <;> rfl
    · rw [mapT, if_neg hk]; simp only [wtT, wtTs_lift m fr args]
theorem wtTs_lift (m fr : Int) : ∀ (l : List Trm) (b : Bool) (d : Int), wtTs (mapTs (liftF m fr) b l d) = wtTs l
  | [], b, d => rfl
  | t :: r, b, d => by simp only [mapTs, wtTs, wtT_lift m fr t, wtTs_lift m fr r]
end
theorem wtT_liftT (t : Trm) (m fr : Int) : wtT (liftT t m fr) = wtT t := by rw [liftT_map, wtT_lift]
mutual
theorem wtT_subst (b : Trm) : ∀ (t : Trm) (d : Int), wtT (mapT (instF b) t d) ≤ wtT t + t.size * wtT b
  | .mk k n s ls args, d => by
    by_cases hk : k = 0
    · subst hk
      rw [mapT_var, instF]
      have h1 : wtT b ≤ (Trm.mk 0 n s ls args).size * wtT b := Nat.le_mul_of_pos_left _ (by simp only [Trm.size]; omega)
      split
      · omega
      · split
        · rw [wtT_liftT]; omega
        · show wtT (.mk 0 n s ls args) ≤ _
          omega
    · rw [mapT, if_neg hk]
      have h1 := wtTs_subst b args (decide (4 ≤ k)) d
      have h2 : sizesT args * wtT b ≤ (Trm.mk k n s ls args).size * wtT b := Nat.mul_le_mul_right _ (by simp only [Trm.size]; omega)
      simp only [wtT] at h2 ⊢; omega
theorem wtTs_subst (b : Trm) : ∀ (l : List Trm) (c : Bool) (d : Int), wtTs (mapTs (instF b) c l d) ≤ wtTs l + sizesT l * wtT b
  | [], c, d => by simp [mapTs, wtTs]
  | t :: r, c, d => by
    have h1 := wtT_subst b t (if (c && r.isEmpty) = true then d + 1 else d)
    have h2 := wtTs_subst b r c d
    simp only [mapTs, wtTs, sizesT, Nat.add_mul]; omega
end
mutual
theorem size_wtL' : ∀ l : Lvl, l.size ≤ wtL l
  | .mk k s args => by have := sizes_wtL' args; simp only [Lvl.size, wtL]; omega
theorem sizes_wtL' : ∀ l : List Lvl, sizes l ≤ wtLs l
  | [] => by simp [sizes]
  | l :: r => by have := size_wtL' l; have := sizes_wtL' r; simp only [sizes, wtLs]; omega
end
mutual
theorem size_wtT' : ∀ t : Trm, t.size ≤ wtT t
  | .mk k n s ls args => by have := sizes_wtT' args; have := sizes_wtL' ls; simp only [Trm.size, wtT]; omega
theorem sizes_wtT' : ∀ l : List Trm, sizesT l ≤ wtTs l
  | [] => by simp [sizesT]
  | l :: r => by have := size_wtT' l; have := sizes_wtT' r; simp only [sizesT, wtTs]; omega
end
/-! reading -/
theorem done_none {s : ByteArray} {r : RS} (h : (doneR s r).f = none) : r.f = none := by
  unfold doneR at h
  dsimp only at h
  split at h
  · exact absurd h (fail_f _ _)
  · exact h
theorem parse_good {s : ByteArray} (h : (parseT s).2.1 = 0) : goodT (parseT s).1 := by
  unfold parseT at h ⊢
  split at h
  · exact absurd (show (2 : Int) = 0 from h) (by decide)
  · rename_i hs
    rw [if_neg hs]
    dsimp only at h ⊢
    split at h
    · rename_i hf
      simp only
      exact term_shape _ _ (Nat.zero_le _) (done_none hf) (by simp)
    · exact absurd (show (1 : Int) = 0 from h) (by decide)
theorem parse_ok (s : ByteArray) : okT (parseT s).1 ∧ wtT (parseT s).1 ≤ 2000020 := by
  have hz : okT zeroT ∧ wtT zeroT ≤ 2000020 := ⟨⟨by decide, by decide, by decide, by decide, fun l hl => (by cases hl), trivial⟩, by decide⟩
  unfold parseT
  split
  · exact hz
  · rename_i hs
    dsimp only
    split
    · have h1 := term_ok (s := s) (s.size + 1) ⟨0, none⟩ (Nat.zero_le _)
      have h2 := termR_le (s := s) (s.size + 1) ⟨0, none⟩ (Nat.zero_le _)
      refine ⟨h1.1, ?_⟩
      have h3 := h1.2
      have h4 := h2.2
      simp only at h3 h4 ⊢
      omega
    · exact hz
end Go.Proofs.YtneaancanfpdhaaGreatDoor
namespace Go.Proofs.YtneaancanfpdhaaGreatDoor
open Go Go.Vd Go.RowKit
attribute [local irreducible] Runs OpsR OpR FloatR AnyR AnyO
variable {g gl : Nat → List D}
theorem good_var {k n : Int} {s : ByteArray} {ls : List Lvl} {args : List Trm} (h : goodT (.mk k n s ls args)) (hk : k = 0) : 0 ≤ n ∧ n ≤ 99999 ∧ s = .empty ∧ ls = [] ∧ args = [] := by
  obtain ⟨_, _, h3⟩ := h
  rcases h3 with h3 | h3 | h3 | h3 | h3
  · exact h3.2
  all_goals omega
theorem mapTs_take {F : Trm → Int → Trm} {b : Bool} {d : Int} {l : List Trm} {i : Nat} {t : Trm} (h : (mapTs F b l d)[i]? = some t) : trms ((mapTs F b l d).take i) ++ [t.cells] = trms ((mapTs F b l d).take (i + 1)) := by
  rw [List.take_add_one, h, trms_app]; rfl
theorem bindsE_spec (k m : Int) (s : ByteArray) (ls : List Lvl) (args : List Trm) (i : Int) (hb : args.length ≤ 1099511627776) : TriD Tryz.prog gl 56 [(Trm.mk k m s ls args).d, .v (.int .i64 i)] (· = .v (.bool (decide (4 ≤ k) && decide (i = (trms args).length - 1)))) := by
  have hal := trms_len args
  refine triD_of_runs Tryz.func56 rfl Tryz.ntmps56 (rs := [.tmp 4]) rfl rfl rfl ?_
  refine sr ?_; refine oc (T := fun _ => False) (bx ti31 ?_ (hl := by simp only [List.length_cons, List.length_nil, Nat.reduceAdd]; rfl)); refine o1 (asg ?_); refine nx ?_; refine sr ?_; refine o1 (fdb ti31 ?_); refine o1 (ldb ti3 ?_)
  refine o1 (ige ?_); refine o1 (mv ?_)
  apply ops_and (yt := 14) (d := 8) 6 rfl rfl rfl (.none rfl) rfl rfl
  case h1 =>
    intro hb7 hK
    have hc := hb7; (try simp only [nrm, Int.reduceEq, Int.reduceNe, Int.reduceLT, Int.reduceLE] at hc)
    refine gye ?_ (hbw := by exact hb7); refine o1 (mv ?_); refine gye ?_ (hbw := by exact hb7); refine o1 (fdb ti31 ?_); refine gye ?_ (hbw := by exact hb7); refine o1 (ldb ti29 ?_); refine gye ?_ (hbw := by exact hb7); refine o1 (le1 us29 ?_)
    refine gye ?_ (hbw := by exact hb7); refine o1 (isu ?_); refine gye ?_ (hbw := by exact hb7); refine o1 (ieq ?_); exact hK [_, _, _, _, _, _] rfl rfl
  case h2 =>
    intro hb7 hK; refine gno ?_ (hbw := by exact hb7); refine gno ?_ (hbw := by exact hb7); refine gno ?_ (hbw := by exact hb7); refine gno ?_ (hbw := by exact hb7); refine gno ?_ (hbw := by exact hb7); refine gno ?_ (hbw := by exact hb7)
    exact hK [_, _, _, _, _, _] rfl
  refine o1 (asg ?_); refine nx ?_; refine runs_ret ?_; refine fin_ret ?_; refine fin_d1 rfl rfl ?_
  rfl
theorem with_spec (k m : Int) (s : ByteArray) (ls : List Lvl) (args bs : List Trm) : TriD Tryz.prog gl 57 [(Trm.mk k m s ls args).d, .sl 5 (trms bs)] (· = (Trm.mk k m s ls bs).d) := by
  refine triD_of_runs Tryz.func57 rfl Tryz.ntmps57 (rs := [.cell 4 31]) rfl rfl rfl ?_
  refine sr ?_; refine oc (T := fun _ => False) (bx ti31 ?_ (hl := by simp only [List.length_cons, List.length_nil, Nat.reduceAdd]; rfl))
  refine oc (T := fun _ => False) (alc ti31 ?_ (hl := by simp only [List.length_cons, List.length_nil, Nat.reduceAdd]; rfl)); refine nx ?_; refine sr ?_; refine o1 (fdb ti31 ?_); refine o1 (ldb ti3 ?_); refine o1 (fdb ti31 ?_)
  refine o1 (ldb ti3 ?_); refine o1 (fdb ti31 ?_); refine o1 (ldb ti9 ?_); refine o1 (fdb ti31 ?_); refine o1 (ldb ti28 ?_); refine o1 (mv ?_); refine o1 (bld ti31 ?_); refine oc (sto ti31 ?_); refine nx ?_; refine runs_ret ?_
  refine fin_ret ?_; refine fin_d ⟨_, _, rfl, (from_cell rfl rfl ti31 rfl rfl rfl rfl), rfl⟩ rfl ?_
  rfl
theorem rlift_spec {n0 : Int} (h0 : 0 ≤ n0 ∧ n0 ≤ 1099511627776) : ∀ (n : Nat) (k m : Int) (s : ByteArray) (ls : List Lvl) (args : List Trm) (fr : Int), (Trm.mk k m s ls args).size ≤ n → goodT (.mk k m s ls args) → 0 ≤ fr → fr + (Trm.mk k m s ls args).size ≤ 1099511627776 →
    TriD Tryz.prog gl 18 [(Trm.mk k m s ls args).d, .v (.int .i64 n0), .v (.int .i64 fr)] (· = (mapT (liftF n0 0) (.mk k m s ls args) fr).d) := by
  intro n
  induction n with
  | zero => intro k m s ls args d h; simp [Trm.size] at h
  | succ n ih =>
    intro k m s ls args fr hsz hg hd0 hd1
    have hsz2 := hsz
    simp only [Trm.size] at hsz2 hd1
    have hal := trms_len args
    have hsa := sizesT_len args
    have hml := mapTs_len (liftF n0 0) (decide (4 ≤ k)) fr args
    refine triD_of_runs Tryz.func18 rfl Tryz.ntmps18 (rs := [.cell 6 31]) rfl rfl rfl ?_
    refine sr ?_; refine oc (T := fun _ => False) (bx ti31 ?_ (hl := by simp only [List.length_cons, List.length_nil, Nat.reduceAdd]; rfl))
    refine oc (T := fun _ => False) (alc ti31 ?_ (hl := by simp only [List.length_cons, List.length_nil, Nat.reduceAdd]; rfl)); refine nx ?_; refine runs_seq ?_; refine sr ?_; refine o1 (fdb ti31 ?_); refine o1 (ldb ti3 ?_); refine o1 (ieq ?_)
    refine nx ?_; refine cd (fun h1 => ?_) (fun h1 => ?_)
    · (try simp only [nrm, Int.reduceEq, Int.reduceNe, Int.reduceLT, Int.reduceLE] at h1)
      refine runs_seq ?_; refine runs_seq ?_; refine kp [6, 3, 1, 2] ?_; obtain rfl := h1
      have hgv := good_var hg rfl
      obtain ⟨hm0, hm1, rfl, rfl, rfl⟩ := hgv; refine runs_region ?_; refine o1 (fdb ti31 ?_); refine o1 (ldb ti3 ?_); refine o1 (mv ?_); refine o1 (ige ?_); refine nx ?_; refine cdf (fun h2 => ?_) (fun h2 => ?_)
      · (try simp only [nrm, Int.reduceEq, Int.reduceNe, Int.reduceLT, Int.reduceLE] at h2)
        refine runs_skip ?_; refine seq_normal ?_; refine kp [6, 3] ?_; refine sr ?_; refine o1 (ldb ti31 ?_); refine oc (sto ti31 ?_); refine nx ?_; refine runs_ret ?_; refine seq_ret ?_; refine fin_ret ?_
        refine fin_dl ⟨_, _, rfl, (from_cell rfl rfl ti31 rfl rfl rfl rfl), rfl⟩ rfl ((Trm.mk 0 m .empty [] []).d) (by exact .refl _) ?_
        rw [mapT_var, liftF, if_neg (by omega)]
      (try simp only [nrm, Int.reduceEq, Int.reduceNe, Int.reduceLT, Int.reduceLE] at h2); refine kp [6, 3, 1] ?_; refine sr ?_; refine o1 (fdb ti31 ?_); refine o1 (ldb ti3 ?_); refine o1 (mv ?_); refine o1 (iad ?_); refine o1 (bld ti31 ?_)
      refine oc (sto ti31 ?_); refine nx ?_; refine runs_ret ?_; refine seq_ret ?_; refine seq_ret ?_; refine fin_ret ?_
      refine fin_dl ⟨_, _, rfl, (from_cell rfl rfl ti31 rfl rfl rfl rfl), rfl⟩ rfl ((Trm.mk 0 (m + n0) .empty [] []).d) (by repeat (first | exact .refl _ | exact .nil | refine .agg ?_ | refine .cons ?_ ?_)) ?_
      rw [mapT_var, liftF, if_pos (by omega)]
    (try simp only [nrm, Int.reduceEq, Int.reduceNe, Int.reduceLT, Int.reduceLE] at h1); refine runs_skip ?_; refine seq_normal ?_; refine kp [6, 3, 1, 2] ?_; refine sr ?_; refine o1 (asg ?_); refine nx ?_; refine runs_seq ?_; refine sr ?_
    refine o1 (asg ?_); refine nx ?_; refine runs_block ?_; refine runs_nilrow 31 5 rfl ?_
    apply runs_loop_o (ι := Nat) (fun i => [(8, int i), (7, .own 2 5 (trms ((mapTs (liftF n0 0) (decide (4 ≤ k)) args fr).take i)))]) (fun i => [.cells [.d (.v (.int .i64 k)), .d (.v (.int .i64 m)), .d (.v (.string s)), .d (.sl 3 (lvls ls)), .d (.sl 5 (trms args))] 31, .cells [.d (.v (.int .i64 0)), .d (.v (.int .i64 0)), .d (.v (.string .empty)), .d (.v (.slice none 0 0)), .d (.v (.slice none 0 0))] 31, .row 31 5]) [6, 3, 1, 2] (fun i => i ≤ args.length) (fun i => args.length - i) (0) ([0, 1, 2])
    case hk => exact rfl
    case hI =>
      exact Nat.zero_le _
    case hm =>
      refine mo ?_ (sly (slx rfl (by (rw [List.take_zero]; exact Fit.nil rfl)) (sly (sly (sly (sly slz))))))
      repeat (first | exact boz | refine boc ?_ | refine bon ?_)
    case h =>
      rintro i hinv
      try dsimp only at hinv
      refine kp [8, 7, 6, 3, 1, 2] ?_; refine runs_seq ?_; refine sr ?_; refine o1 (mv ?_); refine o1 (fdb ti31 ?_); refine o1 (ldb ti29 ?_); refine o1 (le1 us29 ?_); refine o1 (ilt ?_); refine nx ?_; refine cdf (fun h7 => ?_) (fun h7 => ?_)
      · (try simp only [nrm, Int.reduceEq, Int.reduceNe, Int.reduceLT, Int.reduceLE] at h7)
        refine runs_exit ?_; refine seq_exit ?_; refine seq_exit ?_; refine inb_exit ?_; refine seq_normal ?_; refine runs_seq ?_; refine kp [7, 6, 3] ?_; obtain rfl : i = args.length := (by omega)
        rw [List.take_of_length_le (by omega)]
        have hws := with_spec (gl := gl) k m s ls args (mapTs (liftF n0 0) (decide (4 ≤ k)) args fr)
        refine runs_region ?_; refine o1 (ldb ti31 ?_); refine o1 (mv ?_); refine oc (cv ca57 rfl rfl (hws) (fid (fid .nil)) ?_); refine oc (sto ti31 ?_); refine nx ?_; refine runs_ret ?_; refine fin_ret ?_
        refine fin_dl ⟨_, _, rfl, (from_cell rfl rfl ti31 rfl rfl rfl rfl), rfl⟩ rfl ((Trm.mk k m s ls (mapTs (liftF n0 0) (decide (4 ≤ k)) args fr)).d) (by exact .refl _) ?_
        rw [mapT, if_neg h1]
      (try simp only [nrm, Int.reduceEq, Int.reduceNe, Int.reduceLT, Int.reduceLE] at h7); refine runs_skip ?_; refine seq_normal ?_; refine runs_seq ?_; refine runs_block ?_; refine runs_seq ?_; refine kp [8, 7, 6, 3, 1, 2] ?_
      obtain ⟨k2, m2, s2, l2, a2, hget⟩ := trm_get (show i < args.length by omega)
      have hg1 := sizeT_get hget
      have hg2 := mapTs_get (liftF n0 0) (decide (4 ≤ k)) fr hget
      have hgg := goodTs_get hg.2.1 hget
      obtain ⟨k3, m3, s3, l3, a3, hY⟩ := Trm.case (mapT (liftF n0 0) (.mk k2 m2 s2 l2 a2) (if decide (4 ≤ k) = true ∧ i + 1 = args.length then fr + 1 else fr)); refine runs_region ?_; refine o1 (mv ?_); refine o1 (asg ?_); refine nx ?_
      refine runs_seq ?_; refine sr ?_; refine o1 (ldb ti31 ?_); refine o1 (mv ?_); refine oc (cv ca56 rfl rfl (bindsE_spec k m s ls args i (by omega)) (fid (fir .nil)) ?_); refine nx ?_; refine kp [33, 9, 8, 7, 6, 3, 1, 2] ?_
      apply runs_cut_c (ι := Unit) (fun _ => [(9, int (if decide (4 ≤ k) = true ∧ i + 1 = args.length then fr + 1 else fr))]) [8, 7, 6, 3, 1, 2] (fun _ => True)
      case hk => exact rfl
      case h1 =>
        refine cdf (fun h10 => ?_) (fun h10 => ?_)
        · (try simp only [nrm, Int.reduceEq, Int.reduceNe, Int.reduceLT, Int.reduceLE] at h10)
          refine runs_skip ?_; refine seq_back ?_; refine back_i (()) rfl ?_ ?_
          · trivial
          · refine mo ?_ (slx rfl (by exact Fit.of_eq (by first | (rw [if_pos (by simp only [decide_eq_true_eq]; omega)]; rfl) | (rw [if_neg (by simp only [decide_eq_true_eq]; omega)]; rfl))) (sly (sly (sly (sly (sly (sly slz)))))))
            repeat (first | exact boz | refine boc ?_ | refine bor ?_)
        (try simp only [nrm, Int.reduceEq, Int.reduceNe, Int.reduceLT, Int.reduceLE] at h10); refine runs_region ?_; refine o1 (mv ?_); refine o1 (iad ?_); refine o1 (asg ?_); refine ops_nil ?_; refine seq_back ?_; refine back_i (()) rfl ?_ ?_
        · trivial
        · refine mo ?_ (slx rfl (by exact Fit.of_eq (by first | (rw [if_pos (by simp only [decide_eq_true_eq]; omega)]; rfl) | (rw [if_neg (by simp only [decide_eq_true_eq]; omega)]; rfl))) (sly (sly (sly (sly (sly (sly slz)))))))
          repeat (first | exact boz | refine boc ?_ | refine bor ?_)
      case h2 =>
        rintro _ hcut
        try dsimp only at hcut
        refine kp [9, 8, 7, 6, 3, 1, 2] ?_
        have hihx := ih k2 m2 s2 l2 a2 (if decide (4 ≤ k) = true ∧ i + 1 = args.length then fr + 1 else fr) (by omega) hgg (by split <;> omega) (by split <;> omega)
        rw [hY] at hihx hg2
        have hnx : trms ((mapTs (liftF n0 0) (decide (4 ≤ k)) args fr).take i) ++ [[.v (.int .i64 k3), .v (.int .i64 m3), .v (.string s3), .sl 3 (lvls l3), .sl 5 (trms a3)]] = trms ((mapTs (liftF n0 0) (decide (4 ≤ k)) args fr).take (i + 1)) := mapTs_take hg2
        have htl := trms_len ((mapTs (liftF n0 0) (decide (4 ≤ k)) args fr).take i)
        have htk := List.length_take (i := i) (l := mapTs (liftF n0 0) (decide (4 ≤ k)) args fr)
        refine runs_region ?_; refine o1 (mv ?_); refine o1 (fdb ti31 ?_); refine o1 (ldb ti29 ?_); refine o1 (mv ?_); refine o1 (ixs us29 te29 ?_ (he := by exact (trm_at hget))); refine o1 (ldc ti31 ?_); refine o1 (mv ?_); refine o1 (mv ?_)
        refine oc (cv ca18 rfl rfl (hihx) (fid (fir (fir .nil))) ?_)
        refine oc (T := fun _ => False) (op_lit sl29 [.tmp 44] ti31 rfl rfl rfl rfl rfl rfl rfl (by decide) (by decide) (by decide) (by simp only [List.length_cons, List.length_nil, Nat.reduceAdd]; rfl) rfl ?_)
        refine oc (op_append sl29 rfl rfl rfl rfl rfl rfl rfl (.inl rfl) (by decide) (by simp) (by (simp only [maxLen, List.length_cons, List.length_nil]; omega)) rfl rfl rfl ?_); refine o1 (asg ?_); refine ops_nil ?_; refine inb_normal ?_
        refine seq_normal ?_; refine kp [7, 8, 6, 3, 1, 2] ?_; refine runs_region ?_; refine o1 (mv ?_); refine o1 (iad ?_); refine o1 (asg ?_); refine ops_nil ?_; refine seq_back ?_
        rw [hnx]
        refine back_c (i + 1) rfl ?_ ([0, 1, 2]) ?_
        · exact ⟨by omega, by omega⟩
        · refine mo ?_ (sly (sly (sly (sly (sly (sly slz))))))
          repeat (first | exact boz | refine boc ?_ | refine bor ?_)
end Go.Proofs.YtneaancanfpdhaaGreatDoor
namespace Go.Proofs.YtneaancanfpdhaaGreatDoor
open Go Go.Vd Go.RowKit
attribute [local irreducible] Runs OpsR OpR FloatR AnyR AnyO
variable {g gl : Nat → List D}
theorem rsubstAt_spec (kv nv : Int) (sv : ByteArray) (lv : List Lvl) (av : List Trm) (hgv' : goodT (.mk kv nv sv lv av)) (hsv : (Trm.mk kv nv sv lv av).size ≤ 549755813888) : ∀ (n : Nat) (k m : Int) (s : ByteArray) (ls : List Lvl) (args : List Trm) (fr : Int), (Trm.mk k m s ls args).size ≤ n → goodT (.mk k m s ls args) → 0 ≤ fr → fr + (Trm.mk k m s ls args).size ≤ 549755813888 →
    TriD Tryz.prog gl 58 [(Trm.mk k m s ls args).d, (Trm.mk kv nv sv lv av).d, .v (.int .i64 fr)] (· = (mapT (instF (.mk kv nv sv lv av)) (.mk k m s ls args) fr).d) := by
  intro n
  induction n with
  | zero => intro k m s ls args d h; simp [Trm.size] at h
  | succ n ih =>
    intro k m s ls args fr hsz hg hd0 hd1
    have hsz2 := hsz
    simp only [Trm.size] at hsz2 hd1
    have hal := trms_len args
    have hsa := sizesT_len args
    have hml := mapTs_len (instF (.mk kv nv sv lv av)) (decide (4 ≤ k)) fr args
    refine triD_of_runs Tryz.func58 rfl Tryz.ntmps58 (rs := [.cell 6 31]) rfl rfl rfl ?_
    refine sr ?_; refine oc (T := fun _ => False) (bx ti31 ?_ (hl := by simp only [List.length_cons, List.length_nil, Nat.reduceAdd]; rfl))
    refine oc (T := fun _ => False) (bx ti31 ?_ (hl := by simp only [List.length_cons, List.length_nil, Nat.reduceAdd]; rfl))
    refine oc (T := fun _ => False) (alc ti31 ?_ (hl := by simp only [List.length_cons, List.length_nil, Nat.reduceAdd]; rfl)); refine nx ?_; refine runs_seq ?_; refine sr ?_; refine o1 (fdb ti31 ?_); refine o1 (ldb ti3 ?_); refine o1 (ieq ?_)
    refine nx ?_; refine cd (fun h1 => ?_) (fun h1 => ?_)
    · (try simp only [nrm, Int.reduceEq, Int.reduceNe, Int.reduceLT, Int.reduceLE] at h1)
      refine runs_seq ?_; refine runs_seq ?_; refine kp [6, 4, 3, 2] ?_; obtain rfl := h1
      have hgv := good_var hg rfl
      obtain ⟨hm0, hm1, rfl, rfl, rfl⟩ := hgv
      have hli := rlift_spec (gl := gl) (n0 := fr) ⟨hd0, by omega⟩ _ kv nv sv lv av 0 (Nat.le_refl _) hgv' (Int.le_refl _) (by omega)
      rw [← liftT_map] at hli
      obtain ⟨k1, m1, s1, l1, a1, hX⟩ := Trm.case (liftT (.mk kv nv sv lv av) fr 0)
      rw [hX] at hli
      refine runs_region ?_; refine o1 (fdb ti31 ?_); refine o1 (ldb ti3 ?_); refine o1 (mv ?_); refine o1 (ieq ?_); refine nx ?_; refine cd (fun h2 => ?_) (fun h2 => ?_)
      · (try simp only [nrm, Int.reduceEq, Int.reduceNe, Int.reduceLT, Int.reduceLE] at h2)
        refine kp [6, 4, 2] ?_; refine sr ?_; refine o1 (ldb ti31 ?_); refine o1 (mv ?_); refine oc (cv ca18 rfl rfl (hli) (fid (fir (fir .nil))) ?_); refine oc (sto ti31 ?_); refine nx ?_; refine runs_ret ?_; refine seq_ret ?_; refine seq_ret ?_
        refine fin_ret ?_; refine fin_dl ⟨_, _, rfl, (from_cell rfl rfl ti31 rfl rfl rfl rfl), rfl⟩ rfl ((Trm.mk k1 m1 s1 l1 a1).d) (by exact .refl _) ?_
        rw [mapT_var, instF, if_neg (by omega), if_pos (by omega), hX]
      (try simp only [nrm, Int.reduceEq, Int.reduceNe, Int.reduceLT, Int.reduceLE] at h2); refine runs_skip ?_; refine seq_normal ?_; refine runs_seq ?_; refine kp [6, 3, 2] ?_; refine sr ?_; refine o1 (fdb ti31 ?_); refine o1 (ldb ti3 ?_)
      refine o1 (mv ?_); refine o1 (igt ?_); refine nx ?_; refine cdf (fun h4 => ?_) (fun h4 => ?_)
      · (try simp only [nrm, Int.reduceEq, Int.reduceNe, Int.reduceLT, Int.reduceLE] at h4)
        refine runs_skip ?_; refine seq_normal ?_; refine kp [6, 3] ?_; refine sr ?_; refine o1 (ldb ti31 ?_); refine oc (sto ti31 ?_); refine nx ?_; refine runs_ret ?_; refine seq_ret ?_; refine fin_ret ?_
        refine fin_dl ⟨_, _, rfl, (from_cell rfl rfl ti31 rfl rfl rfl rfl), rfl⟩ rfl ((Trm.mk 0 m .empty [] []).d) (by exact .refl _) ?_
        rw [mapT_var, instF, if_pos (by omega)]
      (try simp only [nrm, Int.reduceEq, Int.reduceNe, Int.reduceLT, Int.reduceLE] at h4); refine kp [6, 3] ?_; refine sr ?_; refine o1 (fdb ti31 ?_); refine o1 (ldb ti3 ?_); refine o1 (isu ?_); refine o1 (bld ti31 ?_); refine oc (sto ti31 ?_)
      refine nx ?_; refine runs_ret ?_; refine seq_ret ?_; refine seq_ret ?_; refine fin_ret ?_
      refine fin_dl ⟨_, _, rfl, (from_cell rfl rfl ti31 rfl rfl rfl rfl), rfl⟩ rfl ((Trm.mk 0 (m - 1) .empty [] []).d) (by repeat (first | exact .refl _ | exact .nil | refine .agg ?_ | refine .cons ?_ ?_)) ?_
      rw [mapT_var, instF, if_neg (by omega), if_neg (by omega)]
    (try simp only [nrm, Int.reduceEq, Int.reduceNe, Int.reduceLT, Int.reduceLE] at h1); refine runs_skip ?_; refine seq_normal ?_; refine kp [6, 4, 3, 2] ?_; refine sr ?_; refine o1 (asg ?_); refine nx ?_; refine runs_seq ?_; refine sr ?_
    refine o1 (asg ?_); refine nx ?_; refine runs_block ?_; refine runs_nilrow 31 5 rfl ?_
    apply runs_loop_o (ι := Nat) (fun i => [(8, int i), (7, .own 3 5 (trms ((mapTs (instF (.mk kv nv sv lv av)) (decide (4 ≤ k)) args fr).take i)))]) (fun i => [.cells [.d (.v (.int .i64 k)), .d (.v (.int .i64 m)), .d (.v (.string s)), .d (.sl 3 (lvls ls)), .d (.sl 5 (trms args))] 31, .cells [.d (.v (.int .i64 kv)), .d (.v (.int .i64 nv)), .d (.v (.string sv)), .d (.sl 3 (lvls lv)), .d (.sl 5 (trms av))] 31, .cells [.d (.v (.int .i64 0)), .d (.v (.int .i64 0)), .d (.v (.string .empty)), .d (.v (.slice none 0 0)), .d (.v (.slice none 0 0))] 31, .row 31 5]) [6, 4, 3, 2] (fun i => i ≤ args.length) (fun i => args.length - i) (0) ([0, 1, 2, 3])
    case hk => exact rfl
    case hI =>
      exact Nat.zero_le _
    case hm =>
      refine mo ?_ (sly (slx rfl (by (rw [List.take_zero]; exact Fit.nil rfl)) (sly (sly (sly (sly slz))))))
      repeat (first | exact boz | refine boc ?_ | refine bon ?_)
    case h =>
      rintro i hinv
      try dsimp only at hinv
      refine kp [8, 7, 6, 4, 3, 2] ?_; refine runs_seq ?_; refine sr ?_; refine o1 (mv ?_); refine o1 (fdb ti31 ?_); refine o1 (ldb ti29 ?_); refine o1 (le1 us29 ?_); refine o1 (ilt ?_); refine nx ?_; refine cdf (fun h9 => ?_) (fun h9 => ?_)
      · (try simp only [nrm, Int.reduceEq, Int.reduceNe, Int.reduceLT, Int.reduceLE] at h9)
        refine runs_exit ?_; refine seq_exit ?_; refine seq_exit ?_; refine inb_exit ?_; refine seq_normal ?_; refine runs_seq ?_; refine kp [7, 6, 3] ?_; obtain rfl : i = args.length := (by omega)
        rw [List.take_of_length_le (by omega)]
        have hws := with_spec (gl := gl) k m s ls args (mapTs (instF (.mk kv nv sv lv av)) (decide (4 ≤ k)) args fr)
        refine runs_region ?_; refine o1 (ldb ti31 ?_); refine o1 (mv ?_); refine oc (cv ca57 rfl rfl (hws) (fid (fid .nil)) ?_); refine oc (sto ti31 ?_); refine nx ?_; refine runs_ret ?_; refine fin_ret ?_
        refine fin_dl ⟨_, _, rfl, (from_cell rfl rfl ti31 rfl rfl rfl rfl), rfl⟩ rfl ((Trm.mk k m s ls (mapTs (instF (.mk kv nv sv lv av)) (decide (4 ≤ k)) args fr)).d) (by exact .refl _) ?_
        rw [mapT, if_neg h1]
      (try simp only [nrm, Int.reduceEq, Int.reduceNe, Int.reduceLT, Int.reduceLE] at h9); refine runs_skip ?_; refine seq_normal ?_; refine runs_seq ?_; refine runs_block ?_; refine runs_seq ?_; refine kp [8, 7, 6, 4, 3, 2] ?_
      obtain ⟨k2, m2, s2, l2, a2, hget⟩ := trm_get (show i < args.length by omega)
      have hg1 := sizeT_get hget
      have hg2 := mapTs_get (instF (.mk kv nv sv lv av)) (decide (4 ≤ k)) fr hget
      have hgg := goodTs_get hg.2.1 hget
      obtain ⟨k3, m3, s3, l3, a3, hY⟩ := Trm.case (mapT (instF (.mk kv nv sv lv av)) (.mk k2 m2 s2 l2 a2) (if decide (4 ≤ k) = true ∧ i + 1 = args.length then fr + 1 else fr)); refine runs_region ?_; refine o1 (mv ?_); refine o1 (asg ?_)
      refine nx ?_; refine runs_seq ?_; refine sr ?_; refine o1 (ldb ti31 ?_); refine o1 (mv ?_); refine oc (cv ca56 rfl rfl (bindsE_spec k m s ls args i (by omega)) (fid (fir .nil)) ?_); refine nx ?_; refine kp [39, 9, 8, 7, 6, 4, 3, 2] ?_
      apply runs_cut_c (ι := Unit) (fun _ => [(9, int (if decide (4 ≤ k) = true ∧ i + 1 = args.length then fr + 1 else fr))]) [8, 7, 6, 4, 3, 2] (fun _ => True)
      case hk => exact rfl
      case h1 =>
        refine cdf (fun h12 => ?_) (fun h12 => ?_)
        · (try simp only [nrm, Int.reduceEq, Int.reduceNe, Int.reduceLT, Int.reduceLE] at h12)
          refine runs_skip ?_; refine seq_back ?_; refine back_i (()) rfl ?_ ?_
          · trivial
          · refine mo ?_ (slx rfl (by exact Fit.of_eq (by first | (rw [if_pos (by simp only [decide_eq_true_eq]; omega)]; rfl) | (rw [if_neg (by simp only [decide_eq_true_eq]; omega)]; rfl))) (sly (sly (sly (sly (sly (sly slz)))))))
            repeat (first | exact boz | refine boc ?_ | refine bor ?_)
        (try simp only [nrm, Int.reduceEq, Int.reduceNe, Int.reduceLT, Int.reduceLE] at h12); refine runs_region ?_; refine o1 (mv ?_); refine o1 (iad ?_); refine o1 (asg ?_); refine ops_nil ?_; refine seq_back ?_; refine back_i (()) rfl ?_ ?_
        · trivial
        · refine mo ?_ (slx rfl (by exact Fit.of_eq (by first | (rw [if_pos (by simp only [decide_eq_true_eq]; omega)]; rfl) | (rw [if_neg (by simp only [decide_eq_true_eq]; omega)]; rfl))) (sly (sly (sly (sly (sly (sly slz)))))))
          repeat (first | exact boz | refine boc ?_ | refine bor ?_)
      case h2 =>
        rintro _ hcut
        try dsimp only at hcut
        refine kp [9, 8, 7, 6, 4, 3, 2] ?_
        have hihx := ih k2 m2 s2 l2 a2 (if decide (4 ≤ k) = true ∧ i + 1 = args.length then fr + 1 else fr) (by omega) hgg (by split <;> omega) (by split <;> omega)
        rw [hY] at hihx hg2
        have hnx : trms ((mapTs (instF (.mk kv nv sv lv av)) (decide (4 ≤ k)) args fr).take i) ++ [[.v (.int .i64 k3), .v (.int .i64 m3), .v (.string s3), .sl 3 (lvls l3), .sl 5 (trms a3)]] = trms ((mapTs (instF (.mk kv nv sv lv av)) (decide (4 ≤ k)) args fr).take (i + 1)) := mapTs_take hg2
        have htl := trms_len ((mapTs (instF (.mk kv nv sv lv av)) (decide (4 ≤ k)) args fr).take i)
        have htk := List.length_take (i := i) (l := mapTs (instF (.mk kv nv sv lv av)) (decide (4 ≤ k)) args fr)
        refine a_start ?_ (hm := by exact mixed); refine A1 0 rfl (mv ⟨_, rfl, ?_⟩); refine A1 1 rfl (fdb ti31 ⟨_, rfl, ?_⟩); refine A1 2 rfl (ldb ti29 ⟨_, rfl, ?_⟩); refine A1 3 rfl (mv ⟨_, rfl, ?_⟩)
        refine A1 4 rfl (ixs us29 te29 ⟨_, rfl, ?_⟩ (he := by exact (trm_at hget))); refine A1 5 rfl (ldc ti31 ⟨_, rfl, ?_⟩); refine A1 6 rfl (ldb ti31 ⟨_, rfl, ?_⟩); refine A1 7 rfl (mv ⟨_, rfl, ?_⟩)
        refine A2 8 rfl (cv ca58 rfl rfl (hihx) (fid (fid (fir .nil))) ?_)
        refine A2 (T := fun _ => False) 9 rfl (op_lit sl29 [.tmp 50] ti31 rfl rfl rfl rfl rfl rfl rfl (by decide) (by decide) (by decide) (by simp only [List.length_cons, List.length_nil, Nat.reduceAdd]; rfl) rfl ?_)
        refine A2 10 rfl (op_append sl29 rfl rfl rfl rfl rfl rfl rfl (.inl rfl) (by decide) (by simp) (by (simp only [maxLen, List.length_cons, List.length_nil]; omega)) rfl rfl rfl ?_); refine A1 11 rfl (asg ⟨_, rfl, ?_⟩); refine a_end ?_
        refine inb_normal ?_; refine seq_normal ?_; refine kp [7, 8, 6, 4, 3, 2] ?_; refine runs_region ?_; refine o1 (mv ?_); refine o1 (iad ?_); refine o1 (asg ?_); refine ops_nil ?_; refine seq_back ?_
        rw [hnx]
        refine back_c (i + 1) rfl ?_ ([0, 1, 2, 3]) ?_
        · exact ⟨by omega, by omega⟩
        · refine mo ?_ (sly (sly (sly (sly (sly (sly slz))))))
          repeat (first | exact boz | refine boc ?_ | refine bor ?_)
theorem rsubst_spec (kv nv : Int) (sv : ByteArray) (lv : List Lvl) (av : List Trm) (hgv : goodT (.mk kv nv sv lv av)) (hsv : (Trm.mk kv nv sv lv av).size ≤ 549755813888) (k m : Int) (s : ByteArray) (ls : List Lvl) (args : List Trm) (hg : goodT (.mk k m s ls args)) (hsz : (Trm.mk k m s ls args).size ≤ 549755813888) :
    TriD Tryz.prog gl 19 [(Trm.mk k m s ls args).d, (Trm.mk kv nv sv lv av).d] (· = (substT (.mk k m s ls args) (.mk kv nv sv lv av)).d) := by
  have hc := rsubstAt_spec (gl := gl) kv nv sv lv av hgv hsv _ k m s ls args 0 (Nat.le_refl _) hg (Int.le_refl _) (by omega)
  rw [substT]
  obtain ⟨k1, m1, s1, l1, a1, hX⟩ := Trm.case (mapT (instF (.mk kv nv sv lv av)) (.mk k m s ls args) 0)
  rw [hX] at hc ⊢
  refine triD_of_runs Tryz.func19 rfl Tryz.ntmps19 (rs := [.cell 4 31]) rfl rfl rfl ?_
  refine sr ?_; refine oc (T := fun _ => False) (bx ti31 ?_ (hl := by simp only [List.length_cons, List.length_nil, Nat.reduceAdd]; rfl))
  refine oc (T := fun _ => False) (bx ti31 ?_ (hl := by simp only [List.length_cons, List.length_nil, Nat.reduceAdd]; rfl))
  refine oc (T := fun _ => False) (alc ti31 ?_ (hl := by simp only [List.length_cons, List.length_nil, Nat.reduceAdd]; rfl)); refine nx ?_; refine sr ?_; refine o1 (ldb ti31 ?_); refine o1 (ldb ti31 ?_)
  refine oc (cv ca58 rfl rfl (hc) (fid (fid (fir .nil))) ?_); refine oc (sto ti31 ?_); refine nx ?_; refine runs_ret ?_; refine fin_ret ?_; refine fin_d ⟨_, _, rfl, (from_cell rfl rfl ti31 rfl rfl rfl rfl), rfl⟩ rfl ?_
  rfl
end Go.Proofs.YtneaancanfpdhaaGreatDoor
namespace Go.Vd
open Go Go.RowKit
theorem bytes_fold (s : ByteArray) : (s.data.toList.map fun c => (c.toNat : Int)).foldl (fun r n => r.push (UInt8.ofNat n.toNat)) ByteArray.empty = s := by
  have h : ∀ (l : List UInt8) (r : ByteArray), (l.map fun c => (c.toNat : Int)).foldl (fun r n => r.push (UInt8.ofNat n.toNat)) r = ⟨⟨r.data.toList ++ l⟩⟩ := by
    intro l
    induction l with
    | nil => intro r; simp
    | cons c l ih =>
      intro r
      simp only [List.map_cons, List.foldl_cons]
      rw [ih]
      simp [ByteArray.push]
  rw [h]
  rfl
theorem fl_bytes_str {P : Program} {GL : Nat → List D} {o : Oper} {σ : St} {K : SV → List Nat → Prop} {src dst e : TypeId} {x : Operand} {s : ByteArray} {i : Nat} {ls : List (List D)} (hu : P.underlying src = some (.slice e)) (he : P.underlying e = some (.int .u8)) (hd : P.underlying dst = some .string) (ho : o.op = .convert src dst x)
    (hx : evO GL σ.sl x = some (.own i 1 ls)) (hls : ls = bytesD s) (hne : s ≠ .empty) (hK : K (.d (.v (.string s))) []) : FloatR P GL o σ K := fun B g a w hr => by
  subst hls
  obtain ⟨ad, cap, h1, hc, hd'⟩ : (D.sl 1 (bytesD s)).Den g.m (a.eval x) := own_sl (hr.evo hx)
  obtain ⟨b, off, rfl, hd2⟩ := hd' (bytesD_ne hne)
  have hm : ∀ (j : Nat) c, s.data.toList[j]? = some c → g.m b (off + j) = some (.int .u8 c.toNat) := fun j c hj => by
    have hj2 : (bytesD s)[j]? = some [.v (.int .u8 c.toNat)] := by simp only [bytesD, List.getElem?_map, hj, Option.map_some]
    obtain ⟨⟨y, hy, hyd⟩, _⟩ := (hd2.get hj2).2
    rw [Nat.mul_one] at hy
    rw [hy]; exact congrArg some hyd
  refine ⟨s.data.toList.zipIdx.map fun p => (⟨b, off + p.2, none⟩, .int .u8 p.1.toNat), .d (.v (.string s)), .string s, [], fun w' hcw => ?_, fun p hp => ?_, fun p hp => ?_, rfl, hK⟩
  · have hl : (loadCells ⟨b, off, none⟩ (bytesD s).length).run P w' = .ok ((s.data.toList.map fun c => (c.toNat : Int)).map (Value.int .u8)).toArray w' := by
      have := run_loadCells_list (P := P) w' ⟨b, off, none⟩ ((s.data.toList.map fun c => (c.toNat : Int)).map (Value.int .u8)) (fun j v hj => by
        rw [addr_add]
        simp only [List.getElem?_map] at hj
        cases hjc : s.data.toList[j]? with
        | none => rw [hjc] at hj; cases hj
        | some c =>
          rw [hjc] at hj
          simp only [Option.map_some, Option.some.injEq] at hj
          subst hj
          exact hcw _ (List.mem_map.2 ⟨(c, j), List.mem_zipIdx_iff_getElem?.2 hjc, rfl⟩))
      simpa [bytesD] using this
    simp only [execOp, ho, h1, Sem.run_bind, run_convert_bytes_string w' src dst e _ _ _ hu he hd, run_bytesToString w' _ _ _ _ hl, Result.andThen_ok, bytes_fold]
    rfl
  · obtain ⟨⟨c, j⟩, hq, rfl⟩ := List.mem_map.1 hp
    rw [List.mem_zipIdx_iff_getElem?] at hq
    exact (hr.store.sat _ _ _ (hm j c hq)).1
  · obtain ⟨⟨c, j⟩, hq, rfl⟩ := List.mem_map.1 hp
    rw [List.mem_zipIdx_iff_getElem?] at hq
    exact ⟨rfl, .inl (hm j c hq)⟩
end Go.Vd
namespace Go.Vd
open Go Go.RowKit
end Go.Vd
namespace Go.Vd
open Go Go.RowKit
/-! data, parted -/
theorem DenL.split {m : Mem} : ∀ {l r : List D} {vs : List Value}, DenL m (l ++ r) vs → DenL m l (vs.take l.length) ∧ DenL m r (vs.drop l.length)
  | [], r, vs, h => by simpa [DenL] using h
  | d :: l, r, vs, h => by
    obtain ⟨x, l', e, h1, h2⟩ := h
    subst e
    have ih := DenL.split h2
    exact ⟨⟨x, _, by simp, h1, ih.1⟩, by simpa using ih.2⟩
theorem den_get {m : Mem} {k : Nat} : ∀ {ls : List (List D)} {xs : List Value} {r : Nat} {el : List D}, (∀ x ∈ ls, x.length = k) → DenL m ls.flatten xs → ls[r]? = some el → DenL m el ((xs.drop (r * k)).take k)
  | [], _, r, el, _, _, h => by simp at h
  | a :: ls, xs, 0, el, hk, hd, h => by
    simp at h; subst h
    have := (DenL.split (l := a) (r := ls.flatten) (by simpa using hd)).1
    rw [hk a (by simp)] at this
    simpa using this
  | a :: ls, xs, r + 1, el, hk, hd, h => by
    have h2 := (DenL.split (l := a) (r := ls.flatten) (by simpa using hd)).2
    rw [hk a (by simp)] at h2
    have := den_get (fun x hx => hk x (by simp [hx])) h2 (r := r) (by simpa using h)
    rw [List.drop_drop] at this
    rwa [show (r + 1) * k = k + r * k by rw [Nat.add_mul]; omega]
theorem den_set {m : Mem} {k : Nat} : ∀ {ls : List (List D)} {xs : List Value} {r : Nat} {ds : List D} {vs : List Value}, (∀ x ∈ ls, x.length = k) → DenL m ls.flatten xs → r < ls.length → ds.length = k → DenL m ds vs → DenL m (ls.set r ds).flatten (xs.take (r * k) ++ vs ++ xs.drop (r * k + k))
  | [], _, r, _, _, _, _, h, _, _ => by simp at h
  | a :: ls, xs, 0, ds, vs, hk, hd, _, hl, hv => by
    have h2 := (DenL.split (l := a) (r := ls.flatten) (by simpa using hd)).2
    rw [hk a (by simp)] at h2
    simpa using hv.append h2
  | a :: ls, xs, r + 1, ds, vs, hk, hd, h, hl, hv => by
    have h1 := DenL.split (l := a) (r := ls.flatten) (by simpa using hd)
    rw [hk a (by simp)] at h1
    have ih := den_set (fun x hx => hk x (by simp [hx])) h1.2 (r := r) (ds := ds) (vs := vs) (by simpa using h) hl hv
    have hx := h1.1.length
    have e : xs.take ((r + 1) * k) ++ vs ++ xs.drop ((r + 1) * k + k) = xs.take k ++ ((xs.drop k).take (r * k) ++ vs ++ (xs.drop k).drop (r * k + k)) := by
      rw [List.drop_drop, show (r + 1) * k + k = k + (r * k + k) by rw [Nat.add_mul]; omega, show (r + 1) * k = k + r * k by rw [Nat.add_mul]; omega, List.take_add]
      simp only [List.append_assoc]
    rw [List.set_cons_succ, List.flatten_cons, e]
    exact h1.1.append ih
theorem replicate_flat {α : Type} (z : List α) : ∀ (n i : Nat), i < n * z.length → (List.replicate n z).flatten[i]? = z[i % z.length]?
  | 0, i, h => by omega
  | n + 1, i, h => by
    rw [List.replicate_succ, List.flatten_cons, List.getElem?_append]
    split
    · rename_i hi; rw [Nat.mod_eq_of_lt hi]
    · rename_i hi
      rw [replicate_flat z n _ (by rw [Nat.add_mul] at h; omega)]
      rw [Nat.mod_eq_sub_mod (by omega : z.length ≤ i)]
theorem made_flat {z : Array Value} {k : Nat} (hz : z.size = k) (n : Nat) : (madeCells z (n * k)).toList = (List.replicate n z.toList).flatten := by
  apply List.ext_getElem?
  intro i
  by_cases hi : i < n * k
  · have h0 : 0 < k := Nat.pos_of_ne_zero fun h => by rw [h, Nat.mul_zero] at hi; omega
    have hm : i % z.size < z.size := Nat.mod_lt _ (by omega)
    have hl : z.toList.length = k := by simp [hz]
    rw [replicate_flat _ n i (by rw [hl]; exact hi)]
    simp only [madeCells, Array.toList_map, Array.toList_range, List.getElem?_map, List.getElem?_range hi, Option.map_some, hl]
    rw [getElem!_pos z _ hm, Array.getElem?_toList, Array.getElem?_eq_getElem (by rw [← hz]; exact hm)]
    simp only [hz]
  · rw [List.getElem?_eq_none (by rw [Array.length_toList, size_madeCells]; omega), List.getElem?_eq_none]
    rw [List.length_flatten, List.map_replicate, List.sum_replicate_nat]
    simp only [Array.length_toList, hz]; omega
section
variable {P : Program} {GL : Nat → List D} {n0 : Nat} {Pn : PnS} {o : Oper}
/-! looking -/
theorem fl_len_arr {σ : St} {K : SV → List Nat → Prop} {T : TypeId} {x : Operand} {i m : Nat} (hu : P.underlying T = some (.slice (tiOf P T).elem)) (ho : o.op = .call { callee := .builtin .len, args := #[x], argTypes := #[T] })
    (hx : evO GL σ.sl x = some (.arr i m)) (hK : K (.d (.v (.int .i64 m))) []) : FloatR P GL o σ K := fl_of fun B g a w hr => by
  obtain ⟨b, cap, _, h1⟩ := hr.evo hx
  exact ⟨.d (.v (.int .i64 m)), .int .i64 m, fun w' => by simp [execOp, ho, h1, resolve, invoke, builtin, Builtin.len_, run_underlying hu, goInt], rfl, hK⟩
theorem buf_at {ob : List Ob} {g : Gh} {w : World} (hs : StoreOk GL ob g w) {q e k : Nat} {ls : List (List D)} {pq : Option (Option Nat × Nat)} (hi : ob[q]? = some (.buf e k ls pq)) {b : Option Nat} {cap m : Nat} (hp : g.gs[q]? = some (.row b cap m)) :
    m = ls.length ∧ (∀ x ∈ ls, x.length = k) ∧ (∃ xs, w.ownsRow 0 e k (.slice (b.map fun c => ⟨c, 0, none⟩) m cap) m xs ∧ DenL g.m ls.flatten xs ∧ ∀ u ∈ xs, u.oneCell' = true) ∧ ∀ c, b = some c → ∀ o, g.m c o = none := ⟨(hs.obs _ _ _ hi hp).1, (hs.obs _ _ _ hi hp).2.1, (hs.obs _ _ _ hi hp).2.2.1, (hs.obs _ _ _ hi hp).2.2.2.1⟩
theorem buf_pl {ob : List Ob} {g : Gh} {w : World} (hs : StoreOk GL ob g w) {q e k : Nat} {ls : List (List D)} {r : Option Nat × Nat} (hi : ob[q]? = some (.buf e k ls (some r))) {b : Option Nat} {cap m : Nat} (hp : g.gs[q]? = some (.row b cap m)) : r = (b, cap) := (hs.obs _ _ _ hi hp).2.2.2.2 r rfl
theorem fl_index_arr' {σ : St} {pq : Option (Option Nat × Nat)} {K : SV → List Nat → Prop} {T e : TypeId} {x i : Operand} {k q m : Nat} {ls : List (List D)} {j : Int} {kd : IntKind} {ti : TI} (hu : P.underlying T = some (.slice (tiOf P T).elem)) (hT : tiOf P (tiOf P T).elem = ti) (hok : ti.ok = true) (hs : ti.size = k) (ho : o.op = .indexAddr T x i)
    (hx : evO GL σ.sl x = some (.arr q m)) (hi : evO GL σ.sl i = some (.d (.v (.int kd j)))) (hq : nthO q σ.ob = some (.buf e k ls pq)) (h01 : 0 ≤ j ∧ j < m) (hK : K (.bp q (j.toNat * k)) []) : FloatR P GL o σ K := fl_of fun B g a w hr => by
  obtain ⟨h0, h1⟩ := h01
  obtain ⟨b, cap, hb, hv⟩ := hr.evo hx
  obtain ⟨hm, _, ⟨xs, hown, _⟩, _⟩ := buf_at hr.store (nthO_eq hq) hb
  cases b with
  | none =>
    exfalso
    rcases hown.2 with ⟨_, h2⟩ | ⟨g0, c0, cur, h2, _⟩
    · omega
    · cases h2
  | some b =>
    have h2 : a.eval i = .int kd j := hr.evo hi
    rw [← hT] at hok
    obtain ⟨inf, d, hi', hd', hs', _⟩ := ti_ok hok
    refine ⟨.bp q (j.toNat * k), .pointer (some ⟨b, j.toNat * k, none⟩), fun w' => ?_, ⟨b, cap, m, hb, rfl⟩, hK⟩
    rw [hT, hs] at hs'
    simp only [Option.map_some] at hv
    simp [execOp, ho, hv, h2, Instr.indexAt, run_underlying hu, asIntOf, h0, h1, sizeOf, typeInfo, hi', ← hs', addr_add]
/-- a load of an element -/
theorem op_load_bp {n t : Nat} {pq : Option (Option Nat × Nat)} {sl : List (Nat × SV)} {ob : List Ob} {K : St → Prop} {T : Nat → Prop} {ty e : TypeId} {x : Operand} {q off r k : Nat} {ls : List (List D)} {el : List D} {ti : TI} (hT : tiOf P ty = ti) (hok : ti.ok = true) (hag : ti.agg = true) (ho : o.op = .load ty x) (hd : o.dst = some t) (ht : Nat.blt t n = true)
    (hx : evO GL sl x = some (.bp q off)) (hi : nthO q ob = some (.buf e k ls pq)) (hk : ti.size = k) (hoff : off = r * k) (he : ls[r]? = some el) (h : K ⟨n, (t, .d (.agg el)) :: sl, ob⟩) : OpR P GL n0 Pn T o ⟨n, sl, ob⟩ K :=
  opr_look hd ht fun B g a w hr => by
    subst hT
    obtain ⟨b, cap, m, hb, hv⟩ := hr.evo hx
    obtain ⟨hm, hl, ⟨xs, hown, hdx, _⟩, _⟩ := buf_at hr.store (nthO_eq hi) hb
    have hel := den_get hl hdx he
    have hr0 := (List.getElem?_eq_some_iff.1 he).1
    have hlen : ((xs.drop (r * k)).take k).length = (tiOf P ty).size := by rw [hel.length, hk]; exact hl el (List.mem_of_getElem? he)
    have hcell := (row_get (b := b) hown).2
    have hrun := run_loadVar_cells hok (w := w) (b := b) (off := off) hlen (fun j y hj => by
      rw [List.getElem?_take] at hj
      split at hj
      · rw [List.getElem?_drop] at hj
        rw [hoff]; exact hcell _ y hj
      · cases hj) (fun hn => by rw [hag] at hn; cases hn)
    rw [hag] at hrun
    exact ⟨.d (.agg el), .agg ⟨(xs.drop (r * k)).take k⟩, by simp only [execOp, ho, hv, Instr.loadAt, Instr.sureAddr, Sem.run_bind, Sem.run_pure, hrun, Result.andThen_ok, if_true], ⟨_, rfl, hel⟩, h⟩
/-- an element is written, where it is -/
theorem op_store_bp {n : Nat} {pq : Option (Option Nat × Nat)} {sl : List (Nat × SV)} {ob ob' : List Ob} {K : St → Prop} {ty e : TypeId} {x y : Operand} {q off r k : Nat} {s : SV} {ti : TI} {cs : List SV} {ds : List D} {ls : List (List D)} (hT : tiOf P ty = ti) (hok : ti.ok = true) (ho : o.op = .store ty x y) (hd : o.dst = none)
    (hx : evO GL sl x = some (.bp q off)) (hy : evO GL sl y = some s) (hi : nthO q ob = some (.buf e k ls pq)) (hk : ti.size = k) (hc : cellsO ti.agg s = some cs) (hcd : toDL cs = some ds) (hsz : Nat.beq cs.length ti.size = true) (hone : allOneS cs = true) (hno : noItOn q ob = true) (hoff : off = r * k ∧ r < ls.length)
    (hob : set1 q (.buf e k (ls.set r ds) pq) ob = some ob') (h : K ⟨n, sl, ob'⟩) : OpR P GL n0 Pn (fun j => j = q) o ⟨n, sl, ob⟩ K := fun B hB g a w hr next Q hK hP => by
  subst hT
  obtain ⟨hoff, hr0⟩ := hoff
  obtain ⟨b, cap, m, hb, hpx⟩ := hr.evo hx
  have hi' := nthO_eq hi
  obtain ⟨hm, hl, ⟨xs, hown, hdx, h1x⟩, hmn⟩ := buf_at hr.store hi' hb
  rcases hown.2 with ⟨h2, _⟩ | ⟨b1, cap1, cur, e1, _, hh, hle, hcm, hcs, htk⟩
  · cases h2
  simp only [Option.map_some, Value.slice.injEq, Option.some.injEq, Addr.mk.injEq] at e1
  obtain ⟨⟨rfl, _, _⟩, _, rfl⟩ := e1
  obtain ⟨ti, d, hinf, hdd, hsi, _⟩ := ti_ok hok
  have hcd0 := cellsO_den hc (hr.evo hy)
  have hcd1 := SDenL.toD _ hcd0 hcd
  have hcl := hcd0.length
  have hsz' : cs.length = (tiOf P ty).size := by simpa using hsz
  have hnl : (a.eval y).cells.toList.length = k := by omega
  have hdl : ds.length = k := by have := hcd1.length; omega
  have hin : off + k ≤ m * k := by rw [hoff, hm]; have := Nat.mul_le_mul_right k (show r + 1 ≤ ls.length by omega); rw [Nat.add_mul] at this; omega
  have hin2 : m * k ≤ cap * k := Nat.mul_le_mul_right k hle
  have hst := run_storeCells_at (P := P) b off e (a.eval y).cells.toList 0 cur w hh (by omega) (allOneS_den hone hcd0)
  simp only [Nat.add_zero] at hst
  have hrun : (execOp a.eval o).run P w = .ok .skip (w.setRow b (cur.toList.take off ++ (a.eval y).cells.toList ++ cur.toList.drop (off + (a.eval y).cells.toList.length)).toArray) := by
    have hsz2 : (a.eval y).cells.size = ti.size := by simpa using (show (a.eval y).cells.toList.length = ti.size by omega)
    simp only [execOp, ho, hpx, Instr.storeAt, Instr.sureAddr, storeVar, sizeOf, typeInfo, Sem.run_bind, Sem.run_pure, Result.andThen_ok, run_program, hinf, hsz2]
    simp only [ne_eq, not_true_eq_false, if_false]
    rw [hst]
    simp
  rw [hnl] at hrun
  unfold Oper.wp
  rw [hrun]
  show next (a.put o.dst _) _
  rw [hd]
  have hcurl : cur.toList.length = cap * k := by simpa using hcs
  have hxl := hown.1
  have hx1 : xs.take off = cur.toList.take off := by rw [← htk, List.take_take, Nat.min_eq_left (by omega)]
  have hx2 : xs.drop (off + k) = (cur.toList.drop (off + k)).take (m * k - (off + k)) := by rw [← htk, List.drop_take]
  have hnew : (w.setRow b (cur.toList.take off ++ (a.eval y).cells.toList ++ cur.toList.drop (off + k)).toArray).ownsRow 0 e k (.slice ((some b).map fun c => ⟨c, 0, none⟩) m cap) m (xs.take off ++ (a.eval y).cells.toList ++ xs.drop (off + k)) := by
    refine ⟨?_, .inr ⟨b, cap, _, rfl, Nat.zero_le _, setRow_heap w b _ _ _ _ hh, hle, hcm, ?_, ?_⟩⟩
    · simp only [List.length_append, List.length_take, List.length_drop]; omega
    · simp only [List.size_toArray, List.length_append, List.length_take, List.length_drop]; omega
    · rw [hx1, hx2]
      show List.take (m * k) (cur.toList.take off ++ (a.eval y).cells.toList ++ cur.toList.drop (off + k)) = _
      have hpl : (cur.toList.take off ++ (a.eval y).cells.toList).length = off + k := by simp only [List.length_append, List.length_take]; omega
      rw [List.take_append, hpl, List.take_of_length_le (by omega)]
  have hset := set1_eq hob
  obtain ⟨h1, h2⟩ := hr.upd1 (w' := w.setRow b (cur.toList.take off ++ (a.eval y).cells.toList ++ cur.toList.drop (off + k)).toArray) (o' := .buf e k (ls.set r ds) pq) hi' hb rfl ⟨rfl, rfl, rfl, by simp, fun c _ hc => setRow_other w _ _ _ hc⟩
    ⟨by rw [List.length_set]; exact hm, fun x hx => by
        rcases List.mem_or_eq_of_mem_set hx with h3 | h3
        · exact hl x h3
        · rw [h3]; exact hdl, ⟨_, hnew, by rw [hoff]; exact den_set hl hdx hr0 hdl hcd1, fun u hu => by
        simp only [List.mem_append] at hu
        rcases hu with (hu | hu) | hu
        · exact h1x u (List.mem_of_mem_take hu)
        · exact allOneS_den hone hcd0 u hu
        · exact h1x u (List.mem_of_mem_drop hu)⟩, hmn, (hr.store.obs _ _ _ hi' hb).2.2.2.2⟩ (.inl rfl) (noItOn_get hno) (fun k f dn cur e => by cases e) (hmn b rfl)
  rw [← hset.1] at h1
  exact hK _ _ _ _ h1 h2 h
/-- make -/
theorem op_mkslice {n t j : Nat} {sl : List (Nat × SV)} {ob ob' : List Ob} {K : St → Prop} {T : Nat → Prop} {ty e : TypeId} {size bytes : Nat} {x : Operand} {c : Nat} {ti : TI} (TS : SlTy P ty e size bytes) (hT : tiOf P e = ti) (ho : o.op = .makeSlice ty x x)
    (hd : o.dst = some t) (ht : Nat.blt t n = true) (hx : evO GL sl x = some (.d (.v (.int .i64 (c : Nat))))) (hone : ti.zero.all (·.oneCell') = true) (hl : ob.length = j) (hb : bytes * c ≤ 281474976710656 ∧ c ≤ maxLen) (hob : appO ob [.buf e size (List.replicate c (ti.zero.map .v)) none] = some ob')
    (h : K ⟨n, (t, .arr j c) :: sl, ob'⟩) : OpR P GL n0 Pn T o ⟨n, sl, ob⟩ K := fun B hB g a w hr next Q hK hP => by
  subst hl hT
  obtain ⟨hb2, hb3⟩ := hb
  rw [appO_eq hob] at h
  have hinfo := TS.info
  have hzero := TS.zero
  cases hi : P.info? e with
  | none => simp [hi] at hinfo
  | some i =>
  rw [hi] at hinfo hzero
  simp only [Option.map_some, Option.some.injEq, Prod.mk.injEq, Option.bind_some] at hinfo hzero
  cases hz : i.zero with
  | none => simp [hz] at hzero
  | some z =>
  rw [hz] at hzero
  simp only [Option.map_some, Option.some.injEq] at hzero
  obtain ⟨q1, q2⟩ := hinfo
  have hze : (tiOf P e).zero = z.cells.toList := by simp [tiOf, hi, hz]
  rw [hze] at h hone
  have hxe : a.eval x = .int .i64 (c : Nat) := hr.evo hx
  obtain ⟨w', hrun, hown, hgr⟩ := run_make_full (P := P) w 0 ty e i z size TS.under hi hz q1 .i64 .i64 c (by rw [q2]; exact hb2) hb3 (Nat.zero_le _)
  have hbytes : (i.bytes : Int) * (c : Int) ≤ 281474976710656 := by
    have h : ((i.bytes * c : Nat) : Int) ≤ 281474976710656 := by rw [q2]; omega
    rwa [Int.natCast_mul] at h
  have hrun1 := run_make (P := P) w ty e i z TS.under hi hz .i64 .i64 (c : Int) (c : Int) (by omega) (Int.le_refl _) hbytes (by simp [maxLen] at hb3; omega)
  simp only [Int.toNat_natCast] at hrun1
  rw [hrun1] at hrun
  cases hrun
  have hrun2 : (execOp a.eval o).run P w = .ok (.value (.slice (some ⟨w.heap.size, 0, none⟩) c c)) (w.alloc (.cells (madeCells z.cells (c * i.size)) e)) := by
    simp only [execOp, ho, hxe, Sem.run_bind, hrun1, Result.andThen_ok, Sem.run_pure]
  unfold Oper.wp
  rw [hrun2]
  show next (a.put o.dst _) _
  rw [hd]
  have hm0 : ∀ o, g.m w.heap.size o = none := fun o => by
    cases hx : g.m w.heap.size o with
    | none => rfl
    | some x => have := hr.store.sat_lt hx; omega
  have hone2 : ∀ u ∈ z.cells.toList, u.oneCell' = true := fun u hu => List.all_eq_true.1 hone u hu
  have hflat : ((List.replicate c (z.cells.toList.map D.v)).flatten) = ((List.replicate c z.cells.toList).flatten).map D.v := by
    rw [List.map_flatten, List.map_replicate]
  have hdv : ∀ l : List Value, DenL g.m (l.map D.v) l := fun l => by
    induction l with
    | nil => rfl
    | cons x r ih => exact ⟨x, r, rfl, rfl, ih⟩
  rw [made_flat hzero] at hown
  obtain ⟨h1, h2⟩ := hr.new1 (w' := w.alloc (.cells (madeCells z.cells (c * i.size)) e)) ((Fr.refl _ w).alloc _) (Mle.refl _) (fun b o x h1 h2 => by rw [h2] at h1; cases h1) (o' := .buf e size (List.replicate c (z.cells.toList.map .v)) none) (pl := .row (some w.heap.size) c c)
    ⟨by simp, fun x hx => by rw [(List.mem_replicate.1 hx).2]; simpa using hzero, ⟨_, hown, by rw [hflat]; exact hdv _, fun u hu => by
      obtain ⟨l, hl, hu⟩ := List.mem_flatten.1 hu
      rw [(List.mem_replicate.1 hl).2] at hu
      exact hone2 u hu⟩, (fun c hc o => by cases hc; exact hm0 o), fun r e => by cases e⟩ (fun b hb => by simp only [blkOf, Option.some.injEq] at hb; omega) (fun i f dn cur e => by cases e)
  refine hK _ _ _ _ (h1.put' (s := .arr ob.length c) ht ⟨some w.heap.size, c, ?_, rfl⟩) ⟨h2.1, fun i b o _ => h2.2 i b o (fun x => x)⟩ h
  show (g.gs ++ [_])[ob.length]? = _
  have hl2 : ob.length = g.gs.length := hr.store.len
  rw [hl2]; simp
end
end Go.Vd
namespace Go.Vd
open Go Go.RowKit
section
variable {P : Program} {GL : Nat → List D} {n0 : Nat} {Pn : PnS}
/-- an object is given up, what it held is data -/
theorem RelG.freezeG {B : Bs} {n : Nat} {sl sl' : List (Nat × SV)} {ob ob1 : List Ob} {g : Gh} {a : Act} {w : World} (h : RelG GL B ⟨n, sl, ob⟩ g a w) {i : Nat} {o : Ob} {pl : Pl} {q : Option (Nat × List (List D))} {ds : List D} (ho : ob[i]? = some o) (hnm : ∀ f, o ≠ .mapI f) (hpl : g.gs[i]? = some pl)
    {m' : Mem} (hmle : Mle g.m m') (hF : Fz i q ds g ⟨m', g.gs⟩) (hsat : ∀ c off x, m' c off = some x → w.cell? ⟨c, off, none⟩ = some x ∧ x.oneCell' = true) (hnew : ∀ c off, g.m c off = none → (blkOf o pl = some c → False) → m' c off = none)
    (hsl : fzSl i q ds sl = some sl') (hob : fzOb i q ds ob = some ob1) : RelG GL B ⟨n, sl', ob1.set i .dead⟩ ⟨m', g.gs⟩ a w := by
  have hget := fzOb_get hob
  have hil := (List.getElem?_eq_some_iff.1 ho).1
  have hlen := h.store.len
  have hneb : ∀ (j : Nat) oj pj c, j ≠ i → ob[j]? = some oj → g.gs[j]? = some pj → blkOf oj pj = some c → blkOf o pl = some c → False := fun j oj pj c hj h1 h2 h3 e =>
    hj (h.store.disj j i oj o pj _ c h1 ho h2 hpl h3 e)
  refine ⟨h.defers, h.size, fun t => fzSl_den hF hsl (h.slots t), ?_, ?_⟩
  · refine h.store.step (p := fun j => j = i) hmle (fun _ _ h => h) (fun _ _ _ h => h) hsat (by simp [hget.1, hlen]) (fun j o1 hj h1 => ?_) (fun j k f dn cur h1 => ?_) (fun j k f dn cur hj h1 hk => ?_)
      (fun j o1 q c hj h1 h2 h3 => ⟨rfl, fun off hn => ?_⟩) (fun j o1 hj h1 => ?_) (fun j o1 q c hj h1 h2 h3 => ?_) (fun i j oi oj pi pj b hi hj _ _ _ _ _ _ => hi.trans hj.symm)
    · rw [List.getElem?_set_ne (Ne.symm hj)] at h1
      obtain ⟨o, e1, e2⟩ := hget.2 j o1 h1
      exact ⟨o, e1, (Ob.fz_le hF e2).1⟩
    · by_cases hj : j = i
      · subst hj
        rw [List.getElem?_set_self (by rw [hget.1]; exact hil)] at h1; cases h1
      · rw [List.getElem?_set_ne (Ne.symm hj)] at h1
        obtain ⟨o0, e1, e2⟩ := hget.2 j _ h1
        have e3 := (Ob.fz_le hF e2).2.1 _ _ _ _ rfl
        subst e3
        have e4 := h.store.its j k f dn cur e1
        have hk : k ≠ i := fun e => by subst e; rw [ho] at e4; cases e4; exact hnm f rfl
        rw [List.getElem?_set_ne (Ne.symm hk)]
        have hkl := (List.getElem?_eq_some_iff.1 e4).1
        obtain ⟨o5, e5, e6⟩ := hget.2 k ob1[k] (by simp [hget.1, hkl])
        rw [e4] at e5; cases e5
        rw [List.getElem?_eq_getElem (by rw [hget.1]; exact hkl), (Ob.fz_le hF e6).2.2 f rfl]
    · rw [List.getElem?_set_ne (Ne.symm hj)] at h1
      obtain ⟨o0, e1, e2⟩ := hget.2 j _ h1
      have e3 := (Ob.fz_le hF e2).2.1 _ _ _ _ rfl
      subst e3 hk
      have e4 := h.store.its j k f dn cur e1
      rw [ho] at e4; cases e4; exact hnm f rfl
    · exact hnew c off hn (hneb j o1 q c hj h1 h2 h3)
    · subst hj
      rw [List.getElem?_set_self (by rw [hget.1]; exact hil)] at h1; cases h1
      exact ⟨_, hpl, trivial⟩
    · subst hj
      rw [List.getElem?_set_self (by rw [hget.1]; exact hil)] at h1; cases h1
      cases h3
  · refine h.stp.step (X := fun c => blkOf o pl = some c) (Fr.refl _ w) (fun c e => h.stp.own i _ _ c ho hpl e) hmle (fun c off x hx hn => ?_) (fun j o1 p c h1 h2 h3 => ?_) (fun _ _ h => h)
    · refine .inl (Classical.byContradiction fun hc => ?_)
      have := hnew c off hn hc
      simp only at hx
      rw [this] at hx; cases hx
    · by_cases hj : j = i
      · subst hj
        rw [List.getElem?_set_self (by rw [hget.1]; exact hil)] at h1; cases h1
        cases h3
      · rw [List.getElem?_set_ne (Ne.symm hj)] at h1
        obtain ⟨o0, e1, e2⟩ := hget.2 j o1 h1
        refine .inl (h.stp.own j o0 p c e1 h2 ?_)
        cases o0 <;> simp only [Ob.fz, Option.bind_eq_some_iff, Option.some.injEq] at e2
        case cells l ty => obtain ⟨l', _, rfl⟩ := e2; cases p <;> exact h3
        all_goals (subst e2; exact h3)
theorem denR_of_flat {m : Mem} {k b : Nat} : ∀ {ls : List (List D)} {xs : List Value} {off : Nat}, (∀ x ∈ ls, x.length = k) → DenL m ls.flatten xs → (∀ i x, xs[i]? = some x → m b (off + i) = some x) → DenR m k b off ls
  | [], _, _, _, _, _ => trivial
  | a :: ls, xs, off, hk, hd, hm => by
    have h1 := DenL.split (l := a) (r := ls.flatten) (by simpa using hd)
    have ha := hk a (by simp)
    rw [ha] at h1
    refine ⟨⟨ha, DenC.of_vals h1.1 fun i x hx => ?_⟩, denR_of_flat (fun x hx => hk x (by simp [hx])) h1.2 fun i x hx => ?_⟩
    · rw [List.getElem?_take] at hx
      split at hx
      · exact hm i x hx
      · cases hx
    · rw [List.getElem?_drop] at hx
      have := hm _ x hx
      rwa [show off + k + i = off + (k + i) by omega]
theorem RelG.freezeb {B : Bs} {n : Nat} {sl sl' : List (Nat × SV)} {ob ob1 : List Ob} {g : Gh} {a : Act} {w : World} (h : RelG GL B ⟨n, sl, ob⟩ g a w) {i e k : Nat} {ls : List (List D)} {pq : Option (Option Nat × Nat)} (ho : ob[i]? = some (.buf e k ls pq))
    (hsl : fzSl i (some (k, ls)) [] sl = some sl') (hob : fzOb i (some (k, ls)) [] ob = some ob1) : ∃ g', RelG GL B ⟨n, sl', ob1.set i .dead⟩ g' a w := by
  obtain ⟨pl, hpl⟩ := h.store.place ho
  have hok := h.store.obs _ _ _ ho hpl
  cases pl with
  | loc b => exact hok.elim
  | row b c m =>
    obtain ⟨hm, hl, ⟨xs, hown, hdx, h1x⟩, hmn⟩ := buf_at h.store ho hpl
    cases b with
    | none =>
      have hm0 : m = 0 := by
        rcases hown.2 with ⟨_, h2⟩ | ⟨g0, c0, cur, h2, _⟩
        · exact h2
        · cases h2
      have hls : ls = [] := List.length_eq_zero_iff.1 (by omega)
      refine ⟨⟨g.m, g.gs⟩, h.freezeG (q := some (k, ls)) (ds := []) ho (fun f e => by cases e) hpl (Mle.refl _) ⟨Mle.refl _, fun _ _ h => h, fun b hb => trivial, fun r n y hr hd => ?_⟩ h.store.sat (fun _ _ h _ => h) hsl hob⟩
      cases hr
      obtain ⟨b', cap, hb, e⟩ := hd
      rw [hpl] at hb; cases hb
      exact ⟨none, c, by rw [e, hls, hm0]; rfl, by simp [hls], fun h => absurd hls h⟩
    | some b =>
      have hrow := row_get (b := b) hown
      have hmle : Mle g.m (mset g.m b xs) := Mle.set fun off x hx => by rw [hmn b rfl] at hx; cases hx
      refine ⟨⟨mset g.m b xs, g.gs⟩, h.freezeG (q := some (k, ls)) (ds := []) ho (fun f e => by cases e) hpl hmle ⟨hmle, fun _ _ h => h, fun b hb => trivial, fun r n y hr hd => ?_⟩ (fun c' off x hx => ?_) (fun c' off hn hc => ?_) hsl hob⟩
      · cases hr
        obtain ⟨b', cap, hb, e⟩ := hd
        rw [hpl] at hb; cases hb
        refine ⟨some ⟨b, 0, none⟩, c, by rw [e, hm]; rfl, by rw [← hm]; exact hrow.1, fun _ => ⟨b, 0, rfl, ?_⟩⟩
        refine denR_of_flat hl (DenL.mono hmle _ hdx) fun i x hx => ?_
        show mset _ _ _ _ _ = _
        unfold mset; rw [if_pos rfl, Nat.zero_add]; exact hx
      · simp only [mset] at hx
        by_cases hcb : c' = b
        · subst hcb
          rw [if_pos rfl] at hx
          exact ⟨hrow.2 off x hx, h1x x (List.mem_of_getElem? hx)⟩
        · rw [if_neg hcb] at hx; exact h.store.sat c' off x hx
      · unfold mset
        rw [if_neg (fun e => hc (by rw [e]; rfl))]; exact hn
theorem ops_freezeb {ops l : List Oper} {Q : Ex → St → Prop} {n : Nat} {sl sl' : List (Nat × SV)} {ob ob1 ob' : List Ob} (i : Nat) {e k : Nat} {ls : List (List D)} {pq : Option (Option Nat × Nat)} (ho : nthO i ob = some (.buf e k ls pq)) (hsl : fzSl i (some (k, ls)) [] sl = some sl') (hob : fzOb i (some (k, ls)) [] ob = some ob1) (hob' : set1 i .dead ob1 = some ob')
    (h : OpsR P GL n0 Pn ops l Q ⟨n, sl', ob'⟩) : OpsR P GL n0 Pn ops l Q ⟨n, sl, ob⟩ := fun B hB a w ⟨g, hr⟩ => by
  obtain ⟨g', hr'⟩ := hr.freezeb (nthO_eq ho) hsl hob
  rw [← (set1_eq hob').1] at hr'
  exact h B hB a w ⟨g', hr'⟩
/-! a row's place has a name, so that slices of it are data for a while -/
def litSl (r : Option Nat × Nat) (m : Nat) : D := .v (.slice (r.1.map fun b => ⟨b, 0, none⟩) m r.2)
theorem RelG.fixb {B : Bs} {n : Nat} {sl : List (Nat × SV)} {ob : List Ob} {g : Gh} {a : Act} {w : World} (h : RelG GL B ⟨n, sl, ob⟩ g a w) {i e k t m : Nat} {ls : List (List D)} {pq : Option (Option Nat × Nat)} (ho : ob[i]? = some (.buf e k ls pq)) (ht : slo t sl = some (.arr i m)) (htn : Nat.blt t n = true) :
    ∃ r, RelG GL B ⟨n, (t, .d (litSl r m)) :: sl, ob.set i (.buf e k ls (some r))⟩ g a w := by
  have hd := h.slots t
  have hv : (SV.arr i m).Den g (a.tmps.getD t undef) := by rw [← slo_slk ht]; exact hd
  obtain ⟨b, cap, hb, hval⟩ := hv
  have hok := h.store.obs _ _ _ ho hb
  have hil := (List.getElem?_eq_some_iff.1 ho).1
  refine ⟨(b, cap), h.defers, h.size, fun t' => ?_, ?_, ?_⟩
  · rw [slk_cons]
    split
    · rename_i e; subst e; exact hval
    · exact h.slots t'
  · refine ⟨by simpa using h.store.len, fun j o p h1 h2 => ?_, fun j q f dn cur h1 => ?_, fun i1 j1 oi oj pi pj c h1 h2 h3 h4 h5 h6 => ?_, h.store.sat, h.store.glob⟩
    · by_cases hj : j = i
      · subst hj
        rw [List.getElem?_set_self hil] at h1; cases h1
        rw [hb] at h2; cases h2
        exact ⟨hok.1, hok.2.1, hok.2.2.1, hok.2.2.2.1, fun r e => by cases e; rfl⟩
      · rw [List.getElem?_set_ne (Ne.symm hj)] at h1
        exact h.store.obs j o p h1 h2
    · have hj : j ≠ i := fun e => by subst e; rw [List.getElem?_set_self hil] at h1; cases h1
      rw [List.getElem?_set_ne (Ne.symm hj)] at h1
      have h2 := h.store.its j q f dn cur h1
      have hq : q ≠ i := fun e => by subst e; rw [ho] at h2; cases h2
      rw [List.getElem?_set_ne (Ne.symm hq)]; exact h2
    · have key : ∀ (j : Nat) o p c, (ob.set i (.buf e k ls (some (b, cap))))[j]? = some o → g.gs[j]? = some p → blkOf o p = some c → ∃ o0, ob[j]? = some o0 ∧ blkOf o0 p = some c := fun j o p c h1 h2 h3 => by
        by_cases hj : j = i
        · subst hj
          rw [List.getElem?_set_self hil] at h1; cases h1
          exact ⟨_, ho, by cases p <;> exact h3⟩
        · rw [List.getElem?_set_ne (Ne.symm hj)] at h1
          exact ⟨o, h1, h3⟩
      obtain ⟨o1, a1, a2⟩ := key i1 oi pi c h1 h3 h5
      obtain ⟨o2, b1, b2⟩ := key j1 oj pj c h2 h4 h6
      exact h.store.disj i1 j1 o1 o2 pi pj c a1 b1 h3 h4 a2 b2
  · refine ⟨h.stp.fr, h.stp.mem, h.stp.new, fun j o p c h1 h2 h3 => ?_, h.stp.at'⟩
    by_cases hj : j = i
    · subst hj
      rw [List.getElem?_set_self hil] at h1; cases h1
      exact h.stp.own j _ p c ho h2 (by cases p <;> exact h3)
    · rw [List.getElem?_set_ne (Ne.symm hj)] at h1
      exact h.stp.own j o p c h1 h2 h3
theorem RelG.unfixb {B : Bs} {n : Nat} {sl : List (Nat × SV)} {ob : List Ob} {g : Gh} {a : Act} {w : World} (h : RelG GL B ⟨n, sl, ob⟩ g a w) {i e k t m : Nat} {ls : List (List D)} {r : Option Nat × Nat} (ho : ob[i]? = some (.buf e k ls (some r))) (ht : slo t sl = some (.d (litSl r m))) (hm : m = ls.length) :
    RelG GL B ⟨n, (t, .arr i m) :: sl, ob⟩ g a w := by
  obtain ⟨p, hp⟩ := h.store.place ho
  have hok := h.store.obs _ _ _ ho hp
  cases p with
  | loc b => exact hok.elim
  | row b cap n' =>
    have hr := buf_pl h.store ho hp
    subst hr
    have hn : n' = ls.length := hok.1
    refine ⟨h.defers, h.size, fun t' => ?_, h.store, h.stp⟩
    rw [slk_cons]
    split
    · rename_i e; subst e
      have hd := h.slots t
      have hv : a.tmps.getD t undef = .slice (b.map fun b => ⟨b, 0, none⟩) m cap := by
        have : (SV.d (litSl (b, cap) m)).Den g (a.tmps.getD t undef) := by rw [← slo_slk ht]; exact hd
        exact this
      exact ⟨b, cap, by rw [hm, ← hn]; exact hp, hv⟩
    · exact h.slots t'
theorem ops_fixb {ops l : List Oper} {Q : Ex → St → Prop} {n : Nat} {sl : List (Nat × SV)} {ob : List Ob} (i t : Nat) {e k m : Nat} {ls : List (List D)} {pq : Option (Option Nat × Nat)} (ho : nthO i ob = some (.buf e k ls pq)) (ht : slo t sl = some (.arr i m)) (htn : Nat.blt t n = true)
    (h : ∀ r ob', set1 i (.buf e k ls (some r)) ob = some ob' → OpsR P GL n0 Pn ops l Q ⟨n, (t, .d (litSl r m)) :: sl, ob'⟩) : OpsR P GL n0 Pn ops l Q ⟨n, sl, ob⟩ := fun B hB a w ⟨g, hr⟩ => by
  obtain ⟨r, hr'⟩ := hr.fixb (nthO_eq ho) ht htn
  have hil := (List.getElem?_eq_some_iff.1 (nthO_eq ho)).1
  have hset : ∀ (j : Nat) (y : Ob) (l : List Ob), j < l.length → set1 j y l = some (l.set j y) := by
    intro j
    induction j with
    | zero => intro y l hl; cases l with
      | nil => simp at hl
      | cons a r => rfl
    | succ j ih => intro y l hl; cases l with
      | nil => simp at hl
      | cons a r => simp [set1, ih y r (by simpa using hl)]
  exact h r _ (hset i _ ob hil) B hB a w ⟨g, hr'⟩
theorem ops_unfixb {ops l : List Oper} {Q : Ex → St → Prop} {n : Nat} {sl : List (Nat × SV)} {ob : List Ob} (i t : Nat) {e k m : Nat} {ls : List (List D)} {r : Option Nat × Nat} (ho : nthO i ob = some (.buf e k ls (some r))) (ht : slo t sl = some (.d (litSl r m))) (hm : m = ls.length)
    (h : OpsR P GL n0 Pn ops l Q ⟨n, (t, .arr i m) :: sl, ob⟩) : OpsR P GL n0 Pn ops l Q ⟨n, sl, ob⟩ := fun B hB a w ⟨g, hr⟩ => h B hB a w ⟨g, hr.unfixb (nthO_eq ho) ht hm⟩
end
end Go.Vd
namespace Go.Vd
open Go Go.RowKit
section
variable {GL : Nat → List D} {B : Bs} {σ : St} {g : Gh} {a : Act} {w : World}
/-- a row that is written in place gets a new place, or more in it -/
theorem RelG.buf1 (h : RelG GL B σ g a w) {w' : World} {i : Nat} {o : Ob} {b : Option Nat} {cap n : Nat} {e : TypeId} {k : Nat} {ls ls' : List (List D)} {pq : Option (Option Nat × Nat)} (ho : σ.ob[i]? = some o) (hor : o = .buf e k ls pq ∨ o = .nilrow e k) (hpl : g.gs[i]? = some (.row b cap n)) (hf : Fr (fun c => b = some c ∧ o = .buf e k ls pq) w w')
    {m' : Mem} (hm : Mle g.m m') {c cap' n' : Nat} (hc : (b = some c ∧ o = .buf e k ls pq) ∨ w.heap.size ≤ c)
    (hnew : ∀ d off x, m' d off = some x → g.m d off = none → d = c) (hsat : ∀ off x, m' c off = some x → w'.cell? ⟨c, off, none⟩ = some x ∧ x.oneCell' = true)
    (hold : ∀ d off x, b = some d → g.m d off = some x → w'.cell? ⟨d, off, none⟩ = some x)
    (hok : ObOk ⟨m', g.gs.set i (.row (some c) cap' n')⟩ w' (.buf e k ls' none) (.row (some c) cap' n'))
    {sl' : List (Nat × SV)} {ob' : List Ob} (hsl : kSl i σ.sl = some sl') (hob : kOb i σ.ob = some ob') :
    RelG GL B ⟨σ.n, sl', ob'.set i (.buf e k ls' none)⟩ ⟨m', g.gs.set i (.row (some c) cap' n')⟩ a w' ∧ Keep (fun j => j = i) σ.ob g w ⟨m', g.gs.set i (.row (some c) cap' n')⟩ w' := by
  have hlen := h.store.len
  have hi := (List.getElem?_eq_some_iff.1 ho).1
  have hob2 := kOb_get hob
  have hself : (g.gs.set i (.row (some c) cap' n'))[i]? = some (.row (some c) cap' n') := List.getElem?_set_self (by omega)
  have hgs : ∀ (j : Nat) q, j ≠ i → g.gs[j]? = some q → (g.gs.set i (.row (some c) cap' n'))[j]? = some q := fun j q hj hq => by rw [List.getElem?_set_ne (Ne.symm hj)]; exact hq
  have hat : ∀ (j d : Nat), g.gs[j]? = some (.loc d) → (g.gs.set i (.row (some c) cap' n'))[j]? = some (.loc d) := fun j d hd => hgs j _ (fun e => by subst e; rw [hpl] at hd; cases hd) hd
  have hkl : Gkl (fun j => Nat.beq j i) g ⟨m', g.gs.set i (.row (some c) cap' n')⟩ := ⟨hm, fun j q hq hj => hgs j q (fun e => by subst e; simp at hj) hq, hat⟩
  have hbr : ∀ d, b = some d ∧ o = .buf e k ls pq → blkOf o (.row b cap n) = some d := fun d hd => by rw [hd.2, hd.1]; rfl
  have hne : ∀ (j : Nat) oj pj d, j ≠ i → σ.ob[j]? = some oj → g.gs[j]? = some pj → blkOf oj pj = some d → ¬ (b = some d ∧ o = .buf e k ls pq) ∧ d ≠ c := fun j oj pj d hj h1 h2 h3 => by
    have h4 : ¬ (b = some d ∧ o = .buf e k ls pq) := fun hd => hj (h.store.disj j i oj o pj _ d h1 ho h2 hpl h3 (hbr d hd))
    refine ⟨h4, fun e => ?_⟩
    subst e
    rcases hc with hc | hc
    · exact h4 hc
    · have := h.store.lt h1 h2 h3; omega
  refine ⟨⟨h.defers, h.size, fun t => ?_, ?_, ?_⟩, hm, fun j d oj hj h1 h2 h3 => ⟨hat j d h2, hf.block d (h.store.lt h1 h2 h3) (hne j oj _ d hj h1 h2 h3).1⟩⟩
  · show (slk t sl').Den _ _
    rw [kSl_slk hsl]
    exact SV.Den.kill hkl _ (h.slots t)
  · refine h.store.step (p := fun j => j = i) hm hat hgs (fun d off x hx => ?_) (by simp [hob2.1, hlen]) (fun j o1 hj h1 => ?_) (fun j q f dn cur h1 => ?_) (fun j q f dn cur hj h1 hk => ?_)
      (fun j o1 q d hj h1 h2 h3 => ⟨hf.block d (h.store.lt h1 h2 h3) (hne j o1 q d hj h1 h2 h3).1, fun off hn => ?_⟩) (fun j o1 hj h1 => ?_) (fun j o1 q d hj h1 h2 h3 => ?_) (fun i j oi oj pi pj b hi hj _ _ _ _ _ _ => hi.trans hj.symm)
    · by_cases hdc : d = c
      · subst hdc; exact hsat off x hx
      · cases hg : g.m d off with
        | none => exact absurd (hnew d off x hx hg) hdc
        | some y =>
          have e1 := hm d off y hg
          simp only at hx
          rw [e1] at hx; cases hx
          have hs := h.store.sat d off x hg
          refine ⟨?_, hs.2⟩
          by_cases hbd : b = some d ∧ o = .buf e k ls pq
          · exact hold d off x hbd.1 hg
          · rw [World.cell?_of_block (w := w) (hf.block d (h.store.sat_lt hg) hbd)]; exact hs.1
    · rw [List.getElem?_set_ne (Ne.symm hj)] at h1
      obtain ⟨o2, h2, h3⟩ := hob2.2 j o1 h1
      exact ⟨o2, h2, ObLe.kO hkl h3⟩
    · by_cases hj : j = i
      · subst hj
        rw [List.getElem?_set_self (by rw [hob2.1]; exact hi)] at h1
        cases h1
      · rw [List.getElem?_set_ne (Ne.symm hj)] at h1
        obtain ⟨o2, h2, h3⟩ := hob2.2 j _ h1
        have h4 : o2 = .itI q f dn cur := by
          cases o2 <;> simp only [Ob.kO, Option.bind_eq_some_iff, Option.some.injEq] at h3
          case cells => obtain ⟨_, _, h3⟩ := h3; cases h3
          all_goals (cases h3; try rfl)
        subst h4
        have h5 := h.store.its j q f dn cur h2
        have hq : q ≠ i := fun e => by subst e; rw [ho] at h5; cases h5; rcases hor with hor | hor <;> cases hor
        rw [List.getElem?_set_ne (Ne.symm hq)]
        have h6 : q < ob'.length := by rw [hob2.1]; exact (List.getElem?_eq_some_iff.1 h5).1
        obtain ⟨o3, h7, h8⟩ := hob2.2 q ob'[q] (by simp [h6])
        rw [h5] at h7; cases h7
        simp [Ob.kO] at h8
        rw [List.getElem?_eq_getElem h6, ← h8]
    · rw [List.getElem?_set_ne (Ne.symm hj)] at h1
      obtain ⟨o2, h2, h3⟩ := hob2.2 j _ h1
      have h4 : o2 = .itI q f dn cur := by
        cases o2 <;> simp only [Ob.kO, Option.bind_eq_some_iff, Option.some.injEq] at h3
        case cells => obtain ⟨_, _, h3⟩ := h3; cases h3
        all_goals (cases h3; try rfl)
      have hk : q = i := hk
      subst h4 hk
      have h5 := h.store.its j _ f dn cur h2
      rw [ho] at h5; cases h5; rcases hor with hor | hor <;> cases hor
    · cases hx : m' d off with
      | none => exact hx
      | some x => exact absurd (hnew d off x hx hn) (hne j o1 q d hj h1 h2 h3).2
    · subst hj
      rw [List.getElem?_set_self (by rw [hob2.1]; exact hi)] at h1
      cases h1
      exact ⟨_, hself, hok⟩
    · subst hj
      rw [List.getElem?_set_self (by rw [hob2.1]; exact hi)] at h1
      cases h1
      simp only at h2
      rw [hself] at h2; cases h2
      simp only [blkOf, Option.some.injEq] at h3
      subst h3
      rcases hc with hc | hc
      · exact .inl ⟨_, o, _, rfl, ho, hpl, hbr _ hc⟩
      · exact .inr hc
  · have hX : ∀ d, b = some d ∧ o = .buf e k ls pq → B.X d ∨ B.w.heap.size ≤ d := fun d hd => h.stp.own i o _ d ho hpl (hbr d hd)
    refine h.stp.step hf hX hm (fun d off x hx hn => by
        have := hnew d off x hx hn
        subst this; exact hc) (fun j o1 p d h1 h2 h3 => ?_) hat
    by_cases hj : j = i
    · subst hj
      rw [List.getElem?_set_self (by rw [hob2.1]; exact hi)] at h1
      cases h1
      simp only at h2
      rw [hself] at h2; cases h2
      simp only [blkOf, Option.some.injEq] at h3
      subst h3
      rcases hc with hc | hc
      · exact .inl (hX _ hc)
      · exact .inr hc
    · rw [List.getElem?_set_ne (Ne.symm hj)] at h1
      simp only at h2
      rw [List.getElem?_set_ne (Ne.symm hj)] at h2
      obtain ⟨o2, h4, h5⟩ := hob2.2 j o1 h1
      refine .inl (h.stp.own j o2 p d h4 h2 ?_)
      rcases (ObLe.kO hkl h5).blk h3 (fun _ _ => trivial) with h6 | ⟨e', k', rfl⟩
      · exact h6
      · simp [Ob.kO] at h5; subst h5; simp [blkOf] at h3
end
section
variable {P : Program} {GL : Nat → List D} {n0 : Nat} {Pn : PnS}
theorem vals_of_row {m : Mem} {k b : Nat} : ∀ {news : List (List D)} {off : Nat}, DenR m k b off news → ∃ nv, nv.length = news.length * k ∧ DenL m news.flatten nv ∧ (∀ i x, nv[i]? = some x → m b (off + i) = some x) ∧ ∀ e ∈ news, e.length = k
  | [], off, _ => ⟨[], by simp, rfl, by simp, by simp⟩
  | e :: r, off, ⟨⟨h0, h1⟩, h2⟩ => by
    obtain ⟨vs, hv, hc⟩ := h1.vals
    obtain ⟨nv, h3, h4, h5, h6⟩ := vals_of_row h2
    have hl := hv.length
    refine ⟨vs ++ nv, by simp [h3, hl, h0, Nat.add_mul]; omega, by simpa using hv.append h4, fun i x hx => ?_, fun a ha => by
      rcases List.mem_cons.1 ha with rfl | ha
      · exact h0
      · exact h6 a ha⟩
    rw [List.getElem?_append] at hx
    split at hx
    · exact hc i x hx
    · have := h5 _ x hx
      rwa [show off + k + (i - vs.length) = off + i by omega] at this
theorem op_append_arr' {o : Oper} {n t i m : Nat} {sl sl' : List (Nat × SV)} {ob ob1 ob' : List Ob} {K : St → Prop} {ty e : TypeId} {size bytes : Nat} {s x : Operand} {ls news : List (List D)} {pq : Option (Option Nat × Nat)} {or : Ob} {sx : SV} (TS : SlTy P ty e size bytes) (ho : o.op = .call { callee := .builtin .append, args := #[s, x], argTypes := #[ty, ty] })
    (hd : o.dst = some t) (ht : Nat.blt t n = true) (hs : (evO GL sl s = some (.arr i m) ∧ or = .buf e size ls pq) ∨ (evO GL sl s = some (.d (.v (.slice none 0 0))) ∧ ls = [] ∧ or = .nilrow e size)) (hi : nthO i ob = some or) (hx : evO GL sl x = some sx) (hxD : sx.toD = some (.sl size news))
    (hsz : 0 < size) (hne : news ≠ []) (h63 : ls.length + news.length ≤ maxLen ∧ (ls.length + news.length) * bytes ≤ 140737488355328) (hsl : kSl i sl = some sl') (hob : kOb i ob = some ob1) (hob' : set1 i (.buf e size (ls ++ news) none) ob1 = some ob')
    (h : K ⟨n, (t, .arr i (ls ++ news).length) :: sl', ob'⟩) : OpR P GL n0 Pn (fun j => j = i) o ⟨n, sl, ob⟩ K := fun B hB g a w hr next Q hK hP => by
  have hi' := nthO_eq hi
  rw [(set1_eq hob').1] at h
  have hrow : ∃ b cap xs, g.gs[i]? = some (.row b cap ls.length) ∧ a.eval s = .slice (b.map fun b => ⟨b, 0, none⟩) ls.length cap ∧ w.ownsRow 0 e size (a.eval s) ls.length xs ∧ DenL g.m ls.flatten xs ∧ (∀ u ∈ xs, u.oneCell' = true) ∧ (∀ c, b = some c → ∀ o, g.m c o = none) ∧ (∀ x ∈ ls, x.length = size) := by
    rcases hs with ⟨hs, rfl⟩ | ⟨hs, rfl, rfl⟩
    · obtain ⟨b, cap, h1, h2⟩ := hr.evo hs
      obtain ⟨hm, hl, ⟨xs, hown, hdx, h1x⟩, hmn⟩ := buf_at hr.store hi' h1
      subst hm
      exact ⟨b, cap, xs, h1, h2, by rw [h2]; exact hown, hdx, h1x, hmn, hl⟩
    · have hv : a.eval s = .slice none 0 0 := hr.evo hs
      obtain ⟨p, hp⟩ := hr.store.place hi'
      have hok := hr.store.obs _ _ _ hi' hp
      simp only [ObOk] at hok; subst hok
      exact ⟨none, 0, [], hp, hv, by rw [hv]; exact ⟨by simp, .inl ⟨rfl, rfl⟩⟩, rfl, (by simp), (fun c hc => by cases hc), (by simp)⟩
  obtain ⟨b, cap, xs, hpl, hval, hown, hdx, h1x, hmn, hll⟩ := hrow
  obtain ⟨ax, capx, hvx, hlx, hdx0⟩ := SV.Den.toD _ (hr.evo hx) hxD
  obtain ⟨bx, offx, rfl, hdx2⟩ := hdx0 hne
  obtain ⟨nv, hnl, hnd, hnv, hnk⟩ := vals_of_row hdx2
  have hm : 0 < news.length := List.length_pos_iff.2 hne
  have hncell : ∀ j u, nv[j]? = some u → w.cell? ((⟨bx, offx, none⟩ : Addr).add j) = some u := fun j u hu => by
    rw [addr_add]; exact (hr.store.sat _ _ _ (hnv j u hu)).1
  have hnone : ∀ u ∈ nv, u.oneCell' = true := fun u hu => by
    obtain ⟨j, hj⟩ := List.getElem?_of_mem hu
    exact (hr.store.sat _ _ _ (hnv j u hj)).2
  obtain ⟨v', w', hrun, hrow', hfr0, k, hk1, hk2, hk3, c', rfl⟩ := run_app (P := P) (ty := o.type) TS hsz hown (a := ⟨bx, offx, none⟩) (c := capx) hnl hm hncell hnone h63.1 h63.2
  have hrun2 : (execOp a.eval o).run P w = .ok (.value (.slice (some ⟨k, 0, none⟩) (ls.length + news.length) c')) w' := by
    unfold execOp
    simp only [ho, resolve, invoke, builtin, Sem.run_bind, Sem.run_pure, Result.andThen_ok, List.map_toArray, List.map_cons, List.map_nil, hvx, hrun]
  unfold Oper.wp
  rw [hrun2]
  show next (a.put o.dst _) _
  rw [hd]
  have hob2 : (a.eval s).ownBlock = b := by rw [hval]; cases b <;> rfl
  rw [hob2] at hk2
  have hnk0 : ∀ off, g.m k off = none := fun off => by
    rcases hk2 with h5 | h5
    · exact hmn k h5 off
    · cases hx : g.m k off with
      | none => rfl
      | some y => have := hr.store.sat_lt hx; omega
  have hbo : ∀ d, b = some d → or = .buf e size ls pq := fun d hd => by
    rcases hs with ⟨_, h6⟩ | ⟨_, _, rfl⟩
    · exact h6
    · have hok := hr.store.obs _ _ _ hi' hpl
      simp only [ObOk, Pl.row.injEq] at hok
      rw [hok.1] at hd; cases hd
  have hor : or = .buf e size ls pq ∨ or = .nilrow e size := by
    rcases hs with ⟨_, h6⟩ | ⟨_, _, h6⟩
    · exact .inl h6
    · exact .inr h6
  have hfr2 : Fr (fun c => b = some c ∧ or = .buf e size ls pq) w w' := hfr0.mono fun c _ hc => by
    have h8 : b = some c := by rw [← hob2]; exact hc.1
    exact ⟨h8, hbo c h8⟩
  have hcor : (b = some k ∧ or = .buf e size ls pq) ∨ w.heap.size ≤ k := by
    rcases hk2 with h5 | h5
    · exact .inl ⟨h5, hbo k h5⟩
    · exact .inr (by omega)
  obtain ⟨h1, h2⟩ := hr.buf1 (w' := w') (m' := g.m) (cap' := c') (n' := ls.length + news.length) (ls' := ls ++ news) hi' hor hpl hfr2 (Mle.refl _) hcor (fun d off y h1 h2 => by rw [h2] at h1; cases h1) (fun off y hy => by rw [hnk0] at hy; cases hy) (fun d off y hd hy => by rw [hmn d hd] at hy; cases hy)
    ⟨by simp, fun y hy => by
      rcases List.mem_append.1 hy with hy | hy
      · exact hll y hy
      · exact hnk y hy, ⟨xs ++ nv, hrow', by rw [List.flatten_append]; exact hdx.append hnd, fun u hu => by
      rcases List.mem_append.1 hu with hu | hu
      · exact h1x u hu
      · exact hnone u hu⟩, (fun c hc off => by cases hc; exact hnk0 off), fun r e => by cases e⟩ hsl hob
  refine hK _ _ _ _ (h1.put' (s := .arr i (ls ++ news).length) ht ⟨some k, c', ?_, by rw [List.length_append]; rfl⟩) h2 h
  show (g.gs.set i _)[i]? = _
  rw [List.getElem?_set_self (List.getElem?_eq_some_iff.1 hpl).1, List.length_append]
theorem op_append_arr {o : Oper} {n t i m : Nat} {sl sl' : List (Nat × SV)} {ob ob1 ob' : List Ob} {K : St → Prop} {ty e : TypeId} {size bytes : Nat} {s x : Operand} {ls news : List (List D)} {pq : Option (Option Nat × Nat)} {sx : SV} (TS : SlTy P ty e size bytes) (ho : o.op = .call { callee := .builtin .append, args := #[s, x], argTypes := #[ty, ty] })
    (hd : o.dst = some t) (ht : Nat.blt t n = true) (hs : evO GL sl s = some (.arr i m)) (hi : nthO i ob = some (.buf e size ls pq)) (hx : evO GL sl x = some sx) (hxD : sx.toD = some (.sl size news))
    (hsz : 0 < size) (hne : news ≠ []) (h63 : ls.length + news.length ≤ maxLen ∧ (ls.length + news.length) * bytes ≤ 140737488355328) (hsl : kSl i sl = some sl') (hob : kOb i ob = some ob1) (hob' : set1 i (.buf e size (ls ++ news) none) ob1 = some ob')
    (h : K ⟨n, (t, .arr i (ls ++ news).length) :: sl', ob'⟩) : OpR P GL n0 Pn (fun j => j = i) o ⟨n, sl, ob⟩ K := op_append_arr' TS ho hd ht (.inl ⟨hs, rfl⟩) hi hx hxD hsz hne h63 hsl hob hob' h
end
end Go.Vd
namespace Go.Proofs.YtneaancanfpdhaaGreatDoor
open Go Go.Vd Go.RowKit
attribute [local irreducible] Runs OpsR OpR FloatR AnyR AnyO
variable {g gl : Nat → List D}
theorem walk2_spec {F : Trm → Int → Trm} {B : Int} {f : FuncId} (hcf : callable Tryz.prog f = true) {x1 x2 : D} {ty1 ty2 : TypeId}
    (hf : ∀ (m : Int) (s : ByteArray) (ls : List Lvl) (args : List Trm) (d : Int), 0 ≤ m → m ≤ B → 0 ≤ d → d ≤ 1099511627776 → Tri Tryz.prog gl f [.cells [.d x1] ty1, .cells [.d x2] ty2] [.d (Trm.mk 0 m s ls args).d, .d (.v (.int .i64 d)), .blk 0 0, .blk 1 0] fun out ob' => out = .ret (.d (F (.mk 0 m s ls args) d).d) ∧ ob' = [.cells [.d x1] ty1, .cells [.d x2] ty2]) :
    ∀ (n : Nat) (k m : Int) (s : ByteArray) (ls : List Lvl) (args : List Trm) (d : Int), (Trm.mk k m s ls args).size ≤ n → numT B (.mk k m s ls args) → 0 ≤ d → d + (Trm.mk k m s ls args).size ≤ 1099511627776 →
      Tri Tryz.prog gl 90 [.cells [.d x1] ty1, .cells [.d x2] ty2] [.d (Trm.mk k m s ls args).d, .d (.v (.int .i64 d)), .fn (.func f) [] [.blk 0 0, .blk 1 0]] fun out ob' => out = .ret (.d (mapT F (.mk k m s ls args) d).d) ∧ ob' = [.cells [.d x1] ty1, .cells [.d x2] ty2] := by
  intro n
  induction n with
  | zero => intro k m s ls args d h; simp [Trm.size] at h
  | succ n ih =>
    intro k m s ls args d hsz hnum hd0 hd1
    have hsz2 := hsz
    simp only [Trm.size] at hsz2 hd1
    have hal := trms_len args
    have hsa := sizesT_len args
    refine triS_of_runs Tryz.func90 rfl Tryz.ntmps90 (rs := [.cell 6 31]) rfl rfl rfl 2 rfl ?_
    refine sr ?_; refine oc (T := fun _ => False) (bx ti31 ?_ (hl := by simp only [List.length_cons, List.length_nil, Nat.reduceAdd]; rfl))
    refine oc (T := fun _ => False) (alc ti31 ?_ (hl := by simp only [List.length_cons, List.length_nil, Nat.reduceAdd]; rfl)); refine nx ?_; refine runs_seq ?_; refine sr ?_; refine o1 (fdb ti31 ?_); refine o1 (ldb ti3 ?_); refine o1 (ieq ?_)
    refine nx ?_; refine cd (fun h1 => ?_) (fun h1 => ?_)
    · (try simp only [nrm, Int.reduceEq, Int.reduceNe, Int.reduceLT, Int.reduceLE] at h1)
      refine runs_seq ?_; refine kp [6, 3, 1, 2] ?_; obtain rfl := h1; obtain ⟨k1, m1, s1, l1, a1, hX⟩ := Trm.case (F (.mk 0 m s ls args) d)
      have hv := numT_var hnum
      have hcx := hf m s ls args d hv.1 hv.2 hd0 (by omega)
      rw [hX] at hcx
      refine runs_region ?_; refine o1 (mv ?_); refine o1 (ldb ti31 ?_); refine o1 (mv ?_)
      refine oc (op_callc hcf rfl rfl rfl rfl rfl rfl rfl rfl (hcx) ([0, 1]) (boc (boc .nil)) rfl rfl rfl rfl (fid (fir (fir (fir .nil)))) (fun s ob' hq => ?_) (fun s ob' hq => ?_))
      rotate_left
      · first | exact hq.elim | cases hq.1
      obtain ⟨hq1, rfl⟩ := hq; cases hq1; refine ⟨_, _, _, _, _, rfl, rfl, rfl, rfl, rfl, ?_⟩; refine oc (sto ti31 ?_); refine nx ?_; refine runs_ret ?_; refine seq_ret ?_; refine fin_ret ?_
      refine fin_odl ⟨_, _, rfl, (from_cell rfl rfl ti31 rfl rfl rfl rfl), rfl⟩ rfl ((Trm.mk k1 m1 s1 l1 a1).d) (by exact .refl _) ([0, 1]) ([.cells [.d x1] ty1, .cells [.d x2] ty2]) rfl rfl rfl ?_ ?_
      · repeat (first | exact boz | refine boc ?_)
      · rw [mapT, if_pos rfl, hX]; exact ⟨rfl, rfl⟩
    (try simp only [nrm, Int.reduceEq, Int.reduceNe, Int.reduceLT, Int.reduceLE] at h1); refine runs_skip ?_; refine seq_normal ?_; refine runs_seq ?_; refine kp [6, 3, 1, 2] ?_; refine sr ?_; refine o1 (fdb ti31 ?_); refine o1 (ldb ti29 ?_)
    refine o1 (le1 us29 ?_); refine o1 (ieq ?_); refine nx ?_; refine cd (fun h3 => ?_) (fun h3 => ?_)
    · (try simp only [nrm, Int.reduceEq, Int.reduceNe, Int.reduceLT, Int.reduceLE] at h3)
      refine kp [6, 3] ?_; refine sr ?_; refine o1 (ldb ti31 ?_); refine oc (sto ti31 ?_); refine nx ?_; refine runs_ret ?_; refine seq_ret ?_; refine fin_ret ?_
      refine fin_odl ⟨_, _, rfl, (from_cell rfl rfl ti31 rfl rfl rfl rfl), rfl⟩ rfl ((Trm.mk k m s ls args).d) (by exact .refl _) ([0, 1]) ([.cells [.d x1] ty1, .cells [.d x2] ty2]) rfl rfl rfl ?_ ?_
      · repeat (first | exact boz | refine boc ?_)
      · rw [mapT, if_neg h1, show args = [] from List.length_eq_zero_iff.1 (by omega)]; exact ⟨rfl, rfl⟩
    (try simp only [nrm, Int.reduceEq, Int.reduceNe, Int.reduceLT, Int.reduceLE] at h3); refine runs_skip ?_; refine seq_normal ?_; refine kp [6, 3, 1, 2] ?_; refine sr ?_; refine o1 (ldb ti31 ?_)
    refine oc (T := fun _ => False) (alc ti31 ?_ (hl := by simp only [List.length_cons, List.length_nil, Nat.reduceAdd]; rfl)); refine oc (sto ti31 ?_); refine nx ?_; refine sr ?_; refine o1 (fdb ti31 ?_); refine o1 (ldb ti29 ?_)
    refine o1 (le1 us29 ?_); refine oc (T := fun _ => False) (op_mkslice sl29 ti31 rfl rfl rfl rfl rfl (by simp only [List.length_cons, List.length_nil, Nat.reduceAdd]; rfl) (by (simp only [maxLen]; omega)) rfl ?_); refine o1 (fdb ti31 ?_)
    refine oc (sto ti29 ?_); refine nx ?_; refine runs_seq ?_; refine kp [7, 6, 3, 1, 2] ?_; refine sr ?_; refine o1 (fdb ti31 ?_); refine o1 (ldb ti29 ?_); refine o1 (le1 us29 ?_); refine o1 (mv ?_); refine nx ?_; refine runs_block ?_
    refine kp [32, 31, 30, 7, 6, 3, 1, 2] ?_
    apply runs_loop_o (ι := Nat) (fun i => [(32, int i)]) (fun i => [.cells [.d x1] ty1, .cells [.d x2] ty2, .cells [.d (.v (.int .i64 k)), .d (.v (.int .i64 m)), .d (.v (.string s)), .d (.sl 3 (lvls ls)), .d (.sl 5 (trms args))] 31, .cells [.d (.v (.int .i64 0)), .d (.v (.int .i64 0)), .d (.v (.string .empty)), .d (.v (.slice none 0 0)), .d (.v (.slice none 0 0))] 31, .cells [.d (.v (.int .i64 k)), .d (.v (.int .i64 m)), .d (.v (.string s)), .d (.sl 3 (lvls ls)), .arr 5 (trms args).length] 31, .buf 31 5 (rowT (mapTs F (decide (4 ≤ k)) args d) i (trms args).length) none]) [31, 30, 7, 6, 3, 1, 2] (fun i => i ≤ args.length) (fun i => args.length - i) (0) ([0, 1, 2, 3, 4, 5])
    case hk => exact rfl
    case hI =>
      exact Nat.zero_le _
    case hm =>
      refine mo ?_ (sly (sly (sly (sly (sly (sly (sly (sly slz))))))))
      repeat (first | exact boz | refine boc ?_ | refine bob ?_)
    case h =>
      rintro i hinv
      try dsimp only at hinv
      refine kp [32, 31, 30, 7, 6, 3, 1, 2] ?_; refine sr ?_; refine o1 (ilt ?_); refine nx ?_; refine runs_seq ?_; refine cdf (fun h8 => ?_) (fun h8 => ?_)
      · (try simp only [nrm, Int.reduceEq, Int.reduceNe, Int.reduceLT, Int.reduceLE] at h8)
        refine runs_exit ?_; refine seq_exit ?_; refine seq_exit ?_; refine inb_exit ?_; refine seq_normal ?_; refine kp [7, 6] ?_; refine sr ?_; obtain rfl : i = (trms args).length := (by omega)
        rw [rowT_end (by rw [mapTs_len]; omega)]
        refine ops_freezeb 5 rfl rfl rfl rfl ?_; refine o1 (ldb ti31 ?_); refine oc (sto ti31 ?_); refine nx ?_; refine runs_ret ?_; refine fin_ret ?_
        refine fin_odl ⟨_, _, rfl, (from_cell rfl rfl ti31 rfl rfl rfl rfl), rfl⟩ rfl ((Trm.mk k m s ls (mapTs F (decide (4 ≤ k)) args d)).d) (by exact .refl _) ([0, 1]) ([.cells [.d x1] ty1, .cells [.d x2] ty2]) rfl rfl rfl ?_ ?_
        · repeat (first | exact boz | refine boc ?_)
        · rw [mapT, if_neg h1]; exact ⟨rfl, rfl⟩
      (try simp only [nrm, Int.reduceEq, Int.reduceNe, Int.reduceLT, Int.reduceLE] at h8); refine runs_skip ?_; refine seq_normal ?_; refine runs_seq ?_; refine runs_block ?_; refine runs_seq ?_
      obtain ⟨k2, m2, s2, l2, a2, hget⟩ := trm_get (show i < args.length by omega)
      have hg1 := sizeT_get hget
      have hg2 := mapTs_get F (decide (4 ≤ k)) d hget
      obtain ⟨k3, m3, s3, l3, a3, hY⟩ := Trm.case (mapT F (.mk k2 m2 s2 l2 a2) (if decide (4 ≤ k) = true ∧ i + 1 = args.length then d + 1 else d)); refine runs_region ?_; refine o1 (mv ?_)
      refine o1 (ixs us29 te29 ?_ (he := by exact (trm_at hget))); refine o1 (ldc ti31 ?_); refine oc (T := fun _ => False) (alc ti31 ?_ (hl := by simp only [List.length_cons, List.length_nil, Nat.reduceAdd]; rfl)); refine o1 (asg ?_)
      refine oc (sto ti31 ?_); refine nx ?_; refine kp [8, 9, 32, 31, 30, 7, 6, 3, 1, 2] ?_; refine sr ?_; refine o1 (mv ?_); refine o1 (asg ?_); refine nx ?_; refine runs_seq ?_; refine sr ?_; refine o1 (fdb ti31 ?_); refine o1 (ldb ti3 ?_)
      refine o1 (ige ?_); refine o1 (mv ?_)
      apply ops_and (yt := 47) (d := 41) 6 rfl rfl rfl (.none rfl) rfl rfl
      case h1 =>
        intro hb7 hK
        have hc := hb7; (try simp only [nrm, Int.reduceEq, Int.reduceNe, Int.reduceLT, Int.reduceLE] at hc)
        refine gye ?_ (hbw := by exact hb7); refine o1 (mv ?_); refine gye ?_ (hbw := by exact hb7); refine o1 (fdb ti31 ?_); refine gye ?_ (hbw := by exact hb7); refine o1 (ldb ti29 ?_); refine gye ?_ (hbw := by exact hb7); refine o1 (le1 us29 ?_)
        refine gye ?_ (hbw := by exact hb7); refine o1 (isu ?_); refine gye ?_ (hbw := by exact hb7); refine o1 (ieq ?_); exact hK [_, _, _, _, _, _] rfl rfl
      case h2 =>
        intro hb7 hK; refine gno ?_ (hbw := by exact hb7); refine gno ?_ (hbw := by exact hb7); refine gno ?_ (hbw := by exact hb7); refine gno ?_ (hbw := by exact hb7); refine gno ?_ (hbw := by exact hb7); refine gno ?_ (hbw := by exact hb7)
        exact hK [_, _, _, _, _, _] rfl
      refine nx ?_; refine kp [48, 10, 8, 9, 32, 31, 30, 7, 6, 3, 1, 2] ?_
      apply runs_cut_c (ι := Unit) (fun _ => [(10, int (if decide (4 ≤ k) = true ∧ i + 1 = args.length then d + 1 else d))]) [8, 9, 32, 31, 30, 7, 6, 3, 1, 2] (fun _ => True)
      case hk => exact rfl
      case h1 =>
        refine cdf (fun h11 => ?_) (fun h11 => ?_)
        · (try simp only [nrm, Int.reduceEq, Int.reduceNe, Int.reduceLT, Int.reduceLE] at h11)
          refine runs_skip ?_; refine seq_back ?_; refine back_i (()) rfl ?_ ?_
          · trivial
          · refine mo ?_ (slx rfl (by exact Fit.of_eq (by first | (rw [if_pos (by simp only [decide_eq_true_eq]; omega)]; rfl) | (rw [if_neg (by simp only [decide_eq_true_eq]; omega)]; rfl))) (sly (sly (sly (sly (sly (sly (sly (sly (sly (sly slz)))))))))))
            repeat (first | exact boz | refine boc ?_ | refine bob ?_)
        (try simp only [nrm, Int.reduceEq, Int.reduceNe, Int.reduceLT, Int.reduceLE] at h11); refine runs_region ?_; refine o1 (mv ?_); refine o1 (iad ?_); refine o1 (asg ?_); refine ops_nil ?_; refine seq_back ?_; refine back_i (()) rfl ?_ ?_
        · trivial
        · refine mo ?_ (slx rfl (by exact Fit.of_eq (by first | (rw [if_pos (by simp only [decide_eq_true_eq]; omega)]; rfl) | (rw [if_neg (by simp only [decide_eq_true_eq]; omega)]; rfl))) (sly (sly (sly (sly (sly (sly (sly (sly (sly (sly slz)))))))))))
          repeat (first | exact boz | refine boc ?_ | refine bob ?_)
      case h2 =>
        rintro _ hcut
        try dsimp only at hcut
        refine kp [10, 8, 9, 32, 31, 30, 7, 6, 3, 1, 2] ?_
        have hihx := ih k2 m2 s2 l2 a2 (if decide (4 ≤ k) = true ∧ i + 1 = args.length then d + 1 else d) (by omega) (numT_get hnum h1 hget) (by split <;> omega) (by split <;> omega)
        rw [hY] at hihx hg2
        have hset : (rowT (mapTs F (decide (4 ≤ k)) args d) i (trms args).length).set i [.v (.int .i64 k3), .v (.int .i64 m3), .v (.string s3), .sl 3 (lvls l3), .sl 5 (trms a3)] = rowT (mapTs F (decide (4 ≤ k)) args d) (i + 1) (trms args).length := rowT_set hg2 (by omega)
        refine a_start ?_ (hm := by exact mixed); refine A1 0 rfl (fdb ti31 ⟨_, rfl, ?_⟩); refine A1 1 rfl (ldb ti29 ⟨_, rfl, ?_⟩); refine A1 2 rfl (mv ⟨_, rfl, ?_⟩); refine A1 3 rfl (ldb ti31 ⟨_, rfl, ?_⟩); refine A1 4 rfl (mv ⟨_, rfl, ?_⟩)
        refine A1 5 rfl (mv ⟨_, rfl, ?_⟩); refine A2 6 rfl (ck ca90 rfl rfl (hihx) [0, 1] rfl (boc (boc .nil)) (fid (fir (fir .nil))) ?_); refine A1 7 rfl (fl_index_arr' us29 te29 rfl rfl rfl rfl rfl rfl (by omega) ⟨_, rfl, ?_⟩)
        refine A2 8 rfl (op_store_bp ti31 rfl rfl rfl rfl rfl rfl rfl rfl rfl rfl rfl rfl ⟨rfl, by (rw [rowT_len (by rw [mapTs_len]; omega) (by omega)]; omega)⟩ rfl ?_); refine a_end ?_; refine inb_normal ?_; refine seq_normal ?_
        refine kp [32, 31, 30, 7, 6, 3, 1, 2] ?_; refine runs_region ?_; refine o1 (iad ?_); refine o1 (mv ?_); refine ops_nil ?_; refine seq_back ?_
        simp only [Int.toNat_natCast]; rw [hset]
        refine back_c (i + 1) rfl ?_ ([0, 1, 2, 3, 4, 5]) ?_
        · exact ⟨by omega, by omega⟩
        · refine mo ?_ (sly (sly (sly (sly (sly (sly (sly (sly slz))))))))
          repeat (first | exact boz | refine boc ?_ | refine bob ?_)
end Go.Proofs.YtneaancanfpdhaaGreatDoor
