/-
  What is proved here: contracts of the program's Print of levels.
-/
import Derived.Test.YtafhnnbbfgoacaaDoorYRB
import Derived.Test.YtafhnnbbfgoacaaDoorYLevel
set_option linter.unusedSimpArgs false
set_option linter.unusedVariables false
namespace Go.Proofs.YtafhnnbbfgoacaaDoor
open Go Go.Vd Go.RowKit
attribute [local irreducible] Runs OpsR OpR FloatR AnyR
variable {gl : Nat → List D}

def word (k : Int) : ByteArray := if k = 1 then ⟨#[115]⟩ else if k = 2 then ⟨#[109, 97, 120]⟩ else if k = 3 then ⟨#[105, 109, 97, 120]⟩ else .empty
def wordsD : List D := [.v (.string .empty), .v (.string ⟨#[115]⟩), .v (.string ⟨#[109, 97, 120]⟩), .v (.string ⟨#[105, 109, 97, 120]⟩)]
theorem word_at {k : Int} (h0 : 0 ≤ k) (h1 : k < 4) (hw : gl 0 = wordsD) : ∃ r, dropO (k.toNat * 1) (gl 0) = some (.v (.string (word k)) :: r) := by
  rw [hw]
  have : k = 0 ∨ k = 1 ∨ k = 2 ∨ k = 3 := by omega
  rcases this with rfl | rfl | rfl | rfl <;> exact ⟨_, rfl⟩
theorem word_size (k : Int) : (word k).size ≤ 4 := by
  unfold word; split
  · decide
  · split
    · decide
    · split <;> decide

mutual
def wr : Lvl → ByteArray
  | .mk k s args => if k = 0 then ⟨#[48]⟩ else if k = 4 then s else ⟨#[40]⟩ ++ word k ++ wrL args ++ ⟨#[41]⟩
def wrL : List Lvl → ByteArray
  | [] => .empty
  | l :: r => ⟨#[32]⟩ ++ wr l ++ wrL r
end
theorem wrL_append (l m : List Lvl) : wrL (l ++ m) = wrL l ++ wrL m := by
  induction l with
  | nil => simp [wrL]
  | cons a r ih => simp only [List.cons_append, wrL, ih, ByteArray.append_assoc]
theorem wrL_take {l : List Lvl} {i : Nat} {a : Lvl} (h : l[i]? = some a) : wrL (l.take (i + 1)) = wrL (l.take i) ++ ⟨#[32]⟩ ++ wr a := by
  rw [List.take_add_one, h]; simp [wrL_append, wrL, ByteArray.append_assoc]
theorem wrL_take_le (l : List Lvl) (i : Nat) : (wrL (l.take i)).size ≤ (wrL l).size := by
  have : wrL l = wrL (l.take i) ++ wrL (l.drop i) := by rw [← wrL_append, List.take_append_drop]
  rw [this, ByteArray.size_append]; omega
theorem fit_get : ∀ {ls : List Lvl} {i : Nat} {l : Lvl}, fitL ls → ls[i]? = some l → fitP l
  | [], i, l, _, h => by simp at h
  | a :: r, 0, l, hf, h => by simp at h; subst h; exact hf.1
  | a :: r, i + 1, l, hf, h => fit_get hf.2 (by simpa using h)

theorem write_spec (hw : gl 0 = wordsD) : ∀ (n : Nat) (k : Int) (s : ByteArray) (args : List Lvl) (used : Bool) (b : ByteArray), (Lvl.mk k s args).size ≤ n → (Lvl.mk k s args).size ≤ 1099511627776 → fitP (Lvl.mk k s args) → b.size + (wr (.mk k s args)).size ≤ 35184372088832 →
    Tri Tryd.prog gl 30 (bldO used b) [.blk 0 0, .d (Lvl.mk k s args).d] fun out ob' => out = .ret (.d (.tup [])) ∧ ob' = bldO true (b ++ wr (.mk k s args)) := by
  intro n
  induction n with
  | zero => intro k s args used b h; simp [Lvl.size] at h
  | succ n ih =>
    intro k s args used b hn hb hf hsize
    have hsz : sizes args ≤ n := by simp [Lvl.size] at hn; omega
    have hlen := lvls_len args
    have hlb := lvls_size args
    simp only [Lvl.size] at hb
    obtain ⟨hf0, hf4, hfs, hfa⟩ := hf
    have hws := word_size k
    by_cases hk0 : k = 0
    · subst hk0
      have hck := ws_spec (gl := gl) used b ⟨#[48]⟩ (by decide) (by simp [size_mk]; omega)
      rw [show wr (.mk 0 s args) = ⟨#[48]⟩ by simp [wr]]
      cases used
      all_goals (
        unfold bldO bldA
        dsimp only [cond_true, cond_false]
        refine triS_of_runs Tryd.func30 rfl Tryd.ntmps30 (rs := []) rfl rfl rfl 2 rfl ?_
        refine sr ?_; refine oc (T := fun _ => False) (bx ti31 ?_ (hl := by simp only [List.length_cons, List.length_nil, Nat.reduceAdd]; rfl)); refine nx ?_; refine sr ?_; refine o1 (fdb ti31 ?_); refine o1 (ldb ti3 ?_); refine nx ?_
        refine runs_block ?_; refine sr ?_; refine o1 (ieq ?_); refine o1 (asg ?_); refine nx ?_; refine cdf (fun h10 => ?_) (fun h10 => ?_)
        · simp only [nrm, Int.reduceEq, Int.reduceNe, Int.reduceLT, Int.reduceLE] at h10
        (try simp only [nrm, Int.reduceEq, Int.reduceNe, Int.reduceLT, Int.reduceLE] at h10); refine kp [0] ?_; refine runs_region ?_; refine o1 (mv ?_); refine oc (ck ca48 rfl rfl (hck) [0, 1] rfl (boc (bor .nil)) (fir (fir .nil)) ?_)
        refine ops_nil ?_; refine inb_normal ?_; refine fin_normal ?_; refine fin_od (l := []) rfl rfl ([0, 1]) (bldO true (b ++ ⟨#[48]⟩)) rfl rfl rfl ?_ ?_
        · repeat (first | exact boz | refine boc ?_ | refine bor ?_)
        · exact ⟨rfl, rfl⟩
      )
    by_cases hk4 : k = 4
    · subst hk4
      rw [show wr (.mk 4 s args) = s by simp [wr]] at hsize ⊢
      have hck := ws_spec (gl := gl) used b s (hfs rfl) (by omega)
      cases used
      all_goals (
        unfold bldO bldA
        dsimp only [cond_true, cond_false]
        refine triS_of_runs Tryd.func30 rfl Tryd.ntmps30 (rs := []) rfl rfl rfl 2 rfl ?_
        refine sr ?_; refine oc (T := fun _ => False) (bx ti31 ?_ (hl := by simp only [List.length_cons, List.length_nil, Nat.reduceAdd]; rfl)); refine nx ?_; refine sr ?_; refine o1 (fdb ti31 ?_); refine o1 (ldb ti3 ?_); refine nx ?_
        refine runs_block ?_; refine sr ?_; refine o1 (ieq ?_); refine o1 (asg ?_); refine nx ?_; refine cd (fun h10 => ?_) (fun h10 => ?_)
        · simp only [nrm, Int.reduceEq, Int.reduceNe, Int.reduceLT, Int.reduceLE] at h10
        (try simp only [nrm, Int.reduceEq, Int.reduceNe, Int.reduceLT, Int.reduceLE] at h10); refine kp [7, 3, 0] ?_; refine sr ?_; refine o1 (ieq ?_); refine o1 (asg ?_); refine nx ?_; refine cdf (fun h12 => ?_) (fun h12 => ?_)
        · simp only [nrm, Int.reduceEq, Int.reduceNe, Int.reduceLT, Int.reduceLE] at h12
        (try simp only [nrm, Int.reduceEq, Int.reduceNe, Int.reduceLT, Int.reduceLE] at h12); refine runs_region ?_; refine o1 (mv ?_); refine o1 (fdb ti31 ?_); refine o1 (ldb ti9 ?_)
        refine oc (ck ca48 rfl rfl (hck) [0, 1] rfl (boc (bor .nil)) (fir (fir .nil)) ?_); refine ops_nil ?_; refine inb_normal ?_; refine fin_normal ?_; refine fin_od (l := []) rfl rfl ([0, 1]) (bldO true (b ++ s)) rfl rfl rfl ?_ ?_
        · repeat (first | exact boz | refine boc ?_ | refine bor ?_)
        · exact ⟨rfl, rfl⟩
      )
    have hwr : wr (.mk k s args) = ⟨#[40]⟩ ++ word k ++ wrL args ++ ⟨#[41]⟩ := by simp only [wr, if_neg hk0, if_neg hk4]
    rw [hwr] at hsize ⊢
    simp only [ByteArray.size_append, size_mk, List.size_toArray, List.length_cons, List.length_nil] at hsize
    obtain ⟨rr, hat⟩ := word_at (gl := gl) hf0 (show k < 4 by omega) hw
    have hck := ws_spec (gl := gl) used b (⟨#[40]⟩ ++ word k) (fun e => by have := congrArg ByteArray.size e; simp only [ByteArray.size_append, size_mk, List.size_toArray, List.length_cons, List.length_nil, ByteArray.size_empty] at this; omega) (by simp only [ByteArray.size_append, size_mk, List.size_toArray, List.length_cons, List.length_nil]; omega)
    cases used
    all_goals (
      unfold bldO bldA
      dsimp only [cond_true, cond_false]
      refine triS_of_runs Tryd.func30 rfl Tryd.ntmps30 (rs := []) rfl rfl rfl 2 rfl ?_
      refine sr ?_; refine oc (T := fun _ => False) (bx ti31 ?_ (hl := by simp only [List.length_cons, List.length_nil, Nat.reduceAdd]; rfl)); refine nx ?_; refine sr ?_; refine o1 (fdb ti31 ?_); refine o1 (ldb ti3 ?_); refine nx ?_
      refine runs_block ?_; refine sr ?_; refine o1 (ieq ?_); refine o1 (asg ?_); refine nx ?_; refine cd (fun h10 => ?_) (fun h10 => ?_)
      · (try simp only [nrm, Int.reduceEq, Int.reduceNe, Int.reduceLT, Int.reduceLE] at h10); contradiction
      (try simp only [nrm, Int.reduceEq, Int.reduceNe, Int.reduceLT, Int.reduceLE] at h10); refine kp [7, 3, 0] ?_; refine sr ?_; refine o1 (ieq ?_); refine o1 (asg ?_); refine nx ?_; refine cd (fun h12 => ?_) (fun h12 => ?_)
      · (try simp only [nrm, Int.reduceEq, Int.reduceNe, Int.reduceLT, Int.reduceLE] at h12); contradiction
      (try simp only [nrm, Int.reduceEq, Int.reduceNe, Int.reduceLT, Int.reduceLE] at h12); refine sr ?_; refine o1 (mv ?_); refine o1 (fdb ti31 ?_); refine o1 (ldb ti3 ?_); refine o1 (f_index_arr ua86 ti9 ?_ (hl := by exact (hat)))
      refine o1 (ldc ti9 ?_); refine o1 (f_sadd ?_ (hb := by (try simp only [ByteArray.size_append, size_mk, List.size_toArray, List.length_cons, List.length_nil]); omega))
      refine oc (ck ca48 rfl rfl (hck) [0, 1] rfl (boc (bor .nil)) (fir (fir .nil)) ?_); refine nx ?_; refine runs_seq ?_; refine kp [3, 0] ?_; refine sr ?_; refine o1 (fdb ti31 ?_); refine o1 (ldb ti29 ?_); refine o1 (le1 us29 ?_)
      refine o1 (mv ?_); refine nx ?_; refine runs_block ?_; refine kp [18, 17, 16, 0] ?_
      rw [show b ++ (⟨#[40]⟩ ++ word k) = b ++ (⟨#[40]⟩ ++ word k) ++ wrL (args.take 0) by simp [wrL]]
      apply runs_loop_o (ι := Nat) (fun i => [(18, int i)]) (fun i => [.cells [.blk 0 0, .own 1 1 (bytesD (b ++ (⟨#[40]⟩ ++ word k) ++ wrL (args.take i)))] 63, .row 5 1, .cells [.d (.v (.int .i64 k)), .d (.v (.string s)), .d (.sl 3 (lvls args))] 31]) [17, 16, 0] (fun i => i ≤ args.length) (fun i => args.length - i) (0) ([0, 1, 2])
      case hk => exact rfl
      case hI =>
        exact Nat.zero_le _
      case hm =>
        refine mo ?_ (sly (sly (sly (sly slz))))
        repeat (first | exact boz | refine boc ?_ | refine bor ?_)
      case h =>
        rintro i hinv
        try dsimp only at hinv
        refine kp [18, 17, 16, 0] ?_; refine sr ?_; refine o1 (ilt ?_); refine nx ?_; refine runs_seq ?_; refine cdf (fun h4 => ?_) (fun h4 => ?_)
        · (try simp only [nrm, Int.reduceEq, Int.reduceNe, Int.reduceLT, Int.reduceLE] at h4)
          refine runs_exit ?_; refine seq_exit ?_; refine seq_exit ?_; refine inb_exit ?_; refine seq_normal ?_; refine kp [0] ?_
          have hsl := wrL_take_le args i
          refine runs_region ?_; refine o1 (mv ?_)
          refine oc (ck ca49 rfl rfl (wb_spec true (b ++ (⟨#[40]⟩ ++ word k) ++ wrL (args.take i)) 41 (by simp only [ByteArray.size_append, size_mk, List.size_toArray, List.length_cons, List.length_nil]; omega)) [0, 1] rfl (boc (bor .nil)) (fir (fir .nil)) ?_)
          refine ops_nil ?_; refine inb_normal ?_; refine fin_normal ?_; refine fin_od (l := []) rfl rfl ([0, 1]) (bldO true (b ++ (⟨#[40]⟩ ++ word k) ++ wrL (args.take i) ++ ⟨#[41]⟩)) rfl rfl rfl ?_ ?_
          · repeat (first | exact boz | refine boc ?_ | refine bor ?_)
          · refine ⟨rfl, ?_⟩; rw [List.take_of_length_le (by omega)]; simp only [ByteArray.append_assoc]; rfl
        (try simp only [nrm, Int.reduceEq, Int.reduceNe, Int.reduceLT, Int.reduceLE] at h4); refine runs_skip ?_; refine seq_normal ?_; refine runs_seq ?_; refine runs_block ?_; refine runs_seq ?_
        obtain ⟨k', s', a', hget⟩ := lvl_get (show i < args.length by omega)
        have hsz' := size_get hget
        have hf' := fit_get hfa hget
        have hst := congrArg ByteArray.size (wrL_take hget)
        simp only [ByteArray.size_append, size_mk, List.size_toArray, List.length_cons, List.length_nil] at hst
        have hsl := wrL_take_le args (i + 1)
        refine runs_region ?_; refine o1 (ixs us29 te29 ?_ (he := by exact (lvl_at hget))); refine o1 (ldc ti31 ?_); refine oc (T := fun _ => False) (alc ti31 ?_ (hl := by simp only [List.length_cons, List.length_nil, Nat.reduceAdd]; rfl))
        refine oc (sto ti31 ?_); refine nx ?_; refine sr ?_; refine o1 (mv ?_)
        refine oc (ck ca49 rfl rfl (wb_spec true (b ++ (⟨#[40]⟩ ++ word k) ++ wrL (args.take i)) 32 (by simp only [ByteArray.size_append, size_mk, List.size_toArray, List.length_cons, List.length_nil]; omega)) [0, 1] rfl (boc (bor .nil)) (fir (fir .nil)) ?_)
        refine nx ?_; refine kp [5, 18, 17, 16, 0] ?_; refine runs_region ?_; refine o1 (mv ?_); refine o1 (ldb ti31 ?_)
        refine oc (ck ca30 rfl rfl (ih k' s' a' true (b ++ (⟨#[40]⟩ ++ word k) ++ wrL (args.take i) ++ ⟨#[32]⟩) (by omega) (by omega) hf' (by simp only [ByteArray.size_append, size_mk, List.size_toArray, List.length_cons, List.length_nil]; omega)) [0, 1] rfl (boc (bor .nil)) (fir (fid .nil)) ?_)
        refine ops_nil ?_; refine inb_normal ?_; refine seq_normal ?_; refine kp [18, 17, 16, 0] ?_; refine runs_region ?_; refine o1 (iad ?_); refine o1 (mv ?_); refine ops_nil ?_; refine seq_back ?_
        rw [show b ++ (⟨#[40]⟩ ++ word k) ++ wrL (args.take i) ++ ⟨#[32]⟩ ++ wr (.mk k' s' a') = b ++ (⟨#[40]⟩ ++ word k) ++ wrL (args.take (i + 1)) by rw [wrL_take hget]; simp only [ByteArray.append_assoc]]
        refine back_c (i + 1) rfl ?_ ([0, 1, 2]) ?_
        · exact ⟨by omega, by omega⟩
        · refine mo ?_ (sly (sly (sly (sly slz))))
          repeat (first | exact boz | refine boc ?_ | refine bor ?_)
    )

theorem wr_ne {k : Int} {s : ByteArray} {args : List Lvl} (h : fitP (.mk k s args)) : wr (.mk k s args) ≠ .empty := by
  simp only [wr]
  split
  · decide
  · split
    · rename_i h4; exact h.2.2.1 h4
    · intro e
      have := congrArg ByteArray.size e
      simp only [ByteArray.size_append, size_mk, List.size_toArray, List.length_cons, List.length_nil, ByteArray.size_empty] at this; omega

theorem pprint_spec (hw : gl 0 = wordsD) (k : Int) (s : ByteArray) (args : List Lvl) (hb : (Lvl.mk k s args).size ≤ 1099511627776) (hf : fitP (.mk k s args)) (hs : (wr (.mk k s args)).size ≤ 35184372088832) :
    TriD Tryd.prog gl 15 [(Lvl.mk k s args).d] (· = .v (.string (wr (.mk k s args)))) := by
  have hwe := write_spec (gl := gl) hw _ k s args false .empty (Nat.le_refl _) hb hf (by simpa using hs)
  rw [ByteArray.empty_append] at hwe
  refine triD_of_runs Tryd.func15 rfl Tryd.ntmps15 (rs := [.tmp 2]) rfl rfl rfl ?_
  refine sr ?_; refine oc (T := fun _ => False) (bx ti31 ?_ (hl := by simp only [List.length_cons, List.length_nil, Nat.reduceAdd]; rfl)); refine o1 (asg ?_); refine nx ?_; refine sr ?_
  refine oc (T := fun _ => False) (alc ti63 ?_ (hl := by simp only [List.length_cons, List.length_nil, Nat.reduceAdd]; rfl)); refine nx ?_; refine runs_seq ?_; refine runs_nilrow 5 1 rfl ?_; refine runs_region ?_; refine o1 (ldb ti31 ?_)
  refine oc (ck ca30 rfl rfl (hwe) [1, 2] rfl (.cons rfl (.cells rfl (by repeat (first | exact fiz | refine fir ?_ | refine .cons (.nil rfl) ?_))) (bon .nil)) (fir (fid .nil)) ?_); refine nx ?_; refine kp [3] ?_; refine sr ?_
  refine oc (ck ca31 rfl rfl (bstr_spec (wr (.mk k s args)) (wr_ne hf)) [1, 2] rfl (boc (bor .nil)) (fir .nil) ?_); refine o1 (asg ?_); refine nx ?_; refine runs_ret ?_; refine fin_ret ?_; refine fin_d1 rfl rfl ?_
  rfl

theorem wr_lev : ∀ l : Lev, wr l.toLvl = l.print
  | .zero => by simp [Lev.toLvl, wr, Lev.print]
  | .param s => by simp [Lev.toLvl, wr, Lev.print]
  | .succ a => by
    have h := wr_lev a
    simp only [Lev.toLvl, wr, wrL, Lev.print, h]
    rw [if_neg (by decide), if_neg (by decide), show (⟨#[40, 115, 32]⟩ : ByteArray) = ⟨#[40]⟩ ++ word 1 ++ ⟨#[32]⟩ by rfl]
    simp only [ByteArray.append_assoc, ByteArray.append_empty]
  | .max a b => by
    have h := wr_lev a
    have h2 := wr_lev b
    simp only [Lev.toLvl, wr, wrL, Lev.print, h, h2]
    rw [if_neg (by decide), if_neg (by decide), show (⟨#[109, 97, 120]⟩ : ByteArray) = word 2 by rfl]
    simp only [ByteArray.append_assoc, ByteArray.append_empty]
  | .imax a b => by
    have h := wr_lev a
    have h2 := wr_lev b
    simp only [Lev.toLvl, wr, wrL, Lev.print, h, h2]
    rw [if_neg (by decide), if_neg (by decide), show (⟨#[105, 109, 97, 120]⟩ : ByteArray) = word 3 by rfl]
    simp only [ByteArray.append_assoc, ByteArray.append_empty]
end Go.Proofs.YtafhnnbbfgoacaaDoor
