/-
  What is proved here: contracts of the program's level.Catch, Scanner.End; errors as data.
-/
import Derived.Test.YtneaancanfpdhaaGreatDoorYS4
import Derived.Test.YtneaancanfpdhaaGreatDoorY15
set_option linter.unusedSimpArgs false
set_option linter.unusedVariables false
namespace Go.Proofs.YtneaancanfpdhaaGreatDoor
open Go Go.Vd Go.RowKit
attribute [local irreducible] Runs OpsR OpR FloatR AnyR AnyO
variable {gl : Nat → List D}

theorem catch_ret (E : D) : TriDf Tryz.prog gl 71 [.cells [.d E] 54] [.blk 0 0] .ret (fun U' ob' => U' = .ret ∧ ob' = [.cells [.d E] 54]) := by
  refine triDf_recover (Q0 := fun out ob' => out = .ret (.d (.tup [])) ∧ ob' = [.cells [.d E] 54]) (U' := .ret) Tryz.func71 rfl Tryz.ntmps71 (rs := []) rfl rfl rfl 1 rfl (fun _ _ => rfl) rfl rfl rfl (.inl ⟨rfl, rfl, rfl⟩) ?_ ?_
  · rintro out ob' ⟨rfl, rfl⟩; exact ⟨⟨_, rfl⟩, rfl, rfl⟩
  refine runs_block ?_; refine sr ?_; refine o1 (f_ieql_nil ii20 ?_); refine nx ?_; refine cdf (fun h3 => ?_) (fun h3 => ?_)
  · simp only [nrm, Int.reduceEq, Int.reduceNe, Int.reduceLT, Int.reduceLE] at h3
  (try simp only [nrm, Int.reduceEq, Int.reduceNe, Int.reduceLT, Int.reduceLE] at h3); refine runs_region ?_; refine o1 (asg ?_); refine ops_nil ?_; refine inb_normal ?_; refine fin_normal ?_
  refine fin_od (l := []) rfl rfl ([0]) ([.cells [.d E] 54]) rfl rfl rfl ?_ ?_
  · repeat (first | exact boz | refine boc ?_)
  · exact ⟨rfl, rfl⟩
theorem catch_pan (E : D) (c a : Int) : TriDf Tryz.prog gl 71 [.cells [.d E] 54] [.blk 0 0] (.pan (fltD c a) false) (fun U' ob' => U' = .pan (fltD c a) true ∧ ob' = [.cells [.d (fltD c a)] 54]) := by
  refine triDf_recover (Q0 := fun out ob' => out = .ret (.d (.tup [])) ∧ ob' = [.cells [.d (fltD c a)] 54]) (U' := .pan (fltD c a) true) Tryz.func71 rfl Tryz.ntmps71 (rs := []) rfl rfl rfl 1 rfl (fun _ _ => rfl) rfl rfl rfl (.inr ⟨_, rfl, rfl, rfl⟩) ?_ ?_
  · rintro out ob' ⟨rfl, rfl⟩; exact ⟨⟨_, rfl⟩, rfl, rfl⟩
  unfold fltD
  refine runs_block ?_; refine sr ?_; refine o1 (f_ieql_d ii20 ?_); refine nx ?_; refine cd (fun h3 => ?_) (fun h3 => ?_)
  · simp only [nrm, Int.reduceEq, Int.reduceNe, Int.reduceLT, Int.reduceLE] at h3
  (try simp only [nrm, Int.reduceEq, Int.reduceNe, Int.reduceLT, Int.reduceLE] at h3); refine sr ?_; refine o1 (f_tassert_yes ?_); refine o1 (ex2 ?_); refine o1 (ex2 ?_); refine nx ?_; refine cdf (fun h5 => ?_) (fun h5 => ?_)
  · simp only [nrm, Int.reduceEq, Int.reduceNe, Int.reduceLT, Int.reduceLE] at h5
  (try simp only [nrm, Int.reduceEq, Int.reduceNe, Int.reduceLT, Int.reduceLE] at h5); refine kp [10, 0] ?_; refine sr ?_; refine o1 (asg ?_); refine nx ?_; refine runs_region ?_; refine o1 (mv ?_); refine o1 (mv ?_); refine o1 (f_iface_d ?_)
  refine o1 (ncb ?_); refine oc (sto ti54 ?_); refine ops_nil ?_; refine inb_normal ?_; refine fin_normal ?_; refine fin_od (l := []) rfl rfl ([0]) ([.cells [.d (fltD c a)] 54]) rfl rfl rfl ?_ ?_
  · repeat (first | exact boz | refine boc ?_)
  · exact ⟨rfl, rfl⟩

/-- an error, by its code and place -/
def errD (c a : Int) : D := if c = 0 then .v .nilIface else fltD c a
theorem errD_zero (a : Int) : errD 0 a = .v .nilIface := rfl
theorem errD_ne {c : Int} (h : ¬ c = 0) (a : Int) : errD c a = fltD c a := if_neg h
theorem doneR_some {s : ByteArray} {p a : Nat} : (doneR s ⟨p, some a⟩).f = some a := by
  unfold doneR; dsimp only; split <;> rfl
theorem doneR_no {s : ByteArray} {p : Nat} (h : ¬ stepTok s p = .empty) : (doneR s ⟨p, none⟩).f = some (tokR s p).2.1 := by
  unfold doneR; dsimp only
  rw [if_pos]; rfl
  cases h2 : (tokR s p).2.2 with
  | false => exact .inl rfl
  | true =>
    right; intro e; apply h; unfold stepTok; rw [if_pos h2, e]
theorem doneR_yes {s : ByteArray} {p : Nat} (h : stepTok s p = .empty) : (doneR s ⟨p, none⟩).f = none := by
  unfold doneR; dsimp only
  unfold stepTok at h
  split at h
  · rename_i h2
    rw [if_neg]; rintro (h3 | h3)
    · rw [h2] at h3; cases h3
    · exact h3 h
  · exact absurd h (by decide)
theorem send_spec (s : ByteArray) (b : Nat) (tok : ByteArray) (pos : Nat) :
    Tri Tryz.prog gl 74 [scO s b tok pos] [.blk 0 0] fun out ob' => (tok = .empty ∧ out = .ret (.d (.tup [])) ∧ ob' = [scO s b tok pos]) ∨ (¬ tok = .empty ∧ out = .pan (.d (fltD 1 pos)) ∧ ob' = [scO s b tok pos]) := by
  by_cases h : tok = .empty
  · subst h; exact (end_ok s b pos).mono fun o b hq => .inl ⟨rfl, hq⟩
  · exact (end_bad s b tok pos h).mono fun o b hq => .inr ⟨h, hq⟩

end Go.Proofs.YtneaancanfpdhaaGreatDoor
