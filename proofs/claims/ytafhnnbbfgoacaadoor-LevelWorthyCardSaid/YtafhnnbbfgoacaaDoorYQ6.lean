/-
  What is proved here: levelFacts: the closed facts of levels.
-/
import Derived.Test.YtafhnnbbfgoacaaDoorYQ3
import Derived.Test.YtafhnnbbfgoacaaDoorYR8
import Derived.Test.YtafhnnbbfgoacaaDoorYRC
set_option linter.unusedSimpArgs false
set_option linter.unusedVariables false
namespace Go.Proofs.YtafhnnbbfgoacaaDoor
open Go Go.Vd Go.RowKit
attribute [local irreducible] Runs OpsR OpR FloatR AnyR AnyO
variable {gl : Nat → List D}

def uL : Lev := .param ⟨#[117]⟩
def oneL : Lev := .succ .zero
def mL : Lev := .max uL oneL
def iL : Lev := .imax oneL uL
theorem nm_u : nmL uL := fun p h => by have e : p = _ := h; rw [e]; decide
theorem nm_m : nmL mL := fun p h => by rcases h with h | h; exact nm_u p h; exact h.elim
theorem nm_i : nmL iL := fun p h => by rcases h with h | h; exact h.elim; exact nm_u p h
theorem sem_um : semB uL mL = true := semB_iff.2 fun σ hσ => by have := hσ.pos ⟨#[117]⟩; simp only [uL, mL, oneL, Lev.worth]; omega
theorem sem_mu : semB mL uL = false := by
  cases h : semB mL uL with
  | false => rfl
  | true =>
    have := semB_iff.1 h (fun _ => 0) ⟨fun _ => Int.le_refl _, fun _ _ => rfl, fun p hp => absurd rfl hp⟩
    simp only [uL, mL, oneL, Lev.worth] at this
    omega
theorem i_worth (σ : ByteArray → Int) : iL.worth σ = if σ ⟨#[117]⟩ = 0 then 0 else max (0 + 1) (σ ⟨#[117]⟩) := rfl
theorem u_worth (σ : ByteArray → Int) : uL.worth σ = σ ⟨#[117]⟩ := rfl
theorem m_worth (σ : ByteArray → Int) : mL.worth σ = max (σ ⟨#[117]⟩) (0 + 1) := rfl
theorem sem_iu : semB iL uL = true := semB_iff.2 fun σ hσ => by
  have := hσ.pos ⟨#[117]⟩
  rw [i_worth, u_worth]; split <;> omega
theorem sem_ui : semB uL iL = true := semB_iff.2 fun σ hσ => by
  have := hσ.pos ⟨#[117]⟩
  rw [i_worth, u_worth]; split <;> omega
theorem sem_im : semB iL mL = true := semB_iff.2 fun σ hσ => by
  have := hσ.pos ⟨#[117]⟩
  rw [i_worth, m_worth]; split <;> omega

theorem facts_spec (hw : gl 0 = wordsD) : TriD Tryd.prog gl 8 [] (· = .v (.bool true)) := by
  have h5 := pLeq_spec (gl := gl) uL mL nm_u nm_m (by decide) (by decide)
  have h6 := pLeq_spec (gl := gl) mL uL nm_m nm_u (by decide) (by decide)
  have h7 := pSame_spec (gl := gl) iL uL nm_i nm_u (by decide) (by decide)
  have h8 := pLeq_spec (gl := gl) iL mL nm_i nm_m (by decide) (by decide)
  rw [sem_um] at h5
  rw [sem_mu] at h6
  rw [sem_iu, sem_ui] at h7
  rw [sem_im] at h8
  have h9 := pprint_spec (gl := gl) hw 2 .empty [uL.toLvl, oneL.toLvl] (by decide) (by simp [fitP, fitL, uL, oneL, Lev.toLvl]; decide) (by rw [show wr (.mk 2 .empty [uL.toLvl, oneL.toLvl]) = wr mL.toLvl from rfl, wr_lev]; decide)
  rw [show wr (.mk 2 .empty [uL.toLvl, oneL.toLvl]) = wr mL.toLvl from rfl, wr_lev] at h9
  have h10 := pworth_spec (gl := gl) [⟨#[117]⟩] [4] (by decide) (by decide) (by decide) mL (by decide)
  have e10 : mL.worth (pval [⟨#[117]⟩] [4]) = 4 := by decide +kernel
  rw [e10] at h10
  have e9 : mL.print = ⟨#[40, 109, 97, 120, 32, 117, 32, 40, 115, 32, 48, 41, 41]⟩ := by decide +kernel
  rw [e9] at h9
  refine triD_of_runs Tryd.func8 rfl Tryd.ntmps8 (rs := [.tmp 0]) rfl rfl rfl ?_
  refine sr ?_; refine o1 (asg ?_); refine nx ?_; refine sr ?_; refine o1 (bld ti31 ?_); refine oc (T := fun _ => False) (alc ti31 ?_ (hl := by simp only [List.length_cons, List.length_nil, Nat.reduceAdd]; rfl)); refine oc (sto ti31 ?_)
  refine nx ?_; refine sr ?_; refine o1 (bld ti31 ?_)
  refine oc (T := fun _ => False) (op_lit sl29 [.tmp 12] ti31 rfl rfl rfl rfl rfl rfl rfl (by decide) (by decide) (by decide) (by simp only [List.length_cons, List.length_nil, Nat.reduceAdd]; rfl) rfl ?_); refine o1 (bld ti31 ?_)
  refine oc (T := fun _ => False) (alc ti31 ?_ (hl := by simp only [List.length_cons, List.length_nil, Nat.reduceAdd]; rfl)); refine oc (sto ti31 ?_); refine nx ?_; refine kp [2, 1] ?_; refine sr ?_; refine o1 (ldb ti31 ?_)
  refine o1 (ldb ti31 ?_); refine oc (T := fun _ => False) (op_lit sl29 [.tmp 15, .tmp 16] ti31 rfl rfl rfl rfl rfl rfl rfl (by decide) (by decide) (by decide) (by simp only [List.length_cons, List.length_nil, Nat.reduceAdd]; rfl) rfl ?_)
  refine o1 (bld ti31 ?_); refine oc (T := fun _ => False) (alc ti31 ?_ (hl := by simp only [List.length_cons, List.length_nil, Nat.reduceAdd]; rfl)); refine oc (sto ti31 ?_); refine nx ?_; refine kp [3, 2, 1] ?_; refine sr ?_
  refine o1 (ldb ti31 ?_); refine o1 (ldb ti31 ?_)
  refine oc (T := fun _ => False) (op_lit sl29 [.tmp 19, .tmp 20] ti31 rfl rfl rfl rfl rfl rfl rfl (by decide) (by decide) (by decide) (by simp only [List.length_cons, List.length_nil, Nat.reduceAdd]; rfl) rfl ?_); refine o1 (bld ti31 ?_)
  refine oc (T := fun _ => False) (alc ti31 ?_ (hl := by simp only [List.length_cons, List.length_nil, Nat.reduceAdd]; rfl)); refine oc (sto ti31 ?_); refine nx ?_; refine kp [4, 3, 1] ?_; refine sr ?_; refine o1 (ldb ti31 ?_)
  refine o1 (ldb ti31 ?_)
  refine oc (cv ca13 rfl rfl (h5) (.cons (.dle rfl (by repeat (first | exact .refl _ | exact .nil | refine .agg ?_ | refine .cons ?_ ?_))) (.cons (.dle rfl (by repeat (first | exact .refl _ | exact .nil | refine .agg ?_ | refine .sl ?_ | refine .cons ?_ ?_))) .nil)) ?_)
  refine o1 (asg ?_); refine nx ?_; refine sr ?_; refine o1 (ldb ti31 ?_); refine o1 (ldb ti31 ?_)
  refine oc (cv ca13 rfl rfl (h6) (.cons (.dle rfl (by repeat (first | exact .refl _ | exact .nil | refine .agg ?_ | refine .sl ?_ | refine .cons ?_ ?_))) (.cons (.dle rfl (by repeat (first | exact .refl _ | exact .nil | refine .agg ?_ | refine .cons ?_ ?_))) .nil)) ?_)
  refine o1 (asg ?_); refine nx ?_; refine kp [6, 5, 4, 3, 1] ?_; refine sr ?_; refine o1 (ldb ti31 ?_); refine o1 (ldb ti31 ?_)
  refine oc (cv ca14 rfl rfl (h7) (.cons (.dle rfl (by repeat (first | exact .refl _ | exact .nil | refine .agg ?_ | refine .sl ?_ | refine .cons ?_ ?_))) (.cons (.dle rfl (by repeat (first | exact .refl _ | exact .nil | refine .agg ?_ | refine .cons ?_ ?_))) .nil)) ?_)
  refine o1 (asg ?_); refine nx ?_; refine kp [7, 6, 5, 4, 3] ?_; refine sr ?_; refine o1 (ldb ti31 ?_); refine o1 (ldb ti31 ?_)
  refine oc (cv ca13 rfl rfl (h8) (.cons (.dle rfl (by repeat (first | exact .refl _ | exact .nil | refine .agg ?_ | refine .sl ?_ | refine .cons ?_ ?_))) (.cons (.dle rfl (by repeat (first | exact .refl _ | exact .nil | refine .agg ?_ | refine .sl ?_ | refine .cons ?_ ?_))) .nil)) ?_)
  refine o1 (asg ?_); refine nx ?_; refine kp [8, 7, 6, 5, 3] ?_; refine sr ?_; refine o1 (ldb ti31 ?_)
  refine oc (cv ca15 rfl rfl (h9) (.cons (.dle rfl (by repeat (first | exact .refl _ | exact .nil | refine .agg ?_ | refine .sl ?_ | refine .cons ?_ ?_))) .nil) ?_); refine o1 (asg ?_); refine nx ?_; refine sr ?_; refine o1 (ldb ti31 ?_)
  refine oc (T := fun _ => False) (op_lit sl36 [.const _] ti9 rfl rfl rfl rfl rfl rfl rfl (by decide) (by decide) (by decide) (by simp only [List.length_cons, List.length_nil, Nat.reduceAdd]; rfl) rfl ?_)
  refine oc (T := fun _ => False) (op_lit sl39 [.const (.int .i64 4)] ti3 rfl rfl rfl rfl rfl rfl rfl (by decide) (by decide) (by decide) (by simp only [List.length_cons, List.length_nil, Nat.reduceAdd]; rfl) rfl ?_)
  refine oc (cv ca12 rfl rfl (h10) (.cons (.dle rfl (by repeat (first | exact .refl _ | exact .nil | refine .agg ?_ | refine .sl ?_ | refine .cons ?_ ?_))) (fid (fid .nil))) ?_); refine o1 (asg ?_); refine nx ?_
  refine kp [10, 9, 8, 7, 6, 5] ?_; refine sr ?_; refine o1 (mv ?_); refine o1 (mv ?_)
  apply ops_and (yt := 44) (d := 42) 2 rfl rfl rfl (.none rfl) rfl rfl
  case h1 =>
    intro hb3 hK
    have hc := hb3; (try simp only [nrm, Int.reduceEq, Int.reduceNe, Int.reduceLT, Int.reduceLE] at hc)
    refine gye ?_ (hbw := by exact hb3); refine o1 (mv ?_); refine gye ?_ (hbw := by exact hb3); refine o1 (f_not ?_); exact hK [_, _] rfl rfl
  case h2 =>
    intro hb3 hK; refine gno ?_ (hbw := by exact hb3); refine gno ?_ (hbw := by exact hb3); exact hK [_, _] rfl
  refine o1 (mv ?_)
  apply ops_and (yt := 47) (d := 46) 1 rfl rfl rfl (.none rfl) rfl rfl
  case h1 =>
    intro hb11 hK
    have hc := hb11; (try simp only [nrm, Int.reduceEq, Int.reduceNe, Int.reduceLT, Int.reduceLE] at hc)
    refine gye ?_ (hbw := by exact hb11); refine o1 (mv ?_); exact hK [_] rfl rfl
  case h2 =>
    intro hb11 hK; refine gno ?_ (hbw := by exact hb11); exact hK [_] rfl
  refine o1 (mv ?_)
  apply ops_and (yt := 50) (d := 49) 1 rfl rfl rfl (.none rfl) rfl rfl
  case h1 =>
    intro hb17 hK
    have hc := hb17; (try simp only [nrm, Int.reduceEq, Int.reduceNe, Int.reduceLT, Int.reduceLE] at hc)
    refine gye ?_ (hbw := by exact hb17); refine o1 (mv ?_); exact hK [_] rfl rfl
  case h2 =>
    intro hb17 hK; refine gno ?_ (hbw := by exact hb17); exact hK [_] rfl
  refine o1 (mv ?_)
  apply ops_and (yt := 54) (d := 52) 2 rfl rfl rfl (.none rfl) rfl rfl
  case h1 =>
    intro hb23 hK
    have hc := hb23; (try simp only [nrm, Int.reduceEq, Int.reduceNe, Int.reduceLT, Int.reduceLE] at hc)
    refine gye ?_ (hbw := by exact hb23); refine o1 (mv ?_); refine gye ?_ (hbw := by exact hb23); refine o1 (seq1 ?_); exact hK [_, _] rfl rfl
  case h2 =>
    intro hb23 hK; refine gno ?_ (hbw := by exact hb23); refine gno ?_ (hbw := by exact hb23); exact hK [_, _] rfl
  refine o1 (mv ?_)
  apply ops_and (yt := 58) (d := 56) 2 rfl rfl rfl (.none rfl) rfl rfl
  case h1 =>
    intro hb31 hK
    have hc := hb31; (try simp only [nrm, Int.reduceEq, Int.reduceNe, Int.reduceLT, Int.reduceLE] at hc)
    refine gye ?_ (hbw := by exact hb31); refine o1 (mv ?_); refine gye ?_ (hbw := by exact hb31); refine o1 (ieq ?_); exact hK [_, _] rfl rfl
  case h2 =>
    intro hb31 hK; refine gno ?_ (hbw := by exact hb31); refine gno ?_ (hbw := by exact hb31); exact hK [_, _] rfl
  refine o1 (asg ?_); refine nx ?_; refine runs_ret ?_; refine fin_ret ?_; refine fin_d1 rfl rfl ?_
  rfl
end Go.Proofs.YtafhnnbbfgoacaaDoor
