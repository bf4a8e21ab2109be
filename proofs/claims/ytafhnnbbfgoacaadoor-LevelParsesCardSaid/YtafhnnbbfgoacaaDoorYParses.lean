/-
  What is proved here: LevelParses: whatever script it is called on, it answers true, and the script reads as it did; on condition that package errors' errorType starts as the library's text lays it, which the card ties.
-/
import Derived.Test.YtafhnnbbfgoacaaDoorYIn
import Derived.Test.YtafhnnbbfgoacaaDoorYS6
import Derived.Test.YtafhnnbbfgoacaaDoorTie
import Derived.Test.YtafhnnbbfgoacaaDoorCards
import Derived.SevenTiedAt
import Derived.LaidHandle
set_option linter.unusedSimpArgs false
set_option linter.unusedVariables false
namespace Go.Proofs.YtafhnnbbfgoacaaDoor
open Go Go.Vd Go.RowKit Go.ChangeShapes Go.WideShapes

theorem own : ownKnob Tryd.prog.godebug = none := by kernel_rfl
def glE : Nat → List D
  | 1 => errTyD
  | _ => []
theorem globE_of {w : World} (h : DenC (memW w) 1 0 errTyD) : ∀ b, DenC (memW w) b 0 (glE b)
  | 0 => trivial
  | 1 => h
  | _ + 2 => trivial
theorem e_et : Tryd.prog.globalNamed "errors.errorType" = some 1 := by kernel_rfl
theorem e_rt : (Tryd.prog.cutTypes.find? (·.1 == "internal/reflectlite.rtype")).map (·.2) = some 113 := by kernel_rfl
theorem e_oneRow : ((List.range 153).filter fun t => Tryd.prog.rowNamed t [101, 114, 114, 111, 114]) = [44] := by kernel_rfl
theorem e_size : Tryd.prog.types.size = 153 := by kernel_rfl
theorem errTy_of_laid {W : World} (h : laidMetH Tryd.prog Rows.levelParsesRow.laid W) : DenC (memW W) 1 0 errTyD := by
  have h' : laidMet Tryd.prog [] W ∧ handlesMet Tryd.prog Rows.levelParsesRow.laid W := h
  obtain ⟨name, u, ty, e1, e2, e3, e4, e5⟩ := h'.2 _ (List.mem_singleton.2 rfl)
  have en : name = [101, 114, 114, 111, 114] := (Option.some.inj e1).symm
  subst en
  obtain rfl := Option.some.inj (e_rt.symm.trans e2)
  have hm : ty ∈ (List.range 153).filter fun t => Tryd.prog.rowNamed t [101, 114, 114, 111, 114] := List.mem_filter.2 ⟨List.mem_range.2 (by rw [← e_size]; exact e3), e4⟩
  rw [e_oneRow] at hm
  obtain rfl := List.mem_singleton.1 hm
  have hh : typeHandle Tryd.prog 44 = .pointer (some ⟨2, 44, none⟩) := by kernel_rfl
  rw [hh] at e5
  exact ⟨⟨_, memW_of (World.var?_cell e_et e5 0) rfl, rfl⟩, trivial⟩

theorem door_met (os : Os) (args : Array Value) : laidMetH Tryd.prog Rows.levelParsesRow.laid ((World.doorLaid Tryd.prog 400 os).forCall (fun _ _ => 0) ⟨#[], args, []⟩).memory :=
  laidMetH_of_parts (laidMet_nil _ _) (by kernel_rfl)

set_option maxRecDepth 100000 in
theorem parses_lifted (os : Os) (started : os.Started) (H : Type) (enc : TypeId × Value → H) :
    ReturnsInHanded {} Tryd.checked os 4 .any (fun w args => (Rows.levelParsesSpec.pre enc Tryd.prog Tryd.f4 [] false w args ∧ laidMetH Tryd.prog Rows.levelParsesRow.laid w) ∧ sizedMet enc Tryd.prog Tryd.f4 (OpenSpec.ofChange Rows.levelParsesSpec) false w args)
      (Rows.levelParsesSpec.post enc Tryd.prog Tryd.f4 false true false false) := by
  refine returnsInHanded_of_change_and (C := Tryd.checked) (X := fun w _ => laidMetH Tryd.prog Rows.levelParsesRow.laid w) (fun _ _ _ hh h => h.of_heap hh) own started (by kernel_rfl) Tryd.func4
    (ChangeSpec.witness_shaped (enc := enc) (C := Tryd.checked) (os := os) (X := fun w _ => laidMetH Tryd.prog Rows.levelParsesRow.laid w) false (World.doorLaid Tryd.prog 400 os) #[.slice none 0 0] 8 rfl (World.shaped_of_RefB (by kernel_rfl) (by kernel_rfl)) (by kernel_rfl) (by kernel_rfl) (by kernel_rfl) (door_met os _)) ?_
  intro W base args ds gs before hval0 hW _ _ hL _
  have hval : ∀ (j : Nat) t v, Tryd.f4.params[j]? = some t → args[j]? = some v → Value.okWide Tryd.prog W .any base t v := hval0
  have hW' := hW
  obtain ⟨p, q, hA0, hV, rfl, hfz, hnd⟩ := hW
  have hA : DataW.TrodAll enc Tryd.prog W 0 (fun _ => true) true Tryd.f4.params.toList args.toList ds p := hA0
  rw [Tryd.params4] at hA hval
  obtain ⟨v0, d0, rfl, rfl, h0⟩ := trodAll_one hA
  obtain ⟨rfl, rfl⟩ := trodVars_none hV
  obtain ⟨a, len, cap, rfl⟩ := okWide_slice us22 (hval 0 22 v0 rfl rfl)
  have h0' := h0
  obtain ⟨fuel, hf⟩ := h0
  obtain ⟨l, hl, hk⟩ := script_of_trod hf rfl
  have hcalls := calls_of_triD (w := W) (parses_spec (gl := glE) rfl l) (globE_of (errTy_of_laid hL)) (vs := [.slice a len cap]) ⟨_, [], rfl, hl, rfl⟩
  simp only [List.append_nil] at hW'
  refine hcalls.mono fun e W' ⟨v, d, m, he, hv, hd, hb⟩ => ?_
  subst hd
  simp only [D.Den] at hv
  subst hv
  have hlt : ∀ x ∈ p, x.block < W.heap.size := DataW.TrodAll.lt hA
  refine ⟨_, he, [d0], [], p, [], p, [], hW', trodAll_mk1 (shut_bool ub4 _), ?_, rfl, hb.frame _, fun h => by cases h⟩
  exact trodAll_mk1 (hb.trod (by kernel_rfl) (by kernel_rfl) (of_decide_eq_true (by kernel_rfl)) h0' hlt)

theorem parses_holds : Rows.LevelParsesSaid :=
  OpenClaim.holds_of_wide 4 Tryd.f4 rfl rfl rfl rfl rfl rfl rfl ⟨rfl, rfl, rfl, rfl, rfl⟩ rfl rfl rfl rfl rfl (by kernel_rfl) Tryd.func4 (by kernel_rfl)
    (of_decide_eq_true (by kernel_rfl)) (by unfold Func.isWrapper; first | (rw [if_pos (by decide +kernel)]; kernel_rfl) | (rw [if_neg (by decide +kernel)]; exact ⟨rfl, rfl⟩))
    (fun os started H enc _ => parses_lifted os started H enc)
theorem parses_card_holds : Rows.LevelParsesCardSaid :=
  Claim7.holds_tied_plain_at .later [] [.handle] true (true, "5be6660e19647cf878dd93a7f9f8c102bdc7c61a674c911e530b34c4df488c4f") true
    parses_holds (fun _ h => by cases h) (by kernel_rfl) (fun _ h => by cases h) levelParses_row_tie rfl ⟨rfl, rfl⟩ (by kernel_rfl) rfl
    (fun f fn hf hfn => by
      obtain rfl : f = 4 := Option.some.inj ((show Tryd.prog.funcNamed "provekernel/provekernellaw.LevelParses" = some 4 by kernel_rfl).symm.trans hf) |>.symm
      obtain rfl : fn = Tryd.f4 := (Option.some.inj (Tryd.func4.symm.trans hfn)).symm
      exact ⟨by kernel_rfl, fun j t ht => by
        rw [Tryd.params4] at ht
        have hm : t ∈ [22] := by simpa using Array.mem_of_getElem? ht
        have hall : ([22].all fun u => !Tryd.prog.wantsStandIn u) = true := by kernel_rfl
        exact (show Tryd.prog.wantsStandIn t = false by simpa using List.all_eq_true.1 hall t hm)⟩)
    (by kernel_rfl)
#print axioms parses_card_holds
end Go.Proofs.YtafhnnbbfgoacaaDoor
