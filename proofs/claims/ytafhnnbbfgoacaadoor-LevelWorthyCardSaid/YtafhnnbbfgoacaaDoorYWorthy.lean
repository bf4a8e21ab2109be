/-
  What is proved here: LevelWorthy: whatever script it is called on, it answers true, and the script reads as it did; on condition that the table of words starts as the program's text lays it, which the card ties.
-/
import Derived.Test.YtafhnnbbfgoacaaDoorYIn
import Derived.Test.YtafhnnbbfgoacaaDoorYQ7
import Derived.Test.YtafhnnbbfgoacaaDoorTie
import Derived.Test.YtafhnnbbfgoacaaDoorCards
import Derived.SevenTiedAt
set_option linter.unusedSimpArgs false
set_option linter.unusedVariables false
namespace Go.Proofs.YtafhnnbbfgoacaaDoor
open Go Go.Vd Go.RowKit Go.ChangeShapes Go.WideShapes

theorem own : ownKnob Tryd.prog.godebug = none := by kernel_rfl
def glW : Nat → List D
  | 0 => wordsD
  | _ => []
theorem glob_of {w : World} (h : DenC (memW w) 0 0 wordsD) : ∀ b, DenC (memW w) b 0 (glW b)
  | 0 => h
  | _ + 1 => trivial

set_option maxRecDepth 100000 in
theorem words_of_laid {W : World} (h : laidMetH Tryd.prog Rows.levelWorthyRow.laid W) : DenC (memW W) 0 0 wordsD := by
  rw [MakeChecks.laidMetH_plain _ _ _ (by kernel_rfl)] at h
  obtain ⟨ps, ⟨g, t, cs, fuel, p, q, hg, ht, hv, hd, _, _⟩, _, _⟩ := h
  obtain rfl := Option.some.inj ((show Tryd.prog.globalNamed "provekernel/level.words" = some 0 by kernel_rfl).symm.trans hg)
  obtain rfl := Option.some.inj ((show (Tryd.prog.globals[0]?).map (·.type) = some 86 by kernel_rfl).symm.trans ht)
  obtain ⟨xs, m, _, ex, hcl, hl, hel⟩ := DataW.trod_array ua86 hd
  have c9 : Tryd.prog.cellsOf 9 = 1 := by kernel_rfl
  have c86 : Tryd.prog.cellsOf 86 = 4 := by kernel_rfl
  have ex1 : (DataW.agg [.lit (.string []), .lit (.string [115]), .lit (.string [109, 97, 120]), .lit (.string [105, 109, 97, 120])] : DataW Unit) = .agg (xs.map (·.1)) := (Prod.mk.inj ex).1
  have ex2 := DataW.agg.inj ex1
  have hcell := fun i => World.var?_cell hg hv i
  obtain ⟨l⟩ := cs
  rw [c86] at hcl
  have e0 := hel 0 (by decide)
  have e1 := hel 1 (by decide)
  have e2 := hel 2 (by decide)
  have e3 := hel 3 (by decide)
  rw [c9] at e0 e1 e2 e3
  match xs, hl, ex2, e0, e1, e2, e3 with
  | [x0, x1, x2, x3], _, ex2, e0, e1, e2, e3 =>
    match l, hcl, e0, e1, e2, e3, hcell with
    | [v0, v1, v2, v3], _, e0, e1, e2, e3, hcell =>
      obtain ⟨s0, f0, f0', _⟩ := DataW.trod_string ut9 (show DataW.trod _ Tryd.prog W 0 _ _ m 9 [v0] = some x0 from e0)
      obtain ⟨s1, f1, f1', _⟩ := DataW.trod_string ut9 (show DataW.trod _ Tryd.prog W 0 _ _ m 9 [v1] = some x1 from e1)
      obtain ⟨s2, f2, f2', _⟩ := DataW.trod_string ut9 (show DataW.trod _ Tryd.prog W 0 _ _ m 9 [v2] = some x2 from e2)
      obtain ⟨s3, f3, f3', _⟩ := DataW.trod_string ut9 (show DataW.trod _ Tryd.prog W 0 _ _ m 9 [v3] = some x3 from e3)
      simp only [List.cons.injEq, and_true] at f0 f1 f2 f3
      subst f0 f1 f2 f3 f0' f1' f2' f3'
      simp only [List.map_cons, List.map_nil, List.cons.injEq, DataW.lit.injEq, Lit.string.injEq, and_true] at ex2
      obtain ⟨q0, q1, q2, q3⟩ := ex2
      have mk : ∀ {s : ByteArray} {l : List UInt8}, l = s.data.toList → s = ⟨⟨l⟩⟩ := fun {s l} e => by
        subst e; rfl
      rw [mk q0, mk q1, mk q2, mk q3] at hcell
      exact ⟨⟨_, memW_of (hcell 0) rfl, rfl⟩, ⟨_, memW_of (hcell 1) rfl, rfl⟩, ⟨_, memW_of (hcell 2) rfl, rfl⟩, ⟨_, memW_of (hcell 3) rfl, rfl⟩, trivial⟩

theorem door_met (os : Os) (args : Array Value) : laidMetH Tryd.prog Rows.levelWorthyRow.laid ((World.doorLaid Tryd.prog 400 os).forCall (fun _ _ => 0) ⟨#[], args, []⟩).memory :=
  laidMetH_of_parts3 (fuel := 8) (laidMet_of_run' 8 (by kernel_rfl) (by kernel_rfl)) (by kernel_rfl) (by kernel_rfl)

set_option maxRecDepth 100000 in
theorem worthy_lifted (os : Os) (started : os.Started) (H : Type) (enc : TypeId × Value → H) :
    ReturnsInHanded {} Tryd.checked os 5 .any (fun w args => (Rows.levelWorthySpec.pre enc Tryd.prog Tryd.f5 [] false w args ∧ laidMetH Tryd.prog Rows.levelWorthyRow.laid w) ∧ sizedMet enc Tryd.prog Tryd.f5 (OpenSpec.ofChange Rows.levelWorthySpec) false w args)
      (Rows.levelWorthySpec.post enc Tryd.prog Tryd.f5 false true false false) := by
  refine returnsInHanded_of_change_and (C := Tryd.checked) (X := fun w _ => laidMetH Tryd.prog Rows.levelWorthyRow.laid w) (fun _ _ _ hh h => h.of_heap hh) own started (by kernel_rfl) Tryd.func5
    (ChangeSpec.witness_shaped (enc := enc) (C := Tryd.checked) (os := os) (X := fun w _ => laidMetH Tryd.prog Rows.levelWorthyRow.laid w) false (World.doorLaid Tryd.prog 400 os) #[.slice none 0 0] 8 rfl (World.shaped_of_RefB (by kernel_rfl) (by kernel_rfl)) (by kernel_rfl) (by kernel_rfl) (by kernel_rfl) (door_met os _)) ?_
  intro W base args ds gs before hval0 hW _ _ hL _
  have hval : ∀ (j : Nat) t v, Tryd.f5.params[j]? = some t → args[j]? = some v → Value.okWide Tryd.prog W .any base t v := hval0
  have hW' := hW
  obtain ⟨p, q, hA0, hV, rfl, hfz, hnd⟩ := hW
  have hA : DataW.TrodAll enc Tryd.prog W 0 (fun _ => true) true Tryd.f5.params.toList args.toList ds p := hA0
  rw [Tryd.params5] at hA hval
  obtain ⟨v0, d0, rfl, rfl, h0⟩ := trodAll_one hA
  obtain ⟨rfl, rfl⟩ := trodVars_none hV
  obtain ⟨a, len, cap, rfl⟩ := okWide_slice us22 (hval 0 22 v0 rfl rfl)
  have h0' := h0
  obtain ⟨fuel, hf⟩ := h0
  obtain ⟨l, hl, hk⟩ := script_of_trod hf rfl
  have hcalls := calls_of_triD (w := W) (worthy_spec (gl := glW) rfl l hk) (glob_of (words_of_laid hL)) (vs := [.slice a len cap]) ⟨_, [], rfl, hl, rfl⟩
  simp only [List.append_nil] at hW'
  refine hcalls.mono fun e W' ⟨v, d, m, he, hv, hd, hb⟩ => ?_
  subst hd
  simp only [D.Den] at hv
  subst hv
  have hlt : ∀ x ∈ p, x.block < W.heap.size := DataW.TrodAll.lt hA
  refine ⟨_, he, [d0], [], p, [], p, [], hW', trodAll_mk1 (shut_bool ub4 _), ?_, rfl, hb.frame _, fun h => by cases h⟩
  exact trodAll_mk1 (hb.trod (by kernel_rfl) (by kernel_rfl) (of_decide_eq_true (by kernel_rfl)) h0' hlt)

theorem worthy_holds : Rows.LevelWorthySaid :=
  OpenClaim.holds_of_wide 5 Tryd.f5 rfl rfl rfl rfl rfl rfl rfl ⟨rfl, rfl, rfl, rfl, rfl⟩ rfl rfl rfl rfl rfl (by kernel_rfl) Tryd.func5 (by kernel_rfl)
    (of_decide_eq_true (by kernel_rfl)) (by unfold Func.isWrapper; first | (rw [if_pos (by decide +kernel)]; kernel_rfl) | (rw [if_neg (by decide +kernel)]; exact ⟨rfl, rfl⟩))
    (fun os started H enc _ => worthy_lifted os started H enc)
theorem worthy_card_holds : Rows.LevelWorthyCardSaid :=
  Claim7.holds_tied_plain_at .later [] [.data] true (true, "5be6660e19647cf878dd93a7f9f8c102bdc7c61a674c911e530b34c4df488c4f") true
    worthy_holds (fun _ h => by cases h) (by kernel_rfl) (fun _ h => by cases h) levelWorthy_row_tie rfl ⟨rfl, rfl⟩ (by kernel_rfl) rfl
    (fun f fn hf hfn => by
      obtain rfl : f = 5 := Option.some.inj ((show Tryd.prog.funcNamed "provekernel/provekernellaw.LevelWorthy" = some 5 by kernel_rfl).symm.trans hf) |>.symm
      obtain rfl : fn = Tryd.f5 := (Option.some.inj (Tryd.func5.symm.trans hfn)).symm
      exact ⟨by kernel_rfl, fun j t ht => by
        rw [Tryd.params5] at ht
        have hm : t ∈ [22] := by simpa using Array.mem_of_getElem? ht
        have hall : ([22].all fun u => !Tryd.prog.wantsStandIn u) = true := by kernel_rfl
        exact (show Tryd.prog.wantsStandIn t = false by simpa using List.all_eq_true.1 hall t hm)⟩)
    (by kernel_rfl)
#print axioms worthy_card_holds
end Go.Proofs.YtafhnnbbfgoacaaDoor
