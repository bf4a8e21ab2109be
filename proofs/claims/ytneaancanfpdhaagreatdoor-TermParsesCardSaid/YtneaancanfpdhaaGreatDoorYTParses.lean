/-
  What is proved here: TermParses: whatever script it is called on, it answers true, and the script reads as it did; on condition that the listed package variables start as the text lays them, which the card ties.
-/
import Derived.Test.YtneaancanfpdhaaGreatDoorYIn
import Derived.Test.YtneaancanfpdhaaGreatDoorYT7
import Derived.Test.YtneaancanfpdhaaGreatDoorTie
import Derived.Test.YtneaancanfpdhaaGreatDoorCards
import Derived.SevenTiedAt
import Derived.LaidHandle
set_option linter.unusedSimpArgs false
set_option linter.unusedVariables false
namespace Go.Proofs.YtneaancanfpdhaaGreatDoor
open Go Go.Vd Go.RowKit Go.ChangeShapes Go.WideShapes

theorem own : ownKnob Tryz.prog.godebug = none := by kernel_rfl
def glP : Nat → List D := glT fun
  | 2 => errTyD
  | _ => []
theorem globP_of {w : World} (h0 : DenC (memW w) 0 0 [strsD wordsT]) (h1 : DenC (memW w) 1 0 (wordsT.map fun s => .v (.string s))) (h2 : DenC (memW w) 2 0 errTyD) : ∀ b, DenC (memW w) b 0 (glP b)
  | 0 => h0
  | 1 => h1
  | 2 => h2
  | _ + 3 => trivial
theorem e_et : Tryz.prog.globalNamed "errors.errorType" = some 2 := by kernel_rfl
theorem e_rt : (Tryz.prog.cutTypes.find? (·.1 == "internal/reflectlite.rtype")).map (·.2) = some 164 := by kernel_rfl
theorem e_oneRow : ((List.range 238).filter fun t => Tryz.prog.rowNamed t [101, 114, 114, 111, 114]) = [54] := by kernel_rfl
theorem e_size : Tryz.prog.types.size = 238 := by kernel_rfl

def litS (s : ByteArray) : DataW Unit := .lit (.string s.data.toList)
theorem str_lit {W : World} {n : Nat} {v : Value} {x : DataW Unit × List MemPlace} {s : ByteArray} {sp : Nat → Bool} {hd : Bool} (h : DataW.trod (fun _ => ()) Tryz.prog W 0 sp hd n 9 [v] = some x) (hx : x.1 = litS s) : v = .string s := by
  obtain ⟨s', h1, h2, _⟩ := DataW.trod_string ut9 h
  simp only [List.cons.injEq, and_true] at h1
  subst h1 h2
  simp only [litS, DataW.lit.injEq, Lit.string.injEq] at hx
  congr 1
  exact ByteArray.ext (Array.ext' hx)
theorem nth_lit {elems : List (DataW Unit × List MemPlace)} (h : elems.map (·.1) = wordsT.map litS) {i : Nat} (hi : i < wordsT.length) : ∃ x, elems[i]? = some x ∧ x.1 = litS wordsT[i] := by
  have hl := congrArg List.length h
  simp only [List.length_map] at hl
  have h1 := congrArg (fun l => l[i]?) h
  simp only [List.getElem?_map] at h1
  rw [List.getElem?_eq_getElem (show i < elems.length by omega), List.getElem?_eq_getElem hi] at h1
  exact ⟨elems[i], List.getElem?_eq_getElem (by omega), Option.some.inj h1⟩

theorem rwords_of {W : World} {cs : Array Value} {fuel : Nat} {p : List MemPlace} (hv : Tryz.prog.globalNamed "provekernel/provekernelref.words" = some 0) (hw : W.var? Tryz.prog "provekernel/provekernelref.words" = some cs)
    (hd : DataW.trod (fun _ => ()) Tryz.prog W 0 (fun _ => true) false fuel 42 cs.toList = some (Rows.laid_provekernel_provekernelref_words, p)) : DenC (memW W) 0 0 [strsD wordsT] := by
  have hcell := fun i => World.var?_cell hv hw i
  have hu := us42
  have he : (tiOf Tryz.prog 42).elem = 9 := by rw [ti42]
  rw [he] at hu
  have c9 : Tryz.prog.cellsOf 9 = 1 := by kernel_rfl
  have hwl : wordsT.length = 7 := rfl
  rcases DataW.trod_slice hu hd with ⟨_, h1⟩ | ⟨a, len, cap, elems, rest, n, _, hcs, ex, _, h2, _, h3, h4, _⟩
  · exact absurd (congrArg Prod.fst h1) (by intro h; cases h)
  · have ex1 : (DataW.slice (wordsT.map litS) [] : DataW Unit) = .slice (elems.map (·.1)) (rest.map (·.1)) := congrArg Prod.fst ex
    have ex2 := (DataW.slice.inj ex1).1.symm
    have hel : elems.length = 7 := by have := congrArg List.length ex2; simpa [hwl] using this
    have key : ∀ i : Nat, (hi : i < wordsT.length) → W.cell? (a.add (i * 1)) = some (.string wordsT[i]) := fun i hi => by
      obtain ⟨x, hx1, hx2⟩ := nth_lit ex2 hi
      have := h4 i (by omega)
      rw [c9, hx1] at this
      obtain ⟨us, hus, hst⟩ := Option.bind_eq_some_iff.1 this
      obtain ⟨_, hlen, hc⟩ := World.cells?_some hus
      match us, hlen with
      | [u], _ =>
        have := hc 0 (by decide)
        rw [str_lit hst hx2] at this
        simpa [Addr.add] using this
    have hsp : a.spot = none := by
      have := key 0 (by decide)
      have e : a.add (0 * 1) = a := by simp [Addr.add]
      rw [e] at this
      exact World.cell?_spot this
    obtain ⟨ab, ao, asp⟩ := a
    simp only at hsp; subst hsp
    have hc0 := hcell 0
    obtain ⟨l⟩ := cs
    simp only at hcs
    subst hcs
    refine ⟨⟨_, memW_of (hcell 0) rfl, some ⟨ab, ao, none⟩, cap, ?_, ?_, fun _ => ⟨ab, ao, rfl, denR_of (fun s => [.v (.string s)]) fun i x hx => ⟨rfl, ?_⟩⟩⟩, trivial⟩
    · rw [strs_len, hwl, ← h3, hel]; rfl
    · rw [strs_len]; omega
    · obtain ⟨hi, rfl⟩ := List.getElem?_eq_some_iff.1 hx
      have := key i hi
      rw [addr_add] at this
      exact ⟨⟨_, memW_of this rfl, rfl⟩, trivial⟩

set_option maxRecDepth 100000 in
theorem twords_of {W : World} {cs : Array Value} {fuel : Nat} {p : List MemPlace} (hv : Tryz.prog.globalNamed "provekernel/term.words" = some 1) (hw : W.var? Tryz.prog "provekernel/term.words" = some cs)
    (hd : DataW.trod (fun _ => ()) Tryz.prog W 0 (fun _ => true) false fuel 121 cs.toList = some (Rows.laid_provekernel_term_words, p)) : DenC (memW W) 1 0 (wordsT.map fun s => .v (.string s)) := by
  have hcell := fun i => World.var?_cell hv hw i
  have c9 : Tryz.prog.cellsOf 9 = 1 := by kernel_rfl
  have c86 : Tryz.prog.cellsOf 121 = 7 := by kernel_rfl
  have hwl : wordsT.length = 7 := rfl
  obtain ⟨xs, m, _, ex, hcl, hl, hel⟩ := DataW.trod_array ua121 hd
  have ex1 : (DataW.agg (wordsT.map litS) : DataW Unit) = .agg (xs.map (·.1)) := congrArg Prod.fst ex
  have ex2 := (DataW.agg.inj ex1).symm
  obtain ⟨l⟩ := cs
  rw [c86] at hcl
  rw [c9] at hel
  have key : ∀ i : Nat, (hi : i < wordsT.length) → l[i]? = some (.string wordsT[i]) := fun i hi => by
    obtain ⟨x, hx1, hx2⟩ := nth_lit ex2 hi
    have := hel i (by omega)
    rw [hx1] at this
    have hil : i < l.length := by have : l.length = 7 := hcl; omega
    have e : (List.take 1 (List.drop (i * 1) l)) = [l[i]] := by rw [Nat.mul_one, List.drop_eq_getElem_cons hil]; rfl
    rw [show (({ toList := l } : Array Value).toList.drop (i * 1)).take 1 = [l[i]] from e] at this
    rw [List.getElem?_eq_getElem hil, str_lit this hx2]
  have hc : ∀ (i : Nat) v, l[i]? = some v → v.oneCell' = true → memW W 1 i = some v := fun i v h h1 => memW_of (by
    have := hcell i
    simpa [h] using this) h1
  exact ⟨⟨_, hc 0 _ (key 0 (by decide)) rfl, rfl⟩, ⟨_, hc 1 _ (key 1 (by decide)) rfl, rfl⟩, ⟨_, hc 2 _ (key 2 (by decide)) rfl, rfl⟩, ⟨_, hc 3 _ (key 3 (by decide)) rfl, rfl⟩, ⟨_, hc 4 _ (key 4 (by decide)) rfl, rfl⟩, ⟨_, hc 5 _ (key 5 (by decide)) rfl, rfl⟩, ⟨_, hc 6 _ (key 6 (by decide)) rfl, rfl⟩, trivial⟩

theorem errTy_of {W : World} (e5 : W.var? Tryz.prog "errors.errorType" = some #[.iface 164 (.agg #[typeHandle Tryz.prog 54])]) : DenC (memW W) 2 0 errTyD := by
  have hh : typeHandle Tryz.prog 54 = .pointer (some ⟨10, 54, none⟩) := by kernel_rfl
  rw [hh] at e5
  exact ⟨⟨_, memW_of (World.var?_cell e_et e5 0) rfl, rfl⟩, trivial⟩

theorem glob_of_laid {W : World} (h : laidMetH Tryz.prog Rows.termParsesRow.laid W) : ∀ b, DenC (memW W) b 0 (glP b) := by
  have h' : laidMet Tryz.prog [("math/bits.deBruijn32tab", Rows.laid_math_bits_deBruijn32tab), ("math/bits.deBruijn64tab", Rows.laid_math_bits_deBruijn64tab), ("internal/strconv.uint64pow10", Rows.laid_internal_strconv_uint64pow10), ("provekernel/provekernelref.words", Rows.laid_provekernel_provekernelref_words), ("strconv.ErrRange", Rows.laid_strconv_ErrRange), ("strconv.ErrSyntax", Rows.laid_strconv_ErrSyntax), ("provekernel/term.words", Rows.laid_provekernel_term_words)] W ∧ handlesMet Tryz.prog [("errors.errorType", Rows.laid_errors_errorType)] W := h
  obtain ⟨⟨ps, hL, _, _⟩, hH⟩ := h'
  obtain ⟨_, _, _, _, _, _, _, _, _, _, hL, _⟩ := hL
  obtain ⟨_, _, _, _, _, _, _, _, _, _, hL, _⟩ := hL
  obtain ⟨_, _, _, _, _, _, _, _, _, _, hL, _⟩ := hL
  obtain ⟨g4, t4, cs4, fu4, p4, q4, hg4, ht4, hv4, hd4, hL, _⟩ := hL
  obtain ⟨_, _, _, _, _, _, _, _, _, _, hL, _⟩ := hL
  obtain ⟨_, _, _, _, _, _, _, _, _, _, hL, _⟩ := hL
  obtain ⟨g7, t7, cs7, fu7, p7, q7, hg7, ht7, hv7, hd7, _, _⟩ := hL
  have n4 : Tryz.prog.globalNamed "provekernel/provekernelref.words" = some 0 := by kernel_rfl
  have n7 : Tryz.prog.globalNamed "provekernel/term.words" = some 1 := by kernel_rfl
  obtain rfl := Option.some.inj (n4.symm.trans hg4)
  obtain rfl := Option.some.inj (n7.symm.trans hg7)
  obtain rfl := Option.some.inj ((show (Tryz.prog.globals[0]?).map (·.type) = some 42 by kernel_rfl).symm.trans ht4)
  obtain rfl := Option.some.inj ((show (Tryz.prog.globals[1]?).map (·.type) = some 121 by kernel_rfl).symm.trans ht7)
  obtain ⟨name, u, ty, e1, e2, e3, e4, e5⟩ := hH _ (List.mem_singleton.2 rfl)
  have en : name = [101, 114, 114, 111, 114] := (Option.some.inj e1).symm
  subst en
  obtain rfl := Option.some.inj (e_rt.symm.trans e2)
  have hm : ty ∈ (List.range 238).filter fun t => Tryz.prog.rowNamed t [101, 114, 114, 111, 114] := List.mem_filter.2 ⟨List.mem_range.2 (by rw [← e_size]; exact e3), e4⟩
  rw [e_oneRow] at hm
  obtain rfl := List.mem_singleton.1 hm
  exact globP_of (rwords_of n4 hv4 hd4) (twords_of n7 hv7 hd7) (errTy_of e5)

theorem door_met (os : Os) (args : Array Value) : laidMetH Tryz.prog Rows.termParsesRow.laid ((World.doorLaid Tryz.prog 400 os).forCall (fun _ _ => 0) ⟨#[], args, []⟩).memory :=
  laidMetH_of_parts3 (fuel := 8) (laidMet_of_run' 8 (by kernel_rfl) (by kernel_rfl)) (by kernel_rfl) (by kernel_rfl)

set_option maxRecDepth 100000 in
theorem tparses_lifted (os : Os) (started : os.Started) (H : Type) (enc : TypeId × Value → H) :
    ReturnsInHanded {} Tryz.checked os 4 .any (fun w args => (Rows.termParsesSpec.pre enc Tryz.prog Tryz.f4 [] false w args ∧ laidMetH Tryz.prog Rows.termParsesRow.laid w) ∧ sizedMet enc Tryz.prog Tryz.f4 (OpenSpec.ofChange Rows.termParsesSpec) false w args)
      (Rows.termParsesSpec.post enc Tryz.prog Tryz.f4 false true false false) := by
  refine returnsInHanded_of_change_and (C := Tryz.checked) (X := fun w _ => laidMetH Tryz.prog Rows.termParsesRow.laid w) (fun _ _ _ hh h => h.of_heap hh) own started (by kernel_rfl) Tryz.func4
    (ChangeSpec.witness_shaped (enc := enc) (C := Tryz.checked) (os := os) (X := fun w _ => laidMetH Tryz.prog Rows.termParsesRow.laid w) false (World.doorLaid Tryz.prog 400 os) #[.slice none 0 0] 8 rfl (World.shaped_of_RefB (by kernel_rfl) (by kernel_rfl)) (by kernel_rfl) (by kernel_rfl) (by kernel_rfl) (door_met os _)) ?_
  intro W base args ds gs before hval0 hW _ _ hL _
  have hval : ∀ (j : Nat) t v, Tryz.f4.params[j]? = some t → args[j]? = some v → Value.okWide Tryz.prog W .any base t v := hval0
  have hW' := hW
  obtain ⟨p, q, hA0, hV, rfl, hfz, hnd⟩ := hW
  have hA : DataW.TrodAll enc Tryz.prog W 0 (fun _ => true) true Tryz.f4.params.toList args.toList ds p := hA0
  rw [Tryz.params4] at hA hval
  obtain ⟨v0, d0, rfl, rfl, h0⟩ := trodAll_one hA
  obtain ⟨rfl, rfl⟩ := trodVars_none hV
  obtain ⟨a, len, cap, rfl⟩ := okWide_slice us22 (hval 0 22 v0 rfl rfl)
  have h0' := h0
  obtain ⟨fuel, hf⟩ := h0
  obtain ⟨l, hl, hk⟩ := script_of_trod hf rfl
  have hcalls := calls_of_triD (w := W) (tparses_spec (g := _) rfl l) (glob_of_laid hL) (vs := [.slice a len cap]) ⟨_, [], rfl, hl, rfl⟩
  simp only [List.append_nil] at hW'
  refine hcalls.mono fun e W' ⟨v, d, m, he, hv, hd, hb⟩ => ?_
  subst hd
  simp only [D.Den] at hv
  subst hv
  have hlt : ∀ x ∈ p, x.block < W.heap.size := DataW.TrodAll.lt hA
  refine ⟨_, he, [d0], [], p, [], p, [], hW', trodAll_mk1 (shut_bool ub4 _), ?_, rfl, hb.frame _, fun h => by cases h⟩
  exact trodAll_mk1 (hb.trod (by kernel_rfl) (by kernel_rfl) (of_decide_eq_true (by kernel_rfl)) h0' hlt)

theorem tparses_holds : Rows.TermParsesSaid :=
  OpenClaim.holds_of_wide 4 Tryz.f4 rfl rfl rfl rfl rfl rfl rfl ⟨rfl, rfl, rfl, rfl, rfl⟩ rfl rfl rfl rfl rfl (by kernel_rfl) Tryz.func4 (by kernel_rfl)
    (of_decide_eq_true (by kernel_rfl)) (by unfold Func.isWrapper; first | (rw [if_pos (by decide +kernel)]; kernel_rfl) | (rw [if_neg (by decide +kernel)]; exact ⟨rfl, rfl⟩))
    (fun os started H enc _ => tparses_lifted os started H enc)
theorem tparses_card_holds : Rows.TermParsesCardSaid :=
  Claim7.holds_tied_plain_at .later [] [.data, .data, .data, .handle, .data, .sentinel, .sentinel, .widerDeep] true (true, "4b87d088401218a495192ad6640b326a3c358b6f959a5cc64254f0f310b3a94d") true
    tparses_holds (fun _ h => by cases h) (by kernel_rfl) (fun _ h => by cases h) termParses_row_tie rfl ⟨rfl, rfl⟩ (by kernel_rfl) rfl
    (fun f fn hf hfn => by
      obtain rfl : f = 4 := Option.some.inj ((show Tryz.prog.funcNamed "provekernel/provekernellaw.TermParses" = some 4 by kernel_rfl).symm.trans hf) |>.symm
      obtain rfl : fn = Tryz.f4 := (Option.some.inj (Tryz.func4.symm.trans hfn)).symm
      exact ⟨by kernel_rfl, fun j t ht => by
        rw [Tryz.params4] at ht
        have hm : t ∈ [22] := by simpa using Array.mem_of_getElem? ht
        have hall : ([22].all fun u => !Tryz.prog.wantsStandIn u) = true := by kernel_rfl
        exact (show Tryz.prog.wantsStandIn t = false by simpa using List.all_eq_true.1 hall t hm)⟩)
    (by kernel_rfl)
#print axioms tparses_card_holds
end Go.Proofs.YtneaancanfpdhaaGreatDoor
