/-
  What is proved here: from what a statement says of its argument to the states of the layer, and back: whatever lies in memory when the call begins is data that stays.
-/
import Derived.Test.YtneaancanfpdhaaGreatDoorYSt
import Derived.ProofKit
import Derived.LaidMore
import Derived.OpenShut
import Derived.Carry
import Derived.Stop.Joined
set_option linter.unusedSimpArgs false
set_option linter.unusedVariables false
namespace Go.Proofs.YtneaancanfpdhaaGreatDoor
open Go Go.Vd Go.RowKit Go.ChangeShapes Go.WideShapes

def memW (w : World) : Mem := fun b o => (w.cell? ⟨b, o, none⟩).bind fun x => if x.oneCell' then some x else none
theorem memW_of {w : World} {b o : Nat} {x : Value} (h : w.cell? ⟨b, o, none⟩ = some x) (h1 : x.oneCell' = true) : memW w b o = some x := by simp [memW, h, h1]
theorem storeW {gl : Nat → List D} {w : World} (hg : ∀ b, DenC (memW w) b 0 (gl b)) : StoreOk gl [] ⟨memW w, []⟩ w := by
  refine ⟨rfl, by simp, by simp, by simp, fun b o x h => ?_, hg⟩
  simp only [memW, Option.bind_eq_some_iff] at h
  obtain ⟨y, h1, h2⟩ := h
  split at h2
  · cases h2; exact ⟨h1, by assumption⟩
  · cases h2
/-- a contract of data alone, at a call from outside -/
theorem calls_of_triD {P : Program} {gl : Nat → List D} {f : FuncId} {ds : List D} {Q : D → Prop} {w : World} {vs : List Value} (h : TriD P gl f ds Q) (hg : ∀ b, DenC (memW w) b 0 (gl b)) (hd : SDenL ⟨memW w, []⟩ (ds.map .d) vs) :
    Calls P f ⟨vs⟩ w fun e w' => ∃ v d m, e = .returned v ∧ D.Den m d v ∧ Q d ∧ Below w.heap.size w w' := by
  refine (h _ w vs (storeW hg) hd).mono fun e w' he => ?_
  obtain ⟨g', ob', hs, hst, _, _, he⟩ := he
  have hb : Below w.heap.size w w' := ⟨hst.fr.os, hst.fr.tape, hst.fr.output, hst.fr.size, fun k hk => hst.fr.block k hk (fun hx => by
    obtain ⟨i, o, p, h1, _⟩ := hx
    simp at h1)⟩
  cases e with
  | returned v =>
    obtain ⟨s, h1, h2, d, h3, h4⟩ := he
    cases h3
    exact ⟨v, d, _, rfl, h1, h4, hb⟩
  | panicked c => obtain ⟨v, s, _, _, _, d, h3, _⟩ := he; cases h3
  | outgrown => exact he.elim

theorem exists_list {α : Type} {n : Nat} {p : Nat → α → Prop} (h : ∀ i, i < n → ∃ x, p i x) : ∃ l : List α, l.length = n ∧ ∀ (i : Nat) x, l[i]? = some x → p i x := by
  induction n with
  | zero => exact ⟨[], rfl, by simp⟩
  | succ n ih =>
    obtain ⟨l, h1, h2⟩ := ih fun i hi => h i (by omega)
    obtain ⟨x, hx⟩ := h n (by omega)
    refine ⟨l ++ [x], by simp [h1], fun i y hy => ?_⟩
    by_cases hi : i < l.length
    · rw [List.getElem?_append_left hi] at hy; exact h2 i y hy
    · have hil : i = l.length := by
        have := (List.getElem?_eq_some_iff.1 hy).1
        simp at this; omega
      subst hil
      rw [List.getElem?_append_right (Nat.le_refl _), Nat.sub_self] at hy
      simp at hy; subst hy; rw [h1]; exact hx
theorem denR_of {α : Type} {m : Mem} {k b : Nat} (c : α → List D) : ∀ {l : List α} {off : Nat}, (∀ (i : Nat) x, l[i]? = some x → (c x).length = k ∧ DenC m b (off + i * k) (c x)) → DenR m k b off (l.map c)
  | [], _, _ => trivial
  | x :: r, off, h => ⟨by have := h 0 x rfl; simpa using this, denR_of c fun i y hy => by
      have := h (i + 1) y (by simpa using hy)
      rwa [show off + (i + 1) * k = off + k + i * k by rw [Nat.add_mul]; omega] at this⟩

section
variable {H : Type} {enc : TypeId × Value → H} {W : World} {sp : Nat → Bool} {hd : Bool}
theorem int_of_trod {k : Nat} {fuel : Nat} {cs : List Value} {x : DataW H × List MemPlace} (h : DataW.trod enc Tryz.prog W 0 sp hd fuel 3 cs = some x) : ∃ n : Int, cs = [.int .i64 n] ∧ i64 n := by
  obtain ⟨n, h1, _, h2⟩ := DataW.trod_int ui3 h
  refine ⟨n, h1, ?_⟩
  simp only [Lit.wf, Bool.and_eq_true, decide_eq_true_eq] at h2
  exact ⟨h2.1, h2.2⟩
theorem str_of_trod {fuel : Nat} {cs : List Value} {x : DataW H × List MemPlace} (h : DataW.trod enc Tryz.prog W 0 sp hd fuel 9 cs = some x) : ∃ s : ByteArray, cs = [.string s] := by
  obtain ⟨s, h1, _⟩ := DataW.trod_string ut9 h
  exact ⟨s, h1⟩

set_option maxRecDepth 100000 in
/-- the script, read -/
theorem script_of_trod {v : Value} {fuel : Nat} {x : DataW H × List MemPlace} (h : DataW.trod enc Tryz.prog W 0 sp hd fuel 22 v.cells.toList = some x) (hv : v.oneCell' = true) :
    ∃ l : List Step, (D.sl 6 (steps l)).Den (memW W) v ∧ ∀ o ∈ l, o.okInts := by
  have hu := us22
  have he : (tiOf Tryz.prog 22).elem = 25 := by rw [ti22]
  rw [he] at hu
  have c25 : Tryz.prog.cellsOf 25 = 6 := by kernel_rfl
  have c3 : Tryz.prog.cellsOf 3 = 1 := by kernel_rfl
  have c9 : Tryz.prog.cellsOf 9 = 1 := by kernel_rfl
  rw [Value.cells_one hv] at h
  rcases DataW.trod_slice hu h with ⟨h1, _⟩ | ⟨a, len, cap, elems, rest, n, rfl, h1, _, _, h2, _, h3, h4, _⟩
  · simp at h1; subst h1
    exact ⟨[], ⟨none, 0, rfl, by simp [steps], fun hn => absurd rfl hn⟩, by simp⟩
  · simp at h1; subst h1
    have key : ∀ i, i < len → ∃ st : Step, st.okInts ∧ ∀ (j : Nat) y, st.cells[j]? = some y → ∃ u, W.cell? (a.add (i * 6) |>.add j) = some u ∧ u.oneCell' = true ∧ ∀ m, y.Den m u := by
      intro i hi
      have := h4 i hi
      rw [c25, List.getElem?_eq_getElem (by omega)] at this
      obtain ⟨cs, hcs, hst⟩ := Option.bind_eq_some_iff.1 this
      obtain ⟨_, hlen, hcell⟩ := World.cells?_some hcs
      obtain ⟨xs, n', rfl, _, _, hxl, hf⟩ := DataW.trod_struct Tryz.underlying25 hst
      have hx6 : xs.length = 6 := hxl
      have f0 := hf 0 _ rfl
      have f1 := hf 1 _ rfl
      have f2 := hf 2 _ rfl
      have f3 := hf 3 _ rfl
      have f4 := hf 4 _ rfl
      have f5 := hf 5 _ rfl
      rw [List.getElem?_eq_getElem (by omega)] at f0 f1 f2 f3 f4 f5
      match cs, hlen with
      | [x0, x1, x2, x3, x4, x5], _ =>
        have g0 : DataW.trod enc Tryz.prog W 0 sp hd n' 3 (([x0, x1, x2, x3, x4, x5].drop 0).take (Tryz.prog.cellsOf 3)) = some xs[0] := f0
        rw [c3] at g0
        have g1 : DataW.trod enc Tryz.prog W 0 sp hd n' 9 (([x0, x1, x2, x3, x4, x5].drop 1).take (Tryz.prog.cellsOf 9)) = some xs[1] := f1
        rw [c9] at g1
        have g2 : DataW.trod enc Tryz.prog W 0 sp hd n' 9 (([x0, x1, x2, x3, x4, x5].drop 2).take (Tryz.prog.cellsOf 9)) = some xs[2] := f2
        rw [c9] at g2
        have g3 : DataW.trod enc Tryz.prog W 0 sp hd n' 9 (([x0, x1, x2, x3, x4, x5].drop 3).take (Tryz.prog.cellsOf 9)) = some xs[3] := f3
        rw [c9] at g3
        have g4 : DataW.trod enc Tryz.prog W 0 sp hd n' 3 (([x0, x1, x2, x3, x4, x5].drop 4).take (Tryz.prog.cellsOf 3)) = some xs[4] := f4
        rw [c3] at g4
        have g5 : DataW.trod enc Tryz.prog W 0 sp hd n' 3 (([x0, x1, x2, x3, x4, x5].drop 5).take (Tryz.prog.cellsOf 3)) = some xs[5] := f5
        rw [c3] at g5
        obtain ⟨k, e0, _⟩ := int_of_trod (k := 0) g0
        obtain ⟨s, e1⟩ := str_of_trod g1
        obtain ⟨t, e2⟩ := str_of_trod g2
        obtain ⟨u, e3⟩ := str_of_trod g3
        obtain ⟨a', e4, i4⟩ := int_of_trod (k := 0) g4
        obtain ⟨b', e5, i5⟩ := int_of_trod (k := 0) g5
        simp only [List.drop_zero, List.drop_succ_cons, List.take_succ_cons, List.take_zero, List.cons.injEq, and_true] at e0 e1 e2 e3 e4 e5
        subst e0 e1 e2 e3 e4 e5
        refine ⟨⟨k, s, t, u, a', b'⟩, ⟨i4, i5⟩, fun j y hy => ?_⟩
        have hj : j < 6 := by have := (List.getElem?_eq_some_iff.1 hy).1; simpa [Step.cells] using this
        rw [hcell j hj]
        match j, hj with
        | 0, _ => simp [Step.cells] at hy; subst hy; exact ⟨_, rfl, rfl, fun m => rfl⟩
        | 1, _ => simp [Step.cells] at hy; subst hy; exact ⟨_, rfl, rfl, fun m => rfl⟩
        | 2, _ => simp [Step.cells] at hy; subst hy; exact ⟨_, rfl, rfl, fun m => rfl⟩
        | 3, _ => simp [Step.cells] at hy; subst hy; exact ⟨_, rfl, rfl, fun m => rfl⟩
        | 4, _ => simp [Step.cells] at hy; subst hy; exact ⟨_, rfl, rfl, fun m => rfl⟩
        | 5, _ => simp [Step.cells] at hy; subst hy; exact ⟨_, rfl, rfl, fun m => rfl⟩
    obtain ⟨l, hl, hp⟩ := exists_list key
    refine ⟨l, ⟨some a, cap, by rw [steps_len, hl], by rw [steps_len, hl]; exact h2, fun hn => ?_⟩, fun o ho => ?_⟩
    · have hl0 : 0 < l.length := List.length_pos_iff.2 fun e => hn (by simp [steps, e])
      have hsp : a.spot = none := by
        obtain ⟨_, hc⟩ := hp 0 l[0] (by simp [hl0])
        obtain ⟨u, hu, _⟩ := hc 0 _ rfl
        simp only [Nat.zero_mul] at hu
        have e : (a.add 0).add 0 = a := by simp [Addr.add]
        rw [e] at hu
        exact World.cell?_spot hu
      obtain ⟨ab, ao, asp⟩ := a
      simp only at hsp; subst hsp
      refine ⟨ab, ao, rfl, denR_of Step.cells fun i st hst => ⟨rfl, ?_⟩⟩
      obtain ⟨_, hc⟩ := hp i st hst
      have : ∀ j y, st.cells[j]? = some y → ∃ u, memW W ab (ao + i * 6 + j) = some u ∧ y.Den (memW W) u := fun j y hy => by
        obtain ⟨u, h5, h6, h7⟩ := hc j y hy
        rw [addr_add, addr_add] at h5
        exact ⟨u, memW_of h5 h6, h7 _⟩
      exact ⟨this 0 _ rfl, this 1 _ rfl, this 2 _ rfl, this 3 _ rfl, this 4 _ rfl, this 5 _ rfl, trivial⟩
    · obtain ⟨i, hi, e⟩ := List.mem_iff_getElem.1 ho
      exact (hp i o (by rw [List.getElem?_eq_getElem hi, e])).1
end
end Go.Proofs.YtneaancanfpdhaaGreatDoor
