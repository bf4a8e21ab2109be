/-
  What is proved here: rules for digits (subtraction of bytes, a text's bytes as a slice); over any program.
-/
import Derived.Test.YtneaancanfpdhaaGreatDoorY17
import Derived.Lib.ConvBytes
set_option linter.unusedSimpArgs false
set_option linter.unusedVariables false
namespace Go.Vd
open Go Go.RowKit

section
variable {P : Program} {GL : Nat → List D} {o : Oper} {σ : St} {K : SV → List Nat → Prop}
def sub8 (m n : Int) : Int := IntKind.wrap .u8 (m - n)
theorem fl_sub8 {T T' : TypeId} {x y : Operand} {m n : Int} (ho : o.op = .binOp .sub T x y T') (hx : evO GL σ.sl x = some (.d (.v (.int .u8 m)))) (hy : evO GL σ.sl y = some (.d (.v (.int .u8 n)))) (hK : K (.d (.v (.int .u8 (sub8 m n)))) []) : FloatR P GL o σ K :=
  fl_bin ho hx hy rfl (by simp) (fun w => by simp only [binOp, Op.intArith, ne_eq, not_true_eq_false, if_false]; rfl) hK
end
theorem denR_u8 {m : Mem} {b : Nat} : ∀ {l : List UInt8} {off : Nat}, (∀ j x, (l.map fun c => Value.int .u8 c.toNat)[j]? = some x → m b (off + j) = some x) → DenR m 1 b off (l.map fun c => [.v (.int .u8 c.toNat)])
  | [], _, _ => trivial
  | c :: r, off, h => by
    refine ⟨⟨rfl, ?_⟩, denR_u8 (l := r) fun j x hx => ?_⟩
    · refine DenC.of_vals (vs := [.int .u8 c.toNat]) ⟨_, _, rfl, rfl, rfl⟩ fun i x hx => ?_
      cases i with
      | zero => simp at hx; subst hx; exact h 0 _ rfl
      | succ i => simp at hx
    · have := h (j + 1) x (by simpa using hx)
      rwa [show off + (j + 1) = off + 1 + j by omega] at this
/-- a text's bytes, as a slice that nobody writes to -/
theorem op_bytes {P : Program} {GL : Nat → List D} {n0 : Nat} {Pn : PnS} {o : Oper} {n t : Nat} {sl : List (Nat × SV)} {ob ob' : List Ob} {K : St → Prop} {T : Nat → Prop} {src dst e : TypeId} {x : Operand} {s : ByteArray} (hu : P.underlying src = some .string) (TS : SlTy P dst e 1 1) (he : P.underlying e = some (.int .u8)) (ho : o.op = .convert src dst x)
    (hd : o.dst = some t) (ht : Nat.blt t n = true) (hx : evO GL sl x = some (.d (.v (.string s)))) (hob : appO ob [.dead] = some ob') (h : K ⟨n, (t, .d (.sl 1 (bytesD s))) :: sl, ob'⟩) : OpR P GL n0 Pn T o ⟨n, sl, ob⟩ K := fun B hB g a w hr next Q hK hP => by
  rw [appO_eq hob] at h
  have hxv : a.eval x = .string s := hr.evo hx
  have hrun : (execOp a.eval o).run P w = .ok (.value (.slice (some ⟨w.heap.size, 0, none⟩) s.size (grownCap w s.size 0 e))) (Lib.bytesWorld w e s) := by
    simp only [execOp, ho, hxv, Sem.run_bind, Lib.run_convert_string_bytes w src dst e s hu TS.under he, Result.andThen_ok]; rfl
  unfold Oper.wp
  rw [hrun]
  show next (a.put o.dst _) _
  rw [hd]
  generalize hfl : (s.data.toList.map fun c => Value.int .u8 c.toNat) = fl at *
  have hm0 : ∀ o, g.m w.heap.size o = none := fun o => by
    cases hx : g.m w.heap.size o with
    | none => rfl
    | some x => have := hr.store.sat_lt hx; omega
  have hm : Mle g.m (mset g.m w.heap.size fl) := Mle.set fun o x hx => by rw [hm0] at hx; cases hx
  have hcell : ∀ o x, fl[o]? = some x → (Lib.bytesWorld w e s).cell? ⟨w.heap.size, o, none⟩ = some x := fun o x hx => by
    have hlt := (List.getElem?_eq_some_iff.1 hx).1
    rw [← hfl] at hx hlt
    simp only [List.length_map, Array.length_toList] at hlt
    rw [Lib.bytesWorld_cell w e s o hlt, ← hx]
    simp [List.getD, hlt, Array.getElem?_eq_getElem hlt]
  have hone : ∀ x ∈ fl, x.oneCell' = true := fun x hx => by
    rw [← hfl] at hx
    obtain ⟨c, _, rfl⟩ := List.mem_map.1 hx
    rfl
  have hA : ∀ b o x, mset g.m w.heap.size fl b o = some x → g.m b o = none → w.heap.size ≤ b ∧ (Lib.bytesWorld w e s).cell? ⟨b, o, none⟩ = some x ∧ x.oneCell' = true := fun b o x hx hn => by
    unfold mset at hx
    by_cases e5 : b = w.heap.size
    · subst e5
      rw [if_pos rfl] at hx
      exact ⟨Nat.le_refl _, hcell o x hx, hone x (List.mem_of_getElem? hx)⟩
    · rw [if_neg e5, hn] at hx; cases hx
  have hfr : Fr (fun _ => False) w (Lib.bytesWorld w e s) := ⟨rfl, rfl, rfl, by rw [Lib.bytesWorld_size]; omega, fun c hc _ => Lib.bytesWorld_at_old w e s c hc⟩
  obtain ⟨h1, h2⟩ := hr.new1 (w' := Lib.bytesWorld w e s) hfr hm hA (o' := .dead) (pl := .row none 0 0) trivial (fun b hb => by cases hb) (fun i f dn cur e => by cases e)
  refine hK _ _ _ _ (h1.put' (s := .d (.sl 1 (bytesD s))) ht ⟨some ⟨w.heap.size, 0, none⟩, grownCap w s.size 0 e, ?_, ?_, fun _ => ⟨w.heap.size, 0, rfl, ?_⟩⟩) ⟨h2.1, fun i b o _ => h2.2 i b o (fun x => x)⟩ h
  · rw [bytesD_len]
  · rw [bytesD_len]; exact grownCap_ge _ _ _ _
  · refine denR_u8 fun j x hx => ?_
    rw [hfl] at hx
    show mset _ _ _ _ _ = _
    unfold mset; rw [if_pos rfl, Nat.zero_add]; exact hx
theorem denR_one {m : Mem} {b : Nat} : ∀ {l : List D} {off : Nat}, DenC m b off l → DenR m 1 b off (l.map fun d => [d])
  | [], _, _ => trivial
  | d :: r, off, h => ⟨⟨rfl, h.1, trivial⟩, denR_one h.2⟩
/-- the end of an array that nobody writes to -/
theorem fl_slice_arr {P : Program} {GL : Nat → List D} {o : Oper} {σ : St} {K : SV → List Nat → Prop} {T e : TypeId} {x lo : Operand} {n : Nat} {l l' : List D} {j : Int} {kd : IntKind} {ti : TI} (hu : P.underlying T = some (.array n e)) (hT : tiOf P e = ti) (hok : ti.ok = true) (hs : ti.size = 1) (ho : o.op = .slice T x (some lo) none none)
    (hx : evO GL σ.sl x = some (.d (.cp l))) (hl : evO GL σ.sl lo = some (.d (.v (.int kd j)))) (h01 : 0 ≤ j ∧ j < n) (hd : dropO j.toNat l = some l') (hn : l'.length = n - j.toNat) (hK : K (.d (.sl 1 (l'.map fun d => [d]))) []) : FloatR P GL o σ K := fl_of fun B g a w hr => by
  obtain ⟨b, off, h1, hden⟩ := hr.evo hx
  have h2 : a.eval lo = .int kd j := hr.evo hl
  rw [← hT] at hok hs
  obtain ⟨inf, d, hi', hd', hs', _⟩ := ti_ok hok
  rw [hs] at hs'
  have hne : ¬ n = j.toNat := by omega
  have hadd : (⟨b, off, none⟩ : Addr).add (j.toNat * 1) = ⟨b, off + j.toNat, none⟩ := by rw [addr_add]; simp
  refine ⟨.d (.sl 1 (l'.map fun d => [d])), .slice (some ⟨b, off + j.toNat, none⟩) (n - j.toNat) (n - j.toNat), fun w' => ?_, ⟨some ⟨b, off + j.toNat, none⟩, n - j.toNat, by simp [hn], by simp [hn], fun _ => ⟨b, off + j.toNat, rfl, denR_one ?_⟩⟩, hK⟩
  · simp only [execOp, ho, h1, h2, Option.map_some, Option.map_none, Sem.run_bind]
    have hb := run_bound (P := P) (kd := kd) (i := j) (y := n) (c := .sliceB) h01.1 (by omega) w'
    simp [Instr.sliceAt, Instr.sureAddr, run_underlying hu, Instr.sliceBounds, hb, sizeOf, typeInfo, hi', ← hs', hne]
    simpa using hadd
  · rw [← (dropO_eq hd).1]; exact hden.drop _
theorem byte_at {s : ByteArray} {i : Nat} (h : i < s.size) : (bytesD s)[((i : Nat) : Int).toNat]? = some [.v (.int .u8 (byteAt s i))] := by
  have h2 : i < s.data.size := h
  rw [Int.toNat_natCast]
  have h3 : s.data[i]? = some s.data[i] := Array.getElem?_eq_getElem h2
  have h4 : byteAt s i = s.data[i].toNat := by unfold byteAt Array.getD; rw [dif_pos h2]; rfl
  simp only [bytesD, List.getElem?_map, Array.getElem?_toList, h3, Option.map_some, h4]
theorem sub8_digit {c : Int} (h : 48 ≤ c ∧ c ≤ 57) : sub8 c 48 = c - 48 := by
  unfold sub8 IntKind.wrap
  simp [IntKind.bits, IntKind.signed]
  omega
theorem sub8_big {c : Int} (h0 : 0 ≤ c ∧ c < 256) (h : ¬ (48 ≤ c ∧ c ≤ 57)) : 9 < sub8 c 48 := by
  unfold sub8 IntKind.wrap
  simp [IntKind.bits, IntKind.signed]
  omega
theorem wrap_digit {c : Int} (h : 0 ≤ c ∧ c ≤ 255) : IntKind.wrap .i64 c = c := by
  unfold IntKind.wrap
  simp [IntKind.bits, IntKind.signed]
  omega
end Go.Vd
