/-
  What is proved here: contracts of errors.As, api.Code, faulty.
-/
import Derived.Test.YtneaancanfpdhaaGreatDoorYAs
import Derived.Test.YtneaancanfpdhaaGreatDoorYSt
set_option linter.unusedSimpArgs false
set_option linter.unusedVariables false
namespace Go.Proofs.YtneaancanfpdhaaGreatDoor
open Go Go.Vd Go.RowKit
attribute [local irreducible] Runs OpsR OpR FloatR AnyR AnyO
variable {gl : Nat → List D}

/-- what errors.errorType holds -/
def errTyD : List D := [.v (.iface 164 (.agg #[.pointer (some ⟨10, 54, none⟩)]))]

theorem as_spec (hgl : gl 2 = errTyD) (l : List D) :
    Tri Tryz.prog gl 108 [.cells [.d (.v (.pointer none))] 96] [.d (.ifc 96 (.cp l)), .ifc 127 (.blk 0 0)] fun out ob' => out = .ret (.d (.v (.bool true))) ∧ ob' = [.cells [.d (.cp l)] 96] := by
  intro g w vs hs hd
  have hr := rel_begin (n := 2) (by simp) hs hd
  obtain ⟨x, l1, rfl, ⟨y, rfl, eb, eo, rfl, hc⟩, z, l2, rfl, ⟨u, rfl, tb, htb, rfl⟩, rfl⟩ := hd
  obtain ⟨us, hh, ⟨p, l3, rfl, hp, rfl⟩, hmn⟩ := hs.obs 0 _ _ rfl htb
  have hp' : p = .pointer none := hp
  subst hp'
  have hg := hs.glob 2
  rw [hgl] at hg
  obtain ⟨⟨gx, hg1, hg2⟩, _⟩ := hg
  have hg3 : gx = .iface 164 (.agg #[.pointer (some ⟨10, 54, none⟩)]) := hg2
  subst hg3
  have hcell := (hs.sat _ _ _ hg1).1
  have hlt : tb < w.heap.size := (Array.getElem?_eq_some_iff.1 hh).1
  refine (as_hit ⟨eb, eo, none⟩ ⟨tb, 0, none⟩ (.pointer none) w hcell (by simp [World.cell?, hh]) (by simp [World.frozen?, hh])).mono ?_
  rintro e w' ⟨rfl, rfl⟩
  have hb : ∀ (W : World) (o : Obj), tb < W.heap.size → W.heap[tb]? = some (.cells #[.pointer none] 96 (0, 0)) → (W.alloc o).heap[tb]? = some (.cells #[.pointer none] 96 (0, 0)) ∧ tb < (W.alloc o).heap.size := fun W o h1 h2 => by
    refine ⟨?_, by simp; omega⟩
    rw [Below.heap_alloc W o tb h1]; exact h2
  obtain ⟨a1, b1⟩ := hb w (.cells #[.pointer (some ⟨tb, 0, none⟩)] 127) hlt hh
  obtain ⟨a2, b2⟩ := hb _ (.cells #[.pointer (some ⟨10, 127, none⟩), .pointer (some ⟨w.heap.size, 0, none⟩), .int .u64 150] 139) b1 a1
  obtain ⟨a3, b3⟩ := hb _ (.cells #[.pointer (some ⟨10, 127, none⟩), .pointer (some ⟨w.heap.size, 0, none⟩), .int .u64 150] 139) b2 a2
  obtain ⟨a4, b4⟩ := hb _ (.cells #[.pointer (some ⟨eb, eo, none⟩)] 96) b3 a3
  have hal := ((((Fr.refl (fun c => c = tb) w).alloc (.cells #[.pointer (some ⟨tb, 0, none⟩)] 127)).alloc (.cells #[.pointer (some ⟨10, 127, none⟩), .pointer (some ⟨w.heap.size, 0, none⟩), .int .u64 150] 139)).alloc (.cells #[.pointer (some ⟨10, 127, none⟩), .pointer (some ⟨w.heap.size, 0, none⟩), .int .u64 150] 139)).alloc (.cells #[.pointer (some ⟨eb, eo, none⟩)] 96)
  generalize hW : (((w.alloc (.cells #[.pointer (some ⟨tb, 0, none⟩)] 127)).alloc (.cells #[.pointer (some ⟨10, 127, none⟩), .pointer (some ⟨w.heap.size, 0, none⟩), .int .u64 150] 139)).alloc (.cells #[.pointer (some ⟨10, 127, none⟩), .pointer (some ⟨w.heap.size, 0, none⟩), .int .u64 150] 139)).alloc (.cells #[.pointer (some ⟨eb, eo, none⟩)] 96) = W at *
  have hset : (W.setCell ⟨tb, 0, none⟩ (.pointer (some ⟨eb, eo, none⟩))).heap[tb]? = some (.cells #[.pointer (some ⟨eb, eo, none⟩)] 96 (0, 0)) := by
    simp [World.setCell, Array.getElem?_modify, a4]
  have hfr : Fr (fun c => c = tb) w (W.setCell ⟨tb, 0, none⟩ (.pointer (some ⟨eb, eo, none⟩))) := by
    exact hal.trans ⟨rfl, rfl, rfl, by simp [World.setCell], fun c hc hn => Below.heap_setCell _ _ _ _ hn⟩
  have h1 := (hr.upd1 (i := 0) (o' := .cells [.d (.cp l)] 96) rfl htb rfl hfr ⟨_, hset, ⟨_, _, rfl, ⟨eb, eo, rfl, hc⟩, rfl⟩, hmn⟩ (.inl rfl) (fun j f dn cur h => by match j, h with | j + 1, h => simp at h) (fun k f dn cur h => by cases h) hmn).1
  exact ⟨g, _, h1.store, h1.stp, by simp, rfl, .d (.v (.bool true)), rfl, rfl, rfl⟩

theorem code_nil : TriD Tryz.prog gl 75 [.v .nilIface] (· = .tup [.v (.int .i64 0), .v (.int .i64 0)]) := by
  refine triD_of_runs Tryz.func75 rfl Tryz.ntmps75 (rs := [.tmp 2, .tmp 3]) rfl rfl rfl ?_
  refine sr ?_; refine o1 (asg ?_); refine o1 (asg ?_); refine nx ?_; refine runs_seq ?_; refine sr ?_; refine o1 (mv ?_); refine o1 (f_ieql_nil ii54 ?_); refine nx ?_; refine cdf (fun h1 => ?_) (fun h1 => ?_)
  · simp only [nrm, Int.reduceEq, Int.reduceNe, Int.reduceLT, Int.reduceLE] at h1
  (try simp only [nrm, Int.reduceEq, Int.reduceNe, Int.reduceLT, Int.reduceLE] at h1); refine kp [] ?_; refine sr ?_; refine o1 (asg ?_); refine o1 (asg ?_); refine nx ?_; refine runs_ret ?_; refine seq_ret ?_; refine fin_ret ?_
  refine fin_d2 rfl rfl rfl ?_
  rfl
theorem code_flt (hgl : gl 2 = errTyD) (c a : Int) : TriD Tryz.prog gl 75 [fltD c a] (· = .tup [.v (.int .i64 c), .v (.int .i64 a)]) := by
  unfold fltD
  refine triD_of_runs Tryz.func75 rfl Tryz.ntmps75 (rs := [.tmp 2, .tmp 3]) rfl rfl rfl ?_
  refine sr ?_; refine o1 (asg ?_); refine o1 (asg ?_); refine nx ?_; refine runs_seq ?_; refine sr ?_; refine o1 (mv ?_); refine o1 (f_ieql_d ii54 ?_); refine nx ?_; refine cd (fun h1 => ?_) (fun h1 => ?_)
  · simp only [nrm, Int.reduceEq, Int.reduceNe, Int.reduceLT, Int.reduceLE] at h1
  (try simp only [nrm, Int.reduceEq, Int.reduceNe, Int.reduceLT, Int.reduceLE] at h1); refine runs_skip ?_; refine seq_normal ?_; refine kp [0] ?_; refine sr ?_
  refine oc (T := fun _ => False) (alc ti96 ?_ (hl := by simp only [List.length_cons, List.length_nil, Nat.reduceAdd]; rfl)); refine nx ?_; refine runs_seq ?_; refine sr ?_; refine o1 (mv ?_); refine o1 (f_iface ?_)
  refine oc (ck ca108 rfl rfl (as_spec hgl [.v (.int .i64 c), .v (.int .i64 a)]) [0] rfl (boc .nil) (fir (fir .nil)) ?_); refine o1 (f_not ?_); refine o1 (mv ?_)
  apply ops_or (yt := 13) (d := 11) 2 rfl rfl rfl (.none rfl) rfl rfl
  case h1 =>
    intro hb8 hK
    have hc := hb8; (try simp only [nrm, Int.reduceEq, Int.reduceNe, Int.reduceLT, Int.reduceLE] at hc)
    refine gye ?_ (hbw := by exact hb8); refine o1 (ldb ti96 ?_); refine gye ?_ (hbw := by exact hb8); refine o1 (f_peql_cp up96 ?_); exact hK [_, _] rfl rfl
  case h2 =>
    intro hb8 hK; refine gno ?_ (hbw := by exact hb8); refine gno ?_ (hbw := by exact hb8); exact hK [_, _] rfl
  refine nx ?_; refine cd (fun h4 => ?_) (fun h4 => ?_)
  · simp only [nrm, Int.reduceEq, Int.reduceNe, Int.reduceLT, Int.reduceLE] at h4
  (try simp only [nrm, Int.reduceEq, Int.reduceNe, Int.reduceLT, Int.reduceLE] at h4); refine runs_skip ?_; refine seq_normal ?_; refine runs_seq ?_; refine kp [4] ?_; refine a_start ?_ (hm := by exact mixed)
  refine A1 0 rfl (ldb ti96 ⟨_, rfl, ?_⟩); refine A1 1 rfl (ncc ⟨_, rfl, ?_⟩); refine A1 2 rfl (fdc ti33 ⟨_, rfl, ?_⟩); refine A1 3 rfl (ldc ti3 ⟨_, rfl, ?_⟩); refine A1 4 rfl (ldb ti96 ⟨_, rfl, ?_⟩); refine A1 5 rfl (ncc ⟨_, rfl, ?_⟩)
  refine A1 6 rfl (fdc ti33 ⟨_, rfl, ?_⟩); refine A1 7 rfl (ldc ti3 ⟨_, rfl, ?_⟩); refine A1 8 rfl (asg ⟨_, rfl, ?_⟩); refine A1 9 rfl (asg ⟨_, rfl, ?_⟩); refine a_end ?_; refine seq_normal ?_; refine runs_ret ?_; refine fin_ret ?_
  refine fin_d2 rfl rfl rfl ?_
  rfl
theorem faulty_spec (hgl : gl 2 = errTyD) (c a : Int) : TriD Tryz.prog gl 34 [errD c a, .agg [.v (.int .i64 c), .v (.int .i64 a)]] (· = .v (.bool true)) := by
  by_cases hc : c = 0
  · subst hc
    rw [errD_zero]
    refine triD_of_runs Tryz.func34 rfl Tryz.ntmps34 (rs := [.tmp 4]) rfl rfl rfl ?_
    refine sr ?_; refine oc (T := fun _ => False) (bx ti33 ?_ (hl := by simp only [List.length_cons, List.length_nil, Nat.reduceAdd]; rfl)); refine o1 (asg ?_); refine nx ?_; refine sr ?_; refine o1 (mv ?_)
    refine oc (cv ca75 rfl rfl (code_nil) (fir .nil) ?_); refine o1 (mv ?_); refine o1 (ex2 ?_); refine o1 (ex2 ?_); refine o1 (asg ?_); refine o1 (asg ?_); refine nx ?_; refine kp [6, 5, 3] ?_; refine sr ?_; refine o1 (mv ?_)
    refine o1 (fdb ti33 ?_); refine o1 (ldb ti3 ?_); refine o1 (ieq ?_); refine o1 (mv ?_); refine ops_set 16 true rfl (by simp) ?_; refine gye ?_ (hbw := by exact rfl); refine o1 (mv ?_); refine gye ?_ (hbw := by exact rfl); refine o1 (ieq ?_)
    refine gye ?_ (hbw := by exact rfl); refine o1 (mv ?_); refine ops_set 19 true rfl (by simp) ?_; refine gno ?_ (hbw := by exact rfl); refine gno ?_ (hbw := by exact rfl); refine gno ?_ (hbw := by exact rfl)
    refine gno ?_ (hbw := by exact rfl); refine gye ?_ (hbw := by exact rfl); refine o1 (f_pick_t ?_); refine o1 (f_pick_t ?_); refine o1 (asg ?_); refine nx ?_; refine runs_ret ?_; refine fin_ret ?_; refine fin_d1 rfl rfl ?_
    rfl
  · rw [errD_ne hc]
    have hcf := code_flt (gl := gl) hgl c a
    generalize fltD c a = fd at hcf ⊢
    refine triD_of_runs Tryz.func34 rfl Tryz.ntmps34 (rs := [.tmp 4]) rfl rfl rfl ?_
    refine sr ?_; refine oc (T := fun _ => False) (bx ti33 ?_ (hl := by simp only [List.length_cons, List.length_nil, Nat.reduceAdd]; rfl)); refine o1 (asg ?_); refine nx ?_; refine sr ?_; refine o1 (mv ?_)
    refine oc (cv ca75 rfl rfl (hcf) (fir .nil) ?_); refine o1 (mv ?_); refine o1 (ex2 ?_); refine o1 (ex2 ?_); refine o1 (asg ?_); refine o1 (asg ?_); refine nx ?_; refine kp [6, 5, 3] ?_; refine sr ?_; refine o1 (mv ?_)
    refine o1 (fdb ti33 ?_); refine o1 (ldb ti3 ?_); refine o1 (ieq ?_); refine o1 (mv ?_); refine ops_set 16 true rfl (by simp) ?_; refine gye ?_ (hbw := by exact rfl); refine o1 (mv ?_); refine gye ?_ (hbw := by exact rfl); refine o1 (ieq ?_)
    refine gye ?_ (hbw := by exact rfl); refine o1 (mv ?_); refine ops_set 19 false rfl (by simpa using hc) ?_; refine gye ?_ (hbw := by exact rfl); refine o1 (mv ?_); refine gye ?_ (hbw := by exact rfl); refine o1 (fdb ti33 ?_)
    refine gye ?_ (hbw := by exact rfl); refine o1 (ldb ti3 ?_); refine gye ?_ (hbw := by exact rfl); refine o1 (ieq ?_); refine gye ?_ (hbw := by exact rfl); refine o1 (f_pick_f ?_); refine o1 (f_pick_t ?_); refine o1 (asg ?_); refine nx ?_
    refine runs_ret ?_; refine fin_ret ?_; refine fin_d1 rfl rfl ?_
    simp

end Go.Proofs.YtneaancanfpdhaaGreatDoor
