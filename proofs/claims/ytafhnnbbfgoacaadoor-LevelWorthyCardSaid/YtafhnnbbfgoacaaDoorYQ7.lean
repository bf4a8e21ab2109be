/-
  What is proved here: LevelWorthy, as a contract.
-/
import Derived.Test.YtafhnnbbfgoacaaDoorYQ6
import Derived.Test.YtafhnnbbfgoacaaDoorYS5
import Derived.Test.YtafhnnbbfgoacaaDoorYNm
import Derived.Test.YtafhnnbbfgoacaaDoorYLm
import Derived.Test.YtafhnnbbfgoacaaDoorYSt
import Derived.Test.YtafhnnbbfgoacaaDoorYOrd
set_option linter.unusedSimpArgs false
set_option linter.unusedVariables false
namespace Go.Proofs.YtafhnnbbfgoacaaDoor
open Go Go.Vd Go.RowKit
attribute [local irreducible] Runs OpsR OpR FloatR AnyR AnyO
variable {gl : Nat → List D}

def uvw : List ByteArray := [⟨#[117]⟩, ⟨#[118]⟩, ⟨#[119]⟩]
def limI (n : Int) : Int := if n < 0 then (-(n + 1)) % 6 else n % 6
theorem limI_bound (n : Int) : 0 ≤ limI n ∧ limI n ≤ 5 := by unfold limI; split <;> omega
def nums (A B : Int) : List Int := [limI A, limI B, limI (IntKind.i64.wrap (A + B))]
theorem nums_bound (A B : Int) : ∀ n ∈ nums A B, 0 ≤ n ∧ n ≤ 5 := by
  intro n hn
  simp only [nums, List.mem_cons, List.not_mem_nil, or_false] at hn
  rcases hn with rfl | rfl | rfl <;> exact limI_bound _
theorem sem_worth {a b : Lev} {A B : Int} (h : semB a b = true) : a.worth (pval uvw (nums A B)) ≤ b.worth (pval uvw (nums A B)) :=
  semB_iff.1 h _ ⟨fun p => pval_nonneg fun n hn => (nums_bound A B n hn).1, fun p hp => absurd rfl hp, fun p hp => absurd rfl hp⟩
theorem sem_refl (a : Lev) : semB a a = true := semB_iff.2 fun σ _ => Int.le_refl _

theorem worthy_spec (hw : gl 0 = wordsD) (l : List Step) (hk : ∀ o ∈ l, o.okInts) : TriD Tryd.prog gl 5 [.sl 6 (steps l)] (· = .v (.bool true)) := by
  have hlen := steps_len l
  refine triD_of_runs Tryd.func5 rfl Tryd.ntmps5 (rs := [.tmp 2]) rfl rfl rfl ?_
  refine sr ?_; refine o1 (asg ?_); refine nx ?_; refine sr ?_; refine oc (cv ca8 rfl rfl (facts_spec hw) .nil ?_); refine o1 (asg ?_); refine nx ?_; refine runs_seq ?_; refine sr ?_; refine o1 (asg ?_); refine nx ?_; refine runs_block ?_
  refine kp [4, 3, 0] ?_
  apply runs_loop_c (ι := Nat) (fun i => [(4, int i)]) [3, 0] (fun i => i ≤ l.length ∧ i ≤ 1152921504606846976) (fun i => l.length - i) (0)
  case hk => exact rfl
  case hI =>
    exact ⟨Nat.zero_le _, by omega⟩
  case hm =>
    refine mo ?_ (sly (sly (sly slz))); exact boz
  case h =>
    rintro i hinv
    try dsimp only at hinv
    refine kp [4, 3, 0] ?_; refine runs_seq ?_; refine sr ?_; refine o1 (mv ?_); refine o1 (mv ?_); refine o1 (le1 us22 ?_); refine o1 (ilt ?_); refine o1 (mv ?_)
    apply ops_and (yt := 28) (d := 26) 2 rfl rfl rfl (.none rfl) rfl rfl
    case h1 =>
      intro hb9 hK
      have hc := hb9; (try simp only [nrm, Int.reduceEq, Int.reduceNe, Int.reduceLT, Int.reduceLE] at hc)
      refine gye ?_ (hbw := by exact hb9); refine o1 (mv ?_); refine gye ?_ (hbw := by exact hb9); refine o1 (ilt ?_); exact hK [_, _] rfl rfl
    case h2 =>
      intro hb9 hK; refine gno ?_ (hbw := by exact hb9); refine gno ?_ (hbw := by exact hb9); exact hK [_, _] rfl
    refine o1 (mv ?_)
    apply ops_and (yt := 31) (d := 30) 1 rfl rfl rfl (.none rfl) rfl rfl
    case h1 =>
      intro hb17 hK
      have hc := hb17; (try simp only [nrm, Int.reduceEq, Int.reduceNe, Int.reduceLT, Int.reduceLE] at hc)
      refine gye ?_ (hbw := by exact hb17); refine o1 (mv ?_); exact hK [_] rfl rfl
    case h2 =>
      intro hb17 hK; refine gno ?_ (hbw := by exact hb17); exact hK [_] rfl
    refine nx ?_; refine cdf (fun h3 => ?_) (fun h3 => ?_)
    · (try simp only [nrm, Int.reduceEq, Int.reduceNe, Int.reduceLT, Int.reduceLE] at h3)
      refine runs_exit ?_; refine seq_exit ?_; refine seq_exit ?_; refine inb_exit ?_; refine seq_normal ?_; refine kp [3] ?_; refine sr ?_; refine o1 (mv ?_); refine o1 (asg ?_); refine nx ?_; refine runs_ret ?_; refine fin_ret ?_
      refine fin_d1 rfl rfl ?_
      rfl
    (try simp only [nrm, Int.reduceEq, Int.reduceNe, Int.reduceLT, Int.reduceLE] at h3); refine runs_skip ?_; refine seq_normal ?_; refine runs_seq ?_; refine runs_block ?_; refine runs_seq ?_; refine kp [4, 3, 0] ?_
    have hin : i < l.length := by omega
    have hoi := hk l[i] (List.getElem_mem hin)
    obtain ⟨x, hx, fx, wx, ox⟩ := parseR_nm l[i].s; obtain ⟨y, hy, fy, wy, oy⟩ := parseR_nm l[i].t
    have pa := parseLevel_spec (gl := gl) l[i].s
    have pb := parseLevel_spec (gl := gl) l[i].t
    rw [hx] at pa
    rw [hy] at pb
    obtain ⟨x', hx', fx', wx'⟩ := parseR_lev l[i].s; obtain ⟨y', hy', fy', wy'⟩ := parseR_lev l[i].t
    have hxs : x.size ≤ 400010 := by
      have h1 := x'.size_le_weight; have h2 := x'.size_toLvl; have h3 := x.size_toLvl
      rw [← hx, hx'] at h3; omega
    have hys : y.size ≤ 400010 := by
      have h1 := y'.size_le_weight; have h2 := y'.size_toLvl; have h3 := y.size_toLvl
      rw [← hy, hy'] at h3; omega
    have hsx := x.size_toLvl
    have hsy := y.size_toLvl
    have hnx := nmL_of_fit x fx
    have hny := nmL_of_fit y fy
    have hnb := nums_bound l[i].a l[i].b
    have h13 := pLeq_spec (gl := gl) x y hnx hny (by omega) (by omega)
    have h14 := pLeq_spec (gl := gl) y x hny hnx (by omega) (by omega)
    have h15 := pSame_spec (gl := gl) x y hnx hny (by omega) (by omega)
    have h20 := pSame_spec (gl := gl) x x hnx hnx (by omega) (by omega)
    rw [sem_refl x] at h20
    have h11 := pworth_spec (gl := gl) uvw (nums l[i].a l[i].b) (Nat.le_refl 3) (by decide) (fun n hn => by have := hnb n hn; omega) x (by omega)
    have h12 := pworth_spec (gl := gl) uvw (nums l[i].a l[i].b) (Nat.le_refl 3) (by decide) (fun n hn => by have := hnb n hn; omega) y (by omega)
    have hS1 : semB x y = true → x.worth (pval uvw (nums l[i].a l[i].b)) ≤ y.worth (pval uvw (nums l[i].a l[i].b)) := sem_worth
    have hS2 : semB y x = true → y.worth (pval uvw (nums l[i].a l[i].b)) ≤ x.worth (pval uvw (nums l[i].a l[i].b)) := sem_worth
    have hpx := x.params_toLvl (y.params [])
    have hpy := y.params_toLvl []
    have hplen := y.toLvl.params_len []
    rw [hpy] at hplen
    simp only [List.length_nil, Nat.zero_add] at hplen
    have hps := x.print_size
    have hP := fun (h : x.print.size ≤ 20000) => lparse_spec (gl := gl) x.print
    have hwr := wr_lev x
    obtain ⟨ka, na, aa, ea⟩ := Lvl.case x.toLvl; obtain ⟨kb, nb, ab, eb⟩ := Lvl.case y.toLvl
    have hPr : x.print.size ≤ 20000 → TriD Tryd.prog gl 16 [.v (.string x.print)] (· = .tup [(Lvl.mk ka na aa).d, .v .nilIface]) := fun h => by
      have := hP h
      rw [parseR_print ox h, ea] at this
      exact this
    rw [ea] at pa h11 h13 h14 h15 h20 hpx hwr hsx fx
    rw [eb] at pb h12 h13 h14 h15 hpy hplen hsy
    have hp1 := params_spec (gl := gl) _ kb nb ab [] (Nat.le_refl _) (by simp; omega)
    have hp2 := params_spec (gl := gl) _ ka na aa (y.params []) (Nat.le_refl _) (by omega)
    rw [hpy] at hp1
    rw [hpx] at hp2
    have hPp := fun (h : x.print.size ≤ 20000) => pprint_spec (gl := gl) hw ka na aa (by omega) fx (by rw [hwr]; omega)
    rw [hwr] at hPp
    have hstl := strs_len (x.params (y.params []))
    clear hP hx' hy' fx' fy' wx' wy'
    refine runs_region ?_; refine o1 (mv ?_); refine o1 (mv ?_); refine o1 (ixs us22 te22 ?_ (he := by exact (step_at hin))); refine o1 (ldc ti25 ?_)
    refine oc (T := fun _ => False) (alc ti25 ?_ (hl := by simp only [List.length_cons, List.length_nil, Nat.reduceAdd]; rfl)); refine oc (sto ti25 ?_); refine nx ?_; refine kp [5, 4, 3, 0] ?_; refine sr ?_; refine o1 (fdb ti25 ?_)
    refine o1 (ldb ti9 ?_); refine oc (cv ca9 rfl rfl (pa) (fir .nil) ?_); refine o1 (mv ?_); refine o1 (ex2 ?_); refine o1 (ex2 ?_)
    refine oc (T := fun _ => False) (alc ti31 ?_ (hl := by simp only [List.length_cons, List.length_nil, Nat.reduceAdd]; rfl))
    refine oc (T := fun _ => False) (alc ti33 ?_ (hl := by simp only [List.length_cons, List.length_nil, Nat.reduceAdd]; rfl)); refine oc (sto ti31 ?_); refine oc (sto ti33 ?_); refine nx ?_; refine kp [7, 6, 5, 4, 3, 0] ?_; refine sr ?_
    refine o1 (fdb ti25 ?_); refine o1 (ldb ti9 ?_); refine oc (cv ca9 rfl rfl (pb) (fir .nil) ?_); refine o1 (mv ?_); refine o1 (ex2 ?_); refine o1 (ex2 ?_)
    refine oc (T := fun _ => False) (alc ti31 ?_ (hl := by simp only [List.length_cons, List.length_nil, Nat.reduceAdd]; rfl))
    refine oc (T := fun _ => False) (alc ti33 ?_ (hl := by simp only [List.length_cons, List.length_nil, Nat.reduceAdd]; rfl)); refine oc (sto ti31 ?_); refine oc (sto ti33 ?_); refine nx ?_; refine runs_seq ?_; refine runs_seq ?_
    refine kp [9, 8, 7, 6, 5, 4, 3, 0] ?_; refine runs_nilrow 9 1 rfl ?_; refine a_start ?_ (hm := by exact mixed); refine A1 0 rfl (fdb ti33 ⟨_, rfl, ?_⟩); refine A1 1 rfl (ldb ti3 ⟨_, rfl, ?_⟩); refine A1 2 rfl (ine ⟨_, rfl, ?_⟩)
    refine A1 3 rfl (mv ⟨_, rfl, ?_⟩); refine asp 54 (fun hc => ?_) (fun hc => ?_)
    · (try simp only [nrm, Int.reduceEq, Int.reduceNe, Int.reduceLT, Int.reduceLE] at hc)
      refine A7 4 rfl ?_ (hlit := by exact (.inl rfl)); refine A7 5 rfl ?_ (hlit := by exact (.inl rfl)); refine A7 6 rfl ?_ (hlit := by exact (.inl rfl)); refine A1 7 rfl (f_pick_t ⟨_, rfl, ?_⟩); refine A1 8 rfl (mv ⟨_, rfl, ?_⟩)
      refine aspf 59 (fun hc => ?_) (fun hc => ?_)
      · simp only [nrm, Int.reduceEq, Int.reduceNe, Int.reduceLT, Int.reduceLE] at hc
      (try simp only [nrm, Int.reduceEq, Int.reduceNe, Int.reduceLT, Int.reduceLE] at hc); refine A7 9 rfl ?_ (hlit := by exact (.inl rfl)); refine A7 10 rfl ?_ (hlit := by exact (.inl rfl)); refine A7 11 rfl ?_ (hlit := by exact (.inl rfl))
      refine A7 12 rfl ?_ (hlit := by exact (.inl rfl)); refine A1 13 rfl (f_pick_t ⟨_, rfl, ?_⟩); refine A1 14 rfl (mv ⟨_, rfl, ?_⟩); refine aspf 65 (fun hc => ?_) (fun hc => ?_)
      · simp only [nrm, Int.reduceEq, Int.reduceNe, Int.reduceLT, Int.reduceLE] at hc
      (try simp only [nrm, Int.reduceEq, Int.reduceNe, Int.reduceLT, Int.reduceLE] at hc); refine A7 15 rfl ?_ (hlit := by exact (.inl rfl)); refine A7 16 rfl ?_ (hlit := by exact (.inl rfl)); refine A7 17 rfl ?_ (hlit := by exact (.inl rfl))
      refine A7 18 rfl ?_ (hlit := by exact (.inl rfl)); refine A1 19 rfl (f_pick_t ⟨_, rfl, ?_⟩); refine A1 20 rfl (mv ⟨_, rfl, ?_⟩); refine aspf 71 (fun hc => ?_) (fun hc => ?_)
      · simp only [nrm, Int.reduceEq, Int.reduceNe, Int.reduceLT, Int.reduceLE] at hc
      (try simp only [nrm, Int.reduceEq, Int.reduceNe, Int.reduceLT, Int.reduceLE] at hc); refine A7 21 rfl ?_ (hlit := by exact (.inl rfl)); refine A7 22 rfl ?_ (hlit := by exact (.inl rfl)); refine A7 23 rfl ?_ (hlit := by exact (.inl rfl))
      refine A7 24 rfl ?_ (hlit := by exact (.inl rfl)); refine A7 25 rfl ?_ (hlit := by exact (.inl rfl)); refine A7 26 rfl ?_ (hlit := by exact (.inl rfl)); refine A1 27 rfl (f_pick_t ⟨_, rfl, ?_⟩); refine a_end ?_; refine seq_normal ?_
      refine cdf (fun h8 => ?_) (fun h8 => ?_)
      · simp only [nrm, Int.reduceEq, Int.reduceNe, Int.reduceLT, Int.reduceLE] at h8
      (try simp only [nrm, Int.reduceEq, Int.reduceNe, Int.reduceLT, Int.reduceLE] at h8); refine runs_exit ?_; refine seq_exit ?_; refine inb_exit ?_; refine seq_normal ?_; refine kp [4, 3, 0] ?_; refine runs_region ?_; refine o1 (mv ?_)
      refine o1 (iad ?_); refine o1 (asg ?_); refine ops_nil ?_; refine seq_back ?_; refine back_i (i + 1) rfl ?_ ?_
      · exact ⟨⟨by omega, by omega⟩, by omega⟩
      · refine mo ?_ (sly (sly (sly slz)))
        exact boz
    (try simp only [nrm, Int.reduceEq, Int.reduceNe, Int.reduceLT, Int.reduceLE] at hc); refine A6 4 rfl (fdb ti33 ⟨_, rfl, ?_⟩); refine A6 5 rfl (ldb ti3 ⟨_, rfl, ?_⟩); refine A6 6 rfl (ine ⟨_, rfl, ?_⟩); refine A1 7 rfl (f_pick_f ⟨_, rfl, ?_⟩)
    refine A1 8 rfl (mv ⟨_, rfl, ?_⟩); refine asp 59 (fun hc => ?_) (fun hc => ?_)
    · (try simp only [nrm, Int.reduceEq, Int.reduceNe, Int.reduceLT, Int.reduceLE] at hc)
      refine A7 9 rfl ?_ (hlit := by exact (.inl rfl)); refine A7 10 rfl ?_ (hlit := by exact (.inl rfl)); refine A7 11 rfl ?_ (hlit := by exact (.inl rfl)); refine A7 12 rfl ?_ (hlit := by exact (.inl rfl))
      refine A1 13 rfl (f_pick_t ⟨_, rfl, ?_⟩); refine A1 14 rfl (mv ⟨_, rfl, ?_⟩); refine aspf 65 (fun hc => ?_) (fun hc => ?_)
      · simp only [nrm, Int.reduceEq, Int.reduceNe, Int.reduceLT, Int.reduceLE] at hc
      (try simp only [nrm, Int.reduceEq, Int.reduceNe, Int.reduceLT, Int.reduceLE] at hc); refine A7 15 rfl ?_ (hlit := by exact (.inl rfl)); refine A7 16 rfl ?_ (hlit := by exact (.inl rfl)); refine A7 17 rfl ?_ (hlit := by exact (.inl rfl))
      refine A7 18 rfl ?_ (hlit := by exact (.inl rfl)); refine A1 19 rfl (f_pick_t ⟨_, rfl, ?_⟩); refine A1 20 rfl (mv ⟨_, rfl, ?_⟩); refine aspf 71 (fun hc => ?_) (fun hc => ?_)
      · simp only [nrm, Int.reduceEq, Int.reduceNe, Int.reduceLT, Int.reduceLE] at hc
      (try simp only [nrm, Int.reduceEq, Int.reduceNe, Int.reduceLT, Int.reduceLE] at hc); refine A7 21 rfl ?_ (hlit := by exact (.inl rfl)); refine A7 22 rfl ?_ (hlit := by exact (.inl rfl)); refine A7 23 rfl ?_ (hlit := by exact (.inl rfl))
      refine A7 24 rfl ?_ (hlit := by exact (.inl rfl)); refine A7 25 rfl ?_ (hlit := by exact (.inl rfl)); refine A7 26 rfl ?_ (hlit := by exact (.inl rfl)); refine A1 27 rfl (f_pick_t ⟨_, rfl, ?_⟩); refine a_end ?_; refine seq_normal ?_
      refine cdf (fun h8 => ?_) (fun h8 => ?_)
      · simp only [nrm, Int.reduceEq, Int.reduceNe, Int.reduceLT, Int.reduceLE] at h8
      (try simp only [nrm, Int.reduceEq, Int.reduceNe, Int.reduceLT, Int.reduceLE] at h8); refine runs_exit ?_; refine seq_exit ?_; refine inb_exit ?_; refine seq_normal ?_; refine kp [4, 3, 0] ?_; refine runs_region ?_; refine o1 (mv ?_)
      refine o1 (iad ?_); refine o1 (asg ?_); refine ops_nil ?_; refine seq_back ?_; refine back_i (i + 1) rfl ?_ ?_
      · exact ⟨⟨by omega, by omega⟩, by omega⟩
      · refine mo ?_ (sly (sly (sly slz)))
        exact boz
    (try simp only [nrm, Int.reduceEq, Int.reduceNe, Int.reduceLT, Int.reduceLE] at hc); refine A6 9 rfl (fdb ti25 ⟨_, rfl, ?_⟩); refine A6 10 rfl (ldb ti9 ⟨_, rfl, ?_⟩); refine A6 11 rfl (le3 ut9 ⟨_, rfl, ?_⟩)
    refine A6 12 rfl (igt ⟨_, rfl, ?_⟩); refine A1 13 rfl (f_pick_f ⟨_, rfl, ?_⟩); refine A1 14 rfl (mv ⟨_, rfl, ?_⟩); refine asp 65 (fun hc => ?_) (fun hc => ?_)
    · (try simp only [nrm, Int.reduceEq, Int.reduceNe, Int.reduceLT, Int.reduceLE] at hc)
      refine A7 15 rfl ?_ (hlit := by exact (.inl rfl)); refine A7 16 rfl ?_ (hlit := by exact (.inl rfl)); refine A7 17 rfl ?_ (hlit := by exact (.inl rfl)); refine A7 18 rfl ?_ (hlit := by exact (.inl rfl))
      refine A1 19 rfl (f_pick_t ⟨_, rfl, ?_⟩); refine A1 20 rfl (mv ⟨_, rfl, ?_⟩); refine aspf 71 (fun hc => ?_) (fun hc => ?_)
      · simp only [nrm, Int.reduceEq, Int.reduceNe, Int.reduceLT, Int.reduceLE] at hc
      (try simp only [nrm, Int.reduceEq, Int.reduceNe, Int.reduceLT, Int.reduceLE] at hc); refine A7 21 rfl ?_ (hlit := by exact (.inl rfl)); refine A7 22 rfl ?_ (hlit := by exact (.inl rfl)); refine A7 23 rfl ?_ (hlit := by exact (.inl rfl))
      refine A7 24 rfl ?_ (hlit := by exact (.inl rfl)); refine A7 25 rfl ?_ (hlit := by exact (.inl rfl)); refine A7 26 rfl ?_ (hlit := by exact (.inl rfl)); refine A1 27 rfl (f_pick_t ⟨_, rfl, ?_⟩); refine a_end ?_; refine seq_normal ?_
      refine cdf (fun h8 => ?_) (fun h8 => ?_)
      · simp only [nrm, Int.reduceEq, Int.reduceNe, Int.reduceLT, Int.reduceLE] at h8
      (try simp only [nrm, Int.reduceEq, Int.reduceNe, Int.reduceLT, Int.reduceLE] at h8); refine runs_exit ?_; refine seq_exit ?_; refine inb_exit ?_; refine seq_normal ?_; refine kp [4, 3, 0] ?_; refine runs_region ?_; refine o1 (mv ?_)
      refine o1 (iad ?_); refine o1 (asg ?_); refine ops_nil ?_; refine seq_back ?_; refine back_i (i + 1) rfl ?_ ?_
      · exact ⟨⟨by omega, by omega⟩, by omega⟩
      · refine mo ?_ (sly (sly (sly slz)))
        exact boz
    (try simp only [nrm, Int.reduceEq, Int.reduceNe, Int.reduceLT, Int.reduceLE] at hc); refine A6 15 rfl (fdb ti25 ⟨_, rfl, ?_⟩); refine A6 16 rfl (ldb ti9 ⟨_, rfl, ?_⟩); refine A6 17 rfl (le3 ut9 ⟨_, rfl, ?_⟩)
    refine A6 18 rfl (igt ⟨_, rfl, ?_⟩); refine A1 19 rfl (f_pick_f ⟨_, rfl, ?_⟩); refine A1 20 rfl (mv ⟨_, rfl, ?_⟩); refine asp 71 (fun hc => ?_) (fun hc => ?_)
    · (try simp only [nrm, Int.reduceEq, Int.reduceNe, Int.reduceLT, Int.reduceLE] at hc)
      refine A7 21 rfl ?_ (hlit := by exact (.inl rfl)); refine A7 22 rfl ?_ (hlit := by exact (.inl rfl)); refine A7 23 rfl ?_ (hlit := by exact (.inl rfl)); refine A7 24 rfl ?_ (hlit := by exact (.inl rfl))
      refine A7 25 rfl ?_ (hlit := by exact (.inl rfl)); refine A7 26 rfl ?_ (hlit := by exact (.inl rfl)); refine A1 27 rfl (f_pick_t ⟨_, rfl, ?_⟩); refine a_end ?_; refine seq_normal ?_; refine cdf (fun h8 => ?_) (fun h8 => ?_)
      · simp only [nrm, Int.reduceEq, Int.reduceNe, Int.reduceLT, Int.reduceLE] at h8
      (try simp only [nrm, Int.reduceEq, Int.reduceNe, Int.reduceLT, Int.reduceLE] at h8); refine runs_exit ?_; refine seq_exit ?_; refine inb_exit ?_; refine seq_normal ?_; refine kp [4, 3, 0] ?_; refine runs_region ?_; refine o1 (mv ?_)
      refine o1 (iad ?_); refine o1 (asg ?_); refine ops_nil ?_; refine seq_back ?_; refine back_i (i + 1) rfl ?_ ?_
      · exact ⟨⟨by omega, by omega⟩, by omega⟩
      · refine mo ?_ (sly (sly (sly slz)))
        exact boz
    (try simp only [nrm, Int.reduceEq, Int.reduceNe, Int.reduceLT, Int.reduceLE] at hc); refine A6 21 rfl (ldb ti31 ⟨_, rfl, ?_⟩); refine A6 22 rfl (ldb ti31 ⟨_, rfl, ?_⟩)
    refine A3 23 rfl (ck ca10 rfl rfl (hp1) [5] rfl (bon .nil) (fid (.cons (.nil rfl) .nil)) ?_); refine A3 24 rfl (ck ca10 rfl rfl (hp2) [5] rfl (bor .nil) (fid (fir .nil)) ?_); refine A6 25 rfl (le2 us36 ⟨_, rfl, ?_⟩)
    refine A6 26 rfl (igt ⟨_, rfl, ?_⟩); refine A1 27 rfl (f_pick_f ⟨_, rfl, ?_⟩); refine a_end ?_; refine seq_normal ?_; refine cd (fun h8 => ?_) (fun h8 => ?_)
    · (try simp only [nrm, Int.reduceEq, Int.reduceNe, Int.reduceLT, Int.reduceLE] at h8)
      refine runs_exit ?_; refine seq_exit ?_; refine inb_exit ?_; refine seq_normal ?_; refine kp [4, 3, 0] ?_; refine runs_region ?_; refine o1 (mv ?_); refine o1 (iad ?_); refine o1 (asg ?_); refine ops_nil ?_; refine seq_back ?_
      refine back_i (i + 1) rfl ?_ ?_
      · exact ⟨⟨by omega, by omega⟩, by omega⟩
      · refine mo ?_ (sly (sly (sly slz)))
        exact boz
    (try simp only [nrm, Int.reduceEq, Int.reduceNe, Int.reduceLT, Int.reduceLE] at h8); refine runs_skip ?_; refine seq_normal ?_; refine kp [8, 6, 5, 4, 3, 0] ?_; refine sr ?_
    refine oc (T := fun _ => False) (op_lit sl36 [.const _, .const _, .const _] ti9 rfl rfl rfl rfl rfl rfl rfl (by decide) (by decide) (by decide) (by simp only [List.length_cons, List.length_nil, Nat.reduceAdd]; rfl) rfl ?_)
    refine o1 (asg ?_); refine nx ?_; refine runs_seq ?_; refine a_start ?_ (hm := by exact mixed); refine A1 0 rfl (fdb ti25 ⟨_, rfl, ?_⟩); refine A1 1 rfl (ldb ti3 ⟨_, rfl, ?_⟩); refine A1 3 rfl (fdb ti25 ⟨_, rfl, ?_⟩)
    refine A1 4 rfl (ldb ti3 ⟨_, rfl, ?_⟩); refine A1 6 rfl (fdb ti25 ⟨_, rfl, ?_⟩); refine A1 7 rfl (ldb ti3 ⟨_, rfl, ?_⟩); refine A1 8 rfl (fdb ti25 ⟨_, rfl, ?_⟩); refine A1 9 rfl (ldb ti3 ⟨_, rfl, ?_⟩)
    refine A1 10 rfl (fl_addw rfl rfl rfl ⟨_, rfl, ?_⟩); refine A2 2 rfl (cv ca11 rfl rfl (limit_spec l[i].a hoi.1.1 hoi.1.2) (fir .nil) ?_); refine A2 5 rfl (cv ca11 rfl rfl (limit_spec l[i].b hoi.2.1 hoi.2.2) (fir .nil) ?_)
    refine A2 11 rfl (cv ca11 rfl rfl (limit_spec (IntKind.i64.wrap (l[i].a + l[i].b)) (wrap_bound _).1 (wrap_bound _).2) (fir .nil) ?_)
    refine A2 (T := fun _ => False) 12 rfl (op_lit sl39 [.tmp 82, .tmp 85, .tmp 91] ti3 rfl rfl rfl rfl rfl rfl rfl (by decide) (by decide) (by decide) (by simp only [List.length_cons, List.length_nil, Nat.reduceAdd]; rfl) rfl ?_)
    refine A1 13 rfl (asg ⟨_, rfl, ?_⟩); refine a_end ?_; refine seq_normal ?_; refine kp [11, 10, 8, 6, 4, 3, 0] ?_; refine sr ?_; refine o1 (ldb ti31 ?_); refine o1 (mv ?_); refine o1 (mv ?_)
    refine oc (cv ca12 rfl rfl (h11) (fid (fid (fid .nil))) ?_); refine o1 (asg ?_); refine nx ?_; refine kp [12, 11, 10, 8, 6, 4, 3, 0] ?_; refine sr ?_; refine o1 (ldb ti31 ?_); refine o1 (mv ?_); refine o1 (mv ?_)
    refine oc (cv ca12 rfl rfl (h12) (fid (fid (fid .nil))) ?_); refine o1 (asg ?_); refine nx ?_; refine kp [13, 12, 8, 6, 4, 3, 0] ?_; refine sr ?_; refine o1 (ldb ti31 ?_); refine o1 (ldb ti31 ?_)
    refine oc (cv ca13 rfl rfl (h13) (fid (fid .nil)) ?_); refine o1 (asg ?_); refine nx ?_; refine sr ?_; refine o1 (ldb ti31 ?_); refine o1 (ldb ti31 ?_); refine oc (cv ca13 rfl rfl (h14) (fid (fid .nil)) ?_); refine o1 (asg ?_); refine nx ?_
    refine kp [15, 14, 13, 12, 8, 6, 4, 3, 0] ?_; refine sr ?_; refine o1 (ldb ti31 ?_); refine o1 (ldb ti31 ?_); refine oc (cv ca14 rfl rfl (h15) (fid (fid .nil)) ?_); refine o1 (asg ?_); refine nx ?_; refine runs_seq ?_
    refine kp [16, 15, 14, 13, 12, 6, 4, 3, 0] ?_; refine sr ?_; refine o1 (mv ?_); refine o1 (mv ?_)
    apply ops_and (yt := 114) (d := 111) 3 rfl rfl rfl (.none rfl) rfl rfl
    case h1 =>
      intro hb3 hK
      have hc := hb3; (try simp only [nrm, Int.reduceEq, Int.reduceNe, Int.reduceLT, Int.reduceLE] at hc)
      refine gye ?_ (hbw := by exact hb3); refine o1 (mv ?_); refine gye ?_ (hbw := by exact hb3); refine o1 (mv ?_); refine gye ?_ (hbw := by exact hb3); refine o1 (igt ?_); exact hK [_, _, _] rfl rfl
    case h2 =>
      intro hb3 hK; refine gno ?_ (hbw := by exact hb3); refine gno ?_ (hbw := by exact hb3); refine gno ?_ (hbw := by exact hb3); exact hK [_, _, _] rfl
    refine o1 (mv ?_)
    apply ops_or (yt := 122) (d := 116) 6 rfl rfl rfl (.none rfl) rfl rfl
    case h1 =>
      intro hb12 hK
      have hc := hb12; (try simp only [nrm, Int.reduceEq, Int.reduceNe, Int.reduceLT, Int.reduceLE] at hc)
      refine gye ?_ (hbw := by exact hb12); refine o1 (mv ?_); refine gye ?_ (hbw := by exact hb12); refine o1 (mv ?_)
      apply ops_and (yt := 121) (d := 118) 3 rfl rfl rfl (.yes rfl rfl rfl hb12) rfl rfl
      case h1 =>
        intro hb17 hK
        have hc := hb17; (try simp only [nrm, Int.reduceEq, Int.reduceNe, Int.reduceLT, Int.reduceLE] at hc)
        refine gye ?_ (hbw := by exact hb17); refine o1 (mv ?_); refine gye ?_ (hbw := by exact hb17); refine o1 (mv ?_); refine gye ?_ (hbw := by exact hb17); refine o1 (ine ?_); exact hK [_, _, _] rfl rfl
      case h2 =>
        intro hb17 hK; refine gno ?_ (hbw := by exact hb17); refine gno ?_ (hbw := by exact hb17); refine gno ?_ (hbw := by exact hb17); exact hK [_, _, _] rfl
      exact hK [_, _, _] rfl rfl
    case h2 =>
      intro hb12 hK; refine gno ?_ (hbw := by exact hb12); refine gno ?_ (hbw := by exact hb12); refine gud ?_; refine gud ?_; refine gud ?_; refine gno ?_ (hbw := by exact hb12); exact hK [_, _, _, _, _, _] rfl
    refine o1 (mv ?_)
    apply ops_or (yt := 130) (d := 124) 6 rfl rfl rfl (.none rfl) rfl rfl
    case h1 =>
      intro hb28 hK
      have hc := hb28; (try simp only [nrm, Int.reduceEq, Int.reduceNe, Int.reduceLT, Int.reduceLE] at hc)
      refine gye ?_ (hbw := by exact hb28); refine o1 (mv ?_); refine gye ?_ (hbw := by exact hb28); refine o1 (mv ?_); refine gye ?_ (hbw := by exact hb28); refine o1 (mv ?_)
      apply ops_and (yt := 128) (d := 127) 1 rfl rfl rfl (.yes rfl rfl rfl hb28) rfl rfl
      case h1 =>
        intro hb35 hK
        have hc := hb35; (try simp only [nrm, Int.reduceEq, Int.reduceNe, Int.reduceLT, Int.reduceLE] at hc)
        refine gye ?_ (hbw := by exact hb35); refine o1 (mv ?_); exact hK [_] rfl rfl
      case h2 =>
        intro hb35 hK; refine gno ?_ (hbw := by exact hb35); exact hK [_] rfl
      refine gye ?_ (hbw := by exact hb28); refine o1 (fl_bqneq ub4 rfl rfl rfl ?_); exact hK [_, _, _, _, _] rfl rfl
    case h2 =>
      intro hb28 hK; refine gno ?_ (hbw := by exact hb28); refine gno ?_ (hbw := by exact hb28); refine gno ?_ (hbw := by exact hb28); refine gud ?_; refine gno ?_ (hbw := by exact hb28); refine gno ?_ (hbw := by exact hb28)
      exact hK [_, _, _, _, _, _] rfl
    refine nx ?_; refine cd (fun h16 => ?_) (fun h16 => ?_)
    · (try simp only [nrm, Int.reduceEq, Int.reduceNe, Int.reduceLT, Int.reduceLE] at h16); exfalso; revert h16 hS1 hS2; cases semB x y <;> cases semB y x <;> simp <;> omega
    (try simp only [nrm, Int.reduceEq, Int.reduceNe, Int.reduceLT, Int.reduceLE] at h16); refine runs_skip ?_; refine seq_normal ?_; refine kp [6, 4, 3, 0] ?_; refine sr ?_; refine o1 (ldb ti31 ?_)
    refine oc (cv ca15 rfl rfl (hPp (by omega)) (fid .nil) ?_); refine o1 (asg ?_); refine nx ?_; refine sr ?_; refine o1 (mv ?_); refine oc (cv ca16 rfl rfl (hPr (by omega)) (fir .nil) ?_); refine o1 (mv ?_); refine o1 (ex2 ?_)
    refine o1 (ex2 ?_); refine oc (T := fun _ => False) (alc ti31 ?_ (hl := by simp only [List.length_cons, List.length_nil, Nat.reduceAdd]; rfl)); refine oc (sto ti31 ?_); refine o1 (asg ?_); refine nx ?_; refine kp [19, 18, 6, 4, 3, 0] ?_
    refine sr ?_; refine o1 (ldb ti31 ?_); refine o1 (ldb ti31 ?_); refine oc (cv ca14 rfl rfl (h20) (fid (fid .nil)) ?_); refine o1 (asg ?_); refine nx ?_; refine kp [20, 19, 4, 3, 0] ?_; refine sr ?_; refine o1 (mv ?_)
    refine o1 (f_ineq_nil ii44 ?_); refine o1 (mv ?_)
    apply ops_or (yt := 146) (d := 144) 2 rfl rfl rfl (.none rfl) rfl rfl
    case h1 =>
      intro hb4 hK
      have hc := hb4; (try simp only [nrm, Int.reduceEq, Int.reduceNe, Int.reduceLT, Int.reduceLE] at hc)
      refine gye ?_ (hbw := by exact hb4); refine o1 (mv ?_); refine gye ?_ (hbw := by exact hb4); refine o1 (f_not ?_); exact hK [_, _] rfl rfl
    case h2 =>
      intro hb4 hK; refine gno ?_ (hbw := by exact hb4); refine gno ?_ (hbw := by exact hb4); exact hK [_, _] rfl
    refine nx ?_; refine cd (fun h21 => ?_) (fun h21 => ?_)
    · simp only [nrm, Int.reduceEq, Int.reduceNe, Int.reduceLT, Int.reduceLE] at h21
    (try simp only [nrm, Int.reduceEq, Int.reduceNe, Int.reduceLT, Int.reduceLE] at h21); refine runs_skip ?_; refine inb_normal ?_; refine seq_normal ?_; refine kp [4, 3, 0] ?_; refine runs_region ?_; refine o1 (mv ?_); refine o1 (iad ?_)
    refine o1 (asg ?_); refine ops_nil ?_; refine seq_back ?_; refine back_i (i + 1) rfl ?_ ?_
    · exact ⟨⟨by omega, by omega⟩, by omega⟩
    · refine mo ?_ (sly (sly (sly slz)))
      exact boz
end Go.Proofs.YtafhnnbbfgoacaaDoor
