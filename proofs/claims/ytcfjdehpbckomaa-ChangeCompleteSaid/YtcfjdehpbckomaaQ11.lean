-- Written by a program of this session (mk.py) out of the translation; Lean checks it.
import Derived.Test.YtcfjdehpbckomaaQ0
import Derived.Test.YtcfjdehpbckomaaQ3
import Derived.Test.YtcfjdehpbckomaaQ5
import Derived.Test.YtcfjdehpbckomaaQ8
import Derived.Test.YtcfjdehpbckomaaQ10
namespace Go.Proofs.Ytcfjdehpbckomaa.Q
open Go.RowKit Go.Proofs.YtcfjdehpbckomaaW.PrintWords Go.Proofs.YtcfjdehpbckomaaW.PrintLast Go.Proofs.YtcfjdehpbckomaaW.PrintMore
attribute [local go_sem] max2_int min2_int max_two min_two max_three min_three max_four min_four   -- for this text's walks alone
set_option linter.unusedVariables false
set_option linter.unusedSimpArgs false

/-! ### treemergelaw31_ChangeComplete: function 6 -/
mutual
def treemergelaw31_ChangeComplete.j0 : Nat → Bool → Int → ByteArray → List ByteArray → List (S25) → List Int → Int → ByteArray → List ByteArray → List (S25) → List Int → Option (Bool)
 | 0, _, _, _, _, _, _, _, _, _, _, _ => none
 | k + 1, x15, x308000, x308001, x308002, x308003, x308004, x309000, x309001, x309002, x309003, x309004 => if x15 = true then ((treemergelaw31_awake.f).bind fun t311 => (some t311)) else ((change_List.f x308000 x308001 x308002 x308003 x309000 x309001 x309002 x309003 x308004 x309004).bind fun bt312 => (if bt312.2 = 0 then ((treemergeref06_Size.f k x308000 x308001 x308002 x308003).bind fun t317 => (if (x308004.length : Int) = t317 then ((treemergeref06_Size.f k x309000 x309001 x309002 x309003).bind fun t318 => (if (x309004.length : Int) = t318 then ((treemergelaw31_agree.f k x308000 x308001 x308002 x308003 x308004 x309000 x309001 x309002 x309003 x309004).bind fun t319 => (treemergelaw31_ChangeComplete.j1 k bt312.1 (((bt312.1.length : Int) == 0) != t319))) else (treemergelaw31_ChangeComplete.j1 k bt312.1 true))) else (treemergelaw31_ChangeComplete.j1 k bt312.1 true))) else (if (bt312.1.length : Int) = 0 then ((treemergelaw31_awake.f).bind fun t316 => (some t316)) else (some false))))
def treemergelaw31_ChangeComplete.j1 : Nat → List (S48) → Bool → Option (Bool)
 | 0, _, _ => none
 | k + 1, x5, x61 => if x61 = true then (some false) else (treemergelaw31_ChangeComplete.l0 k x5 1)
def treemergelaw31_ChangeComplete.l0 : Nat → List (S48) → Int → Option (Bool)
 | 0, _, _ => none
 | k + 1, x5, x7 => if x7 < (x5.length : Int) then (if 0 ≤ (wrap64 (x7 - 1)) then (if (wrap64 (x7 - 1)) < (x5.length : Int) then (if 0 ≤ x7 then (if ((rd_T48 x5 (wrap64 (x7 - 1))).f0) > ((rd_T48 x5 x7).f0) then (some false) else (if ((rd_T48 x5 (wrap64 (x7 - 1))).f0) = ((rd_T48 x5 x7).f0) then (if ((rd_T48 x5 (wrap64 (x7 - 1))).f1) ≥ ((rd_T48 x5 x7).f1) then (some false) else (treemergelaw31_ChangeComplete.l0 k x5 (wrap64 (x7 + 1)))) else (treemergelaw31_ChangeComplete.l0 k x5 (wrap64 (x7 + 1))))) else (none)) else (none)) else (none)) else ((treemergelaw31_awake.f).bind fun t326 => (some t326))
end
def treemergelaw31_ChangeComplete.f (k : Nat) (a0_0 : Int) (a0_1 : ByteArray) (l0_2 : List ByteArray) (l0_3 : List (S25)) (l0_4 : List Int) (a1_0 : Int) (a1_1 : ByteArray) (l1_2 : List ByteArray) (l1_3 : List (S25)) (l1_4 : List Int) : Option (Bool) := (treemergelaw31_fits.f k a0_0 a0_1 l0_2 l0_3 l0_4).bind fun t309 => (if t309 = true then ((treemergelaw31_fits.f k a1_0 a1_1 l1_2 l1_3 l1_4).bind fun t310 => (treemergelaw31_ChangeComplete.j0 k (!t310) a0_0 a0_1 l0_2 l0_3 l0_4 a1_0 a1_1 l1_2 l1_3 l1_4)) else (treemergelaw31_ChangeComplete.j0 k true a0_0 a0_1 l0_2 l0_3 l0_4 a1_0 a1_1 l1_2 l1_3 l1_4))
theorem treemergelaw31_ChangeComplete.mono_l : ∀ k, (∀ y0 y1 y2 y3 y4 y5 y6 y7 y8 y9 y10, LeO (treemergelaw31_ChangeComplete.j0 k y0 y1 y2 y3 y4 y5 y6 y7 y8 y9 y10) (treemergelaw31_ChangeComplete.j0 (k + 1) y0 y1 y2 y3 y4 y5 y6 y7 y8 y9 y10)) ∧ (∀ y0 y1, LeO (treemergelaw31_ChangeComplete.j1 k y0 y1) (treemergelaw31_ChangeComplete.j1 (k + 1) y0 y1)) ∧ (∀ y0 y1, LeO (treemergelaw31_ChangeComplete.l0 k y0 y1) (treemergelaw31_ChangeComplete.l0 (k + 1) y0 y1))
 | 0 => ⟨fun _ _ _ _ _ _ _ _ _ _ _ r h => by simp [treemergelaw31_ChangeComplete.j0] at h, fun _ _ r h => by simp [treemergelaw31_ChangeComplete.j1] at h, fun _ _ r h => by simp [treemergelaw31_ChangeComplete.l0] at h⟩
 | k + 1 => by
  obtain ⟨ih0, ih1, ih2⟩ := treemergelaw31_ChangeComplete.mono_l k
  refine ⟨?_, ?_, ?_⟩
  ·intro y0 y1 y2 y3 y4 y5 y6 y7 y8 y9 y10
   unfold treemergelaw31_ChangeComplete.j0
   repeat' first
   | (with_reducible exact ih0 _ _ _ _ _ _ _ _ _ _ _)
   | (with_reducible exact ih1 _ _)
   | (with_reducible exact ih2 _ _)
   | (with_reducible exact treemergelaw31_agree.mono _ _ _ _ _ _ _ _ _ _ _)
   | (with_reducible exact treemergelaw31_fits.mono _ _ _ _ _ _)
   | (with_reducible exact treemergeref06_Size.mono _ _ _ _ _)
   | (with_reducible exact LeO.refl _)
   | (with_reducible exact LeO.none _)
   | (with_reducible refine LeO.ite ?_ ?_)
   | (with_reducible refine LeO.bind ?_ (fun _ => ?_))
  ·intro y0 y1
   unfold treemergelaw31_ChangeComplete.j1
   repeat' first
   | (with_reducible exact ih0 _ _ _ _ _ _ _ _ _ _ _)
   | (with_reducible exact ih1 _ _)
   | (with_reducible exact ih2 _ _)
   | (with_reducible exact treemergelaw31_agree.mono _ _ _ _ _ _ _ _ _ _ _)
   | (with_reducible exact treemergelaw31_fits.mono _ _ _ _ _ _)
   | (with_reducible exact treemergeref06_Size.mono _ _ _ _ _)
   | (with_reducible exact LeO.refl _)
   | (with_reducible exact LeO.none _)
   | (with_reducible refine LeO.ite ?_ ?_)
   | (with_reducible refine LeO.bind ?_ (fun _ => ?_))
  ·intro y0 y1
   unfold treemergelaw31_ChangeComplete.l0
   repeat' first
   | (with_reducible exact ih0 _ _ _ _ _ _ _ _ _ _ _)
   | (with_reducible exact ih1 _ _)
   | (with_reducible exact ih2 _ _)
   | (with_reducible exact treemergelaw31_agree.mono _ _ _ _ _ _ _ _ _ _ _)
   | (with_reducible exact treemergelaw31_fits.mono _ _ _ _ _ _)
   | (with_reducible exact treemergeref06_Size.mono _ _ _ _ _)
   | (with_reducible exact LeO.refl _)
   | (with_reducible exact LeO.none _)
   | (with_reducible refine LeO.ite ?_ ?_)
   | (with_reducible refine LeO.bind ?_ (fun _ => ?_))
theorem treemergelaw31_ChangeComplete.mono : ∀ a0 a1 a2 a3 a4 a5 a6 a7 a8 a9 k, LeO (treemergelaw31_ChangeComplete.f k a0 a1 a2 a3 a4 a5 a6 a7 a8 a9) (treemergelaw31_ChangeComplete.f (k + 1) a0 a1 a2 a3 a4 a5 a6 a7 a8 a9) := by
 intro a0 a1 a2 a3 a4 a5 a6 a7 a8 a9 k
 obtain ⟨ih0, ih1, ih2⟩ := treemergelaw31_ChangeComplete.mono_l k
 unfold treemergelaw31_ChangeComplete.f
 repeat' first
   | (with_reducible exact ih0 _ _ _ _ _ _ _ _ _ _ _)
   | (with_reducible exact ih1 _ _)
   | (with_reducible exact ih2 _ _)
   | (with_reducible exact treemergelaw31_agree.mono _ _ _ _ _ _ _ _ _ _ _)
   | (with_reducible exact treemergelaw31_fits.mono _ _ _ _ _ _)
   | (with_reducible exact treemergeref06_Size.mono _ _ _ _ _)
   | (with_reducible exact LeO.refl _)
   | (with_reducible exact LeO.none _)
   | (with_reducible refine LeO.ite ?_ ?_)
   | (with_reducible refine LeO.bind ?_ (fun _ => ?_))
def treemergelaw31_ChangeComplete.T6 : Bool × List (List Nat × List Nat) := (true, [([], []), ([0], [0]), ([1], [1]), ([], []), ([3], [3]), ([4], [4]), ([2, 5], [2, 5]), ([6, 5], [6]), ([7], [7]), ([8, 7], [7, 8]), ([9, 7], [7, 9]), ([7], [7]), ([11, 7], [7, 11]), ([12, 7, 7], [7, 12]), ([10, 13, 7], [7, 10, 13]), ([7, 14], [7, 14]), ([15, 13], [15]), ([16], [16]), ([17, 16], [16, 17]), ([18, 16], [16, 18]), ([16], [16]), ([16], [16]), ([20, 21, 16, 16], [16, 20, 21]), ([19, 22, 16], [16, 19, 22]), ([16, 23], [16, 23])])
def treemergelaw31_ChangeComplete.B6 : List Nat := [0, 1, 3, 0, 8, 24, 63, 127, 255, 511, 1023, 255, 2303, 6399, 16383, 32767, 65535, 131071, 262143, 524287, 131071, 131071, 3276799, 8388607, 16777215]
theorem treemergelaw31_ChangeComplete.tab6 : rtab .any (opsOf Try.f6 6) = treemergelaw31_ChangeComplete.T6 := by kernel_rfl
theorem treemergelaw31_ChangeComplete.bits6 : waitsOk treemergelaw31_ChangeComplete.T6.2 treemergelaw31_ChangeComplete.B6 = true := by kernel_rfl
def treemergelaw31_ChangeComplete.T11 : Bool × List (List Nat × List Nat) := (true, [([], []), ([], []), ([1], [1]), ([0, 2], [0, 2]), ([3], [3]), ([4], [4]), ([], []), ([], []), ([6, 7], [6, 7]), ([8], [8]), ([9], [9]), ([5, 10], [5, 10]), ([11], [11]), ([12], [12]), ([12], [12]), ([14, 12], [12, 14]), ([13, 15, 12], [12, 13, 15]), ([16, 12], [12, 16]), ([17, 12], [12, 17]), ([12], [12]), ([12], [12]), ([19, 20, 12], [12, 19, 20]), ([21, 12], [12, 21]), ([22, 12], [12, 22]), ([18, 23, 12], [12, 18, 23]), ([24, 12, 12], [12, 24]), ([25], [25]), ([25], [25]), ([27, 25], [25, 27]), ([26, 28, 25], [25, 26, 28]), ([29, 25], [25, 29]), ([30, 25], [25, 30]), ([25], [25]), ([25], [25]), ([32, 33, 25], [25, 32, 33]), ([34, 25], [25, 34]), ([35, 25], [25, 35]), ([31, 36, 25], [25, 31, 36]), ([25, 37, 12], [12, 25, 37]), ([12, 38], [12, 38])])
def treemergelaw31_ChangeComplete.B11 : List Nat := [0, 0, 2, 7, 15, 31, 0, 0, 192, 448, 960, 2047, 4095, 8191, 8191, 24575, 65535, 131071, 262143, 8191, 8191, 1581055, 3678207, 7872511, 16777215, 33554431, 67108863, 67108863, 201326591, 536870911, 1073741823, 2147483647, 67108863, 67108863, 12952010751, 30131879935, 64491618303, 137438953471, 274877906943, 549755813887]
theorem treemergelaw31_ChangeComplete.tab11 : rtab .any (opsOf Try.f6 11) = treemergelaw31_ChangeComplete.T11 := by kernel_rfl
theorem treemergelaw31_ChangeComplete.bits11 : waitsOk treemergelaw31_ChangeComplete.T11.2 treemergelaw31_ChangeComplete.B11 = true := by kernel_rfl
set_option maxHeartbeats 8000000 in
set_option maxRecDepth 100000 in
theorem treemergelaw31_ChangeComplete.calls (k : Nat) (a0_0 : Int) (a0_1 : ByteArray) (A0_2 : Option Addr) (c0_2 : Nat) (l0_2 : List ByteArray) (A0_3 : Option Addr) (c0_3 : Nat) (l0_3 : List (S25)) (A0_4 : Option Addr) (c0_4 : Nat) (l0_4 : List Int) (a1_0 : Int) (a1_1 : ByteArray) (A1_2 : Option Addr) (c1_2 : Nat) (l1_2 : List ByteArray) (A1_3 : Option Addr) (c1_3 : Nat) (l1_3 : List (S25)) (A1_4 : Option Addr) (c1_4 : Nat) (l1_4 : List Int) (r : Bool) (w : World) (hr0_2 : Kd.C Kd.string w A0_2 l0_2.length l0_2) (hc0_2 : l0_2.length ≤ c0_2) (hr0_3 : Kd.C k25 w A0_3 l0_3.length l0_3) (hc0_3 : l0_3.length ≤ c0_3) (hr0_4 : Kd.C (Kd.int .i64) w A0_4 l0_4.length l0_4) (hc0_4 : l0_4.length ≤ c0_4) (hr1_2 : Kd.C Kd.string w A1_2 l1_2.length l1_2) (hc1_2 : l1_2.length ≤ c1_2) (hr1_3 : Kd.C k25 w A1_3 l1_3.length l1_3) (hc1_3 : l1_3.length ≤ c1_3) (hr1_4 : Kd.C (Kd.int .i64) w A1_4 l1_4.length l1_4) (hc1_4 : l1_4.length ≤ c1_4) (h : treemergelaw31_ChangeComplete.f k a0_0 a0_1 l0_2 l0_3 l0_4 a1_0 a1_1 l1_2 l1_3 l1_4 = some r) :
  Calls Try.prog 6 #[.agg #[.int .i64 a0_0, .string a0_1, .slice A0_2 l0_2.length c0_2, .slice A0_3 l0_3.length c0_3, .slice A0_4 l0_4.length c0_4], .agg #[.int .i64 a1_0, .string a1_1, .slice A1_2 l1_2.length c1_2, .slice A1_3 l1_3.length c1_3, .slice A1_4 l1_4.length c1_4]] w fun e w' => e = .returned (.bool r) ∧ Below w.heap.size w w' := by
 have hu28 := Try.underlying28
 have hu25 := Try.underlying25
 have HR0_2 := Aside0.mk hr0_2
 have HC0_2 := Aside0.mk hc0_2
 clear hr0_2 hc0_2
 have HR0_3 := Aside0.mk hr0_3
 have HC0_3 := Aside0.mk hc0_3
 clear hr0_3 hc0_3
 have HR0_4 := Aside0.mk hr0_4
 have HC0_4 := Aside0.mk hc0_4
 clear hr0_4 hc0_4
 have HR1_2 := Aside0.mk hr1_2
 have HC1_2 := Aside0.mk hc1_2
 clear hr1_2 hc1_2
 have HR1_3 := Aside0.mk hr1_3
 have HC1_3 := Aside0.mk hc1_3
 clear hr1_3 hc1_3
 have HR1_4 := Aside0.mk hr1_4
 have HC1_4 := Aside0.mk hc1_4
 clear hr1_4 hc1_4
 have HB := Aside0.mk (Below.refl w.heap.size w)
 have H : ((treemergelaw31_fits.f k a0_0 a0_1 l0_2 l0_3 l0_4).bind fun t309 => (if t309 = true then ((treemergelaw31_fits.f k a1_0 a1_1 l1_2 l1_3 l1_4).bind fun t310 => (treemergelaw31_ChangeComplete.j0 k (!t310) a0_0 a0_1 l0_2 l0_3 l0_4 a1_0 a1_1 l1_2 l1_3 l1_4)) else (treemergelaw31_ChangeComplete.j0 k true a0_0 a0_1 l0_2 l0_3 l0_4 a1_0 a1_1 l1_2 l1_3 l1_4))) = some r := h
 clear h
 have HC3 := Aside0.mk H
 clear H
 go_enter Try.func6, Try.ntmps6
 go_upto_region 1 with (first | ((with_reducible refine gate_dst (N := 2) rfl ?_); (try (refine gate_guard (by rfl) ?_; dsimp only)); refine box_event ?hg (N := 2) ?hd (cs := #[.int .i64 a0_0, .string a0_1, .slice A0_2 l0_2.length c0_2, .slice A0_3 l0_3.length c0_3, .slice A0_4 l0_4.length c0_4]) (t := 28) ?hr ?_; (case hd => rfl); (case hg => rfl); (case hr => first | (go_simp; done) | (go_simp; rfl) | (obtain ⟨_, _, rfl⟩ := Kd.R_slice (Aside0.out (by assumption : Aside0 (Kd.R _ _ _ _ _ _ _))); go_simp; done)); intro gb307 hg w4 hbox hb; have n0_ := Aside0.mk (below_step (BX HB.out) hb); have n1_ := Aside0.mk (hbox); have n2_ := Aside0.mk ((by rw [hg]; exact (below_size (BX HB.out)) : w.heap.size ≤ gb307)); have n3_ := Aside0.mk ((by rw [hg]; exact (below_size (BX HB.out)) : w.heap.size ≤ gb307)); clear HB; have HB := n0_; have BK307 := n1_; have GW307 := n2_; have GE307 := n3_; clear n0_ n1_ n2_ n3_; clear hb hbox hg) | ((with_reducible refine gate_dst (N := 3) rfl ?_); (try (refine gate_guard (by rfl) ?_; dsimp only)); refine box_event ?hg (N := 3) ?hd (cs := #[.int .i64 a1_0, .string a1_1, .slice A1_2 l1_2.length c1_2, .slice A1_3 l1_3.length c1_3, .slice A1_4 l1_4.length c1_4]) (t := 28) ?hr ?_; (case hd => rfl); (case hg => rfl); (case hr => first | (go_simp; done) | (go_simp; rfl) | (obtain ⟨_, _, rfl⟩ := Kd.R_slice (Aside0.out (by assumption : Aside0 (Kd.R _ _ _ _ _ _ _))); go_simp; done)); intro gb308 hg w5 hbox hb; have n0_ := Aside0.mk (blk_below (g := gb307) (o := .cells #[.int .i64 a0_0, .string a0_1, .slice A0_2 l0_2.length c0_2, .slice A0_3 l0_3.length c0_3, .slice A0_4 l0_4.length c0_4] 28 (0, 0)) (by (with_reducible repeat (first | refine blk_drewN ?_ _ | refine blk_drew ?_ | refine blk_alloc ?_ _)); exact BK307.out) hb); have n1_ := Aside0.mk (below_step (by repeat (first | (with_reducible first | exact HB.out | apply below_alloc | apply pw_below_drewN | apply below_drew1 | refine below_set ?_ GE307.out) | exact HB.out)) hb); have n2_ := Aside0.mk (hbox); have n3_ := Aside0.mk ((by rw [hg]; exact (below_size (by repeat (first | (with_reducible first | exact HB.out | apply below_alloc | apply pw_below_drewN | apply below_drew1 | refine below_set ?_ GE307.out) | exact HB.out))) : w.heap.size ≤ gb308)); have n4_ := Aside0.mk ((by rw [hg]; exact (below_size (by repeat (first | (with_reducible first | exact HB.out | apply below_alloc | apply pw_below_drewN | apply below_drew1 | refine below_set ?_ GE307.out) | exact HB.out))) : w.heap.size ≤ gb308)); have n5_ := Aside0.mk ((by rw [hg]; exact Nat.ne_of_lt (blk_lt (g := gb307) (o := .cells #[.int .i64 a0_0, .string a0_1, .slice A0_2 l0_2.length c0_2, .slice A0_3 l0_3.length c0_3, .slice A0_4 l0_4.length c0_4] 28 (0, 0)) (by (with_reducible repeat (first | refine blk_drewN ?_ _ | refine blk_drew ?_ | refine blk_alloc ?_ _)); exact BK307.out)) : gb307 ≠ gb308)); have n6_ := Aside0.mk ((by rw [hg]; exact Nat.ne_of_gt (blk_lt (g := gb307) (o := .cells #[.int .i64 a0_0, .string a0_1, .slice A0_2 l0_2.length c0_2, .slice A0_3 l0_3.length c0_3, .slice A0_4 l0_4.length c0_4] 28 (0, 0)) (by (with_reducible repeat (first | refine blk_drewN ?_ _ | refine blk_drew ?_ | refine blk_alloc ?_ _)); exact BK307.out)) : gb308 ≠ gb307)); clear BK307; clear HB; have BK307 := n0_; have HB := n1_; have BK308 := n2_; have GW308 := n3_; have GE308 := n4_; have NB307_308 := n5_; have NB308_307 := n6_; clear n0_ n1_ n2_ n3_ n4_ n5_ n6_; clear hb hbox hg))
 (try simp only [Act.put, List.setIfInBounds_toArray, List.set_cons_zero, List.set_cons_succ])
 go_cut [15] (fun v15 wc => ∃ (kq : Nat) (x15_2 : Bool), v15 = .bool x15_2 ∧ Aside0 (treemergelaw31_ChangeComplete.j0 kq x15_2 a0_0 a0_1 l0_2 l0_3 l0_4 a1_0 a1_1 l1_2 l1_3 l1_4 = some r) ∧ Aside0 (kq ≤ k) ∧ Aside0 (wc.heap[gb307]? = some (.cells #[.int .i64 a0_0, .string a0_1, (.slice A0_2 l0_2.length c0_2), (.slice A0_3 l0_3.length c0_3), (.slice A0_4 l0_4.length c0_4)] 28 (0, 0))) ∧ Aside0 (wc.heap[gb308]? = some (.cells #[.int .i64 a1_0, .string a1_1, (.slice A1_2 l1_2.length c1_2), (.slice A1_3 l1_3.length c1_3), (.slice A1_4 l1_4.length c1_4)] 28 (0, 0))) ∧ Aside0 (Below w.heap.size w wc))
 case first =>
  have H := HC3.out
  clear HC3
  replace H := Option.bind_eq_some_iff.mp H
  obtain ⟨t309, A60, H⟩ := H
  have A6 := Aside0.mk A60
  clear A60
  by_cases c7 : t309 = true
  ·subst c7
   have H1 : ((treemergelaw31_fits.f k a1_0 a1_1 l1_2 l1_3 l1_4).bind fun t310 => (treemergelaw31_ChangeComplete.j0 k (!t310) a0_0 a0_1 l0_2 l0_3 l0_4 a1_0 a1_1 l1_2 l1_3 l1_4)) = some r := by rw [if_pos rfl] at H; exact H
   clear H
   have H := H1
   clear H1
   replace H := Option.bind_eq_some_iff.mp H
   obtain ⟨t310, A80, H⟩ := H
   have A8 := Aside0.mk A80
   clear A80
   have H' := Aside0.mk H
   clear H
   have hnb9 := NB307_308.out
   have hnc9 := NB308_307.out
   have hcz10_0 : w5.cell? ⟨gb307, 0, none⟩ = some (.int .i64 a0_0) := (blk_cell BK307.out 0).trans rfl
   have hcz10_1 : w5.cell? ⟨gb307, 1, none⟩ = some (.string a0_1) := (blk_cell BK307.out 1).trans rfl
   have hcz10_2 : w5.cell? ⟨gb307, 2, none⟩ = some (.slice A0_2 l0_2.length c0_2) := (blk_cell BK307.out 2).trans rfl
   have hcz10_3 : w5.cell? ⟨gb307, 3, none⟩ = some (.slice A0_3 l0_3.length c0_3) := (blk_cell BK307.out 3).trans rfl
   have hcz10_4 : w5.cell? ⟨gb307, 4, none⟩ = some (.slice A0_4 l0_4.length c0_4) := (blk_cell BK307.out 4).trans rfl
   have hfz10_0 := blk_frozen BK307.out 0
   have hfz10_1 := blk_frozen BK307.out 1
   have hfz10_2 := blk_frozen BK307.out 2
   have hfz10_3 := blk_frozen BK307.out 3
   have hfz10_4 := blk_frozen BK307.out 4
   go_wp2_with (first | ((with_reducible refine gate_callee (f := 8) rfl ?_); refine goesL_ (some 9) rfl rfl Try.func8 (by kernel_rfl) rfl #[.agg #[.int .i64 a0_0, .string a0_1, .slice A0_2 l0_2.length c0_2, .slice A0_3 l0_3.length c0_3, .slice A0_4 l0_4.length c0_4]] rfl MX ?_; (with_reducible refine (treemergelaw31_fits.calls k a0_0 a0_1 _ _ l0_2 _ _ l0_3 _ _ l0_4 true _ ?side1 ?side2 ?side3 ?side4 ?side5 ?side6 A6.out).mono ?_); (case side1 => exact CX (Kd.C_below HR0_2.out HB.out)); (case side2 => exact HC0_2.out); (case side3 => exact CX (Kd.C_below HR0_3.out HB.out)); (case side4 => exact HC0_3.out); (case side5 => exact CX (Kd.C_below HR0_4.out HB.out)); (case side6 => exact HC0_4.out); rintro e w11 ⟨rfl, hb⟩; refine ⟨_, rfl, ?_⟩; have n0_ := Aside0.mk (blk_below (g := gb307) (o := .cells #[.int .i64 a0_0, .string a0_1, .slice A0_2 l0_2.length c0_2, .slice A0_3 l0_3.length c0_3, .slice A0_4 l0_4.length c0_4] 28 (0, 0)) (by (with_reducible repeat (first | refine blk_drewN ?_ _ | refine blk_drew ?_ | refine blk_alloc ?_ _)); exact BK307.out) hb); have n1_ := Aside0.mk (blk_below (g := gb308) (o := .cells #[.int .i64 a1_0, .string a1_1, .slice A1_2 l1_2.length c1_2, .slice A1_3 l1_3.length c1_3, .slice A1_4 l1_4.length c1_4] 28 (0, 0)) (by (with_reducible repeat (first | refine blk_drewN ?_ _ | refine blk_drew ?_ | refine blk_alloc ?_ _)); exact BK308.out) hb); have n2_ := Aside0.mk (below_step (by repeat (first | (with_reducible first | exact HB.out | apply below_alloc | apply pw_below_drewN | apply below_drew1 | refine below_set ?_ GE307.out | refine below_set ?_ GE308.out) | exact HB.out)) hb); clear BK307; clear BK308; clear HB; have BK307 := n0_; have BK308 := n1_; have HB := n2_; clear n0_ n1_ n2_; (try clear hb); (try clear hb2); (try clear hk); (try clear hi); have hcz12_0 : w11.cell? ⟨gb308, 0, none⟩ = some (.int .i64 a1_0) := (blk_cell BK308.out 0).trans rfl; have hcz12_1 : w11.cell? ⟨gb308, 1, none⟩ = some (.string a1_1) := (blk_cell BK308.out 1).trans rfl; have hcz12_2 : w11.cell? ⟨gb308, 2, none⟩ = some (.slice A1_2 l1_2.length c1_2) := (blk_cell BK308.out 2).trans rfl; have hcz12_3 : w11.cell? ⟨gb308, 3, none⟩ = some (.slice A1_3 l1_3.length c1_3) := (blk_cell BK308.out 3).trans rfl; have hcz12_4 : w11.cell? ⟨gb308, 4, none⟩ = some (.slice A1_4 l1_4.length c1_4) := (blk_cell BK308.out 4).trans rfl; have hfz12_0 := blk_frozen BK308.out 0; have hfz12_1 := blk_frozen BK308.out 1; have hfz12_2 := blk_frozen BK308.out 2; have hfz12_3 := blk_frozen BK308.out 3; have hfz12_4 := blk_frozen BK308.out 4) | (go_at_call 8; (with_reducible refine (treemergelaw31_fits.calls k a1_0 a1_1 _ _ l1_2 _ _ l1_3 _ _ l1_4 t310 _ ?side1 ?side2 ?side3 ?side4 ?side5 ?side6 A8.out).mono ?_); (case side1 => exact CX (Kd.C_below HR1_2.out HB.out)); (case side2 => exact HC1_2.out); (case side3 => exact CX (Kd.C_below HR1_3.out HB.out)); (case side4 => exact HC1_3.out); (case side5 => exact CX (Kd.C_below HR1_4.out HB.out)); (case side6 => exact HC1_4.out); rintro e w13 ⟨rfl, hb⟩; have n0_ := Aside0.mk (blk_below (g := gb307) (o := .cells #[.int .i64 a0_0, .string a0_1, .slice A0_2 l0_2.length c0_2, .slice A0_3 l0_3.length c0_3, .slice A0_4 l0_4.length c0_4] 28 (0, 0)) (by (with_reducible repeat (first | refine blk_drewN ?_ _ | refine blk_drew ?_ | refine blk_alloc ?_ _)); exact BK307.out) hb); have n1_ := Aside0.mk (blk_below (g := gb308) (o := .cells #[.int .i64 a1_0, .string a1_1, .slice A1_2 l1_2.length c1_2, .slice A1_3 l1_3.length c1_3, .slice A1_4 l1_4.length c1_4] 28 (0, 0)) (by (with_reducible repeat (first | refine blk_drewN ?_ _ | refine blk_drew ?_ | refine blk_alloc ?_ _)); exact BK308.out) hb); have n2_ := Aside0.mk (below_step (by repeat (first | (with_reducible first | exact HB.out | apply below_alloc | apply pw_below_drewN | apply below_drew1 | refine below_set ?_ GE307.out | refine below_set ?_ GE308.out) | exact HB.out)) hb); clear BK307; clear BK308; clear HB; have BK307 := n0_; have BK308 := n1_; have HB := n2_; clear n0_ n1_ n2_; (try clear hb); (try clear hb2); (try clear hk); (try clear hi)))
   go_meet
   case rel => exact ⟨_, (!t310), SX, H', ⟨by first | omega | exact Nat.le_refl _⟩, ⟨by (with_reducible repeat (first | refine blk_drewN ?_ _ | refine blk_drew ?_ | refine blk_alloc ?_ _)); exact BK307.out⟩, ⟨by (with_reducible repeat (first | refine blk_drewN ?_ _ | refine blk_drew ?_ | refine blk_alloc ?_ _)); exact BK308.out⟩, ⟨by repeat (first | (with_reducible first | exact HB.out | apply below_alloc | apply pw_below_drewN | apply below_drew1 | refine below_set ?_ GE307.out | refine below_set ?_ GE308.out) | exact HB.out)⟩⟩
  ·replace c7 := Bool.eq_false_iff.mpr c7
   subst c7
   have H1 : (treemergelaw31_ChangeComplete.j0 k true a0_0 a0_1 l0_2 l0_3 l0_4 a1_0 a1_1 l1_2 l1_3 l1_4) = some r := by rw [if_neg (show ¬ (false = true) by decide)] at H; exact H
   clear H
   have H := H1
   clear H1
   have H' := Aside0.mk H
   clear H
   have hnb14 := NB307_308.out
   have hnc14 := NB308_307.out
   have hcz15_0 : w5.cell? ⟨gb307, 0, none⟩ = some (.int .i64 a0_0) := (blk_cell BK307.out 0).trans rfl
   have hcz15_1 : w5.cell? ⟨gb307, 1, none⟩ = some (.string a0_1) := (blk_cell BK307.out 1).trans rfl
   have hcz15_2 : w5.cell? ⟨gb307, 2, none⟩ = some (.slice A0_2 l0_2.length c0_2) := (blk_cell BK307.out 2).trans rfl
   have hcz15_3 : w5.cell? ⟨gb307, 3, none⟩ = some (.slice A0_3 l0_3.length c0_3) := (blk_cell BK307.out 3).trans rfl
   have hcz15_4 : w5.cell? ⟨gb307, 4, none⟩ = some (.slice A0_4 l0_4.length c0_4) := (blk_cell BK307.out 4).trans rfl
   have hfz15_0 := blk_frozen BK307.out 0
   have hfz15_1 := blk_frozen BK307.out 1
   have hfz15_2 := blk_frozen BK307.out 2
   have hfz15_3 := blk_frozen BK307.out 3
   have hfz15_4 := blk_frozen BK307.out 4
   go_wp2_with (first | ((with_reducible refine gate_callee (f := 8) rfl ?_); refine goesL_ (some 9) rfl rfl Try.func8 (by kernel_rfl) rfl #[.agg #[.int .i64 a0_0, .string a0_1, .slice A0_2 l0_2.length c0_2, .slice A0_3 l0_3.length c0_3, .slice A0_4 l0_4.length c0_4]] rfl MX ?_; (with_reducible refine (treemergelaw31_fits.calls k a0_0 a0_1 _ _ l0_2 _ _ l0_3 _ _ l0_4 false _ ?side1 ?side2 ?side3 ?side4 ?side5 ?side6 A6.out).mono ?_); (case side1 => exact CX (Kd.C_below HR0_2.out HB.out)); (case side2 => exact HC0_2.out); (case side3 => exact CX (Kd.C_below HR0_3.out HB.out)); (case side4 => exact HC0_3.out); (case side5 => exact CX (Kd.C_below HR0_4.out HB.out)); (case side6 => exact HC0_4.out); rintro e w16 ⟨rfl, hb⟩; refine ⟨_, rfl, ?_⟩; have n0_ := Aside0.mk (blk_below (g := gb307) (o := .cells #[.int .i64 a0_0, .string a0_1, .slice A0_2 l0_2.length c0_2, .slice A0_3 l0_3.length c0_3, .slice A0_4 l0_4.length c0_4] 28 (0, 0)) (by (with_reducible repeat (first | refine blk_drewN ?_ _ | refine blk_drew ?_ | refine blk_alloc ?_ _)); exact BK307.out) hb); have n1_ := Aside0.mk (blk_below (g := gb308) (o := .cells #[.int .i64 a1_0, .string a1_1, .slice A1_2 l1_2.length c1_2, .slice A1_3 l1_3.length c1_3, .slice A1_4 l1_4.length c1_4] 28 (0, 0)) (by (with_reducible repeat (first | refine blk_drewN ?_ _ | refine blk_drew ?_ | refine blk_alloc ?_ _)); exact BK308.out) hb); have n2_ := Aside0.mk (below_step (by repeat (first | (with_reducible first | exact HB.out | apply below_alloc | apply pw_below_drewN | apply below_drew1 | refine below_set ?_ GE307.out | refine below_set ?_ GE308.out) | exact HB.out)) hb); clear BK307; clear BK308; clear HB; have BK307 := n0_; have BK308 := n1_; have HB := n2_; clear n0_ n1_ n2_; (try clear hb); (try clear hb2); (try clear hk); (try clear hi)))
   go_meet
   case rel => exact ⟨_, (true), SX, H', ⟨by first | omega | exact Nat.le_refl _⟩, ⟨by (with_reducible repeat (first | refine blk_drewN ?_ _ | refine blk_drew ?_ | refine blk_alloc ?_ _)); exact BK307.out⟩, ⟨by (with_reducible repeat (first | refine blk_drewN ?_ _ | refine blk_drew ?_ | refine blk_alloc ?_ _)); exact BK308.out⟩, ⟨by repeat (first | (with_reducible first | exact HB.out | apply below_alloc | apply pw_below_drewN | apply below_drew1 | refine below_set ?_ GE307.out | refine below_set ?_ GE308.out) | exact HB.out)⟩⟩
 case rest =>
  clear HC3
  try clear c1
  try clear p2
  try clear c6
  try clear c7
  try clear c8
  try clear c9
  try clear c14
  try clear hcz10_0
  try clear hcz10_1
  try clear hcz10_2
  try clear hcz10_3
  try clear hcz10_4
  try clear hcz12_0
  try clear hcz12_1
  try clear hcz12_2
  try clear hcz12_3
  try clear hcz12_4
  try clear hcz15_0
  try clear hcz15_1
  try clear hcz15_2
  try clear hcz15_3
  try clear hcz15_4
  try clear hfz10_0
  try clear hfz10_1
  try clear hfz10_2
  try clear hfz10_3
  try clear hfz10_4
  try clear hfz12_0
  try clear hfz12_1
  try clear hfz12_2
  try clear hfz12_3
  try clear hfz12_4
  try clear hfz15_0
  try clear hfz15_1
  try clear hfz15_2
  try clear hfz15_3
  try clear hfz15_4
  obtain ⟨kq, x15_2, rfl, HA, HJ2, BK307, BK308, HB⟩ := hcut
  cases kq with
  | zero => exact absurd HA.out (by simp [treemergelaw31_ChangeComplete.j0])
  | succ kj2 =>
   have H := HA.out
   clear HA
   simp only [treemergelaw31_ChangeComplete.j0] at H
   by_cases c17 : x15_2 = true
   ·subst c17
    have H1 : ((treemergelaw31_awake.f).bind fun t311 => (some t311)) = some r := by rw [if_pos rfl] at H; exact H
    clear H
    have H := H1
    clear H1
    replace H := Option.bind_eq_some_iff.mp H
    obtain ⟨t311, A180, H⟩ := H
    have A18 := Aside0.mk A180
    clear A180
    obtain rfl := Option.some.inj H
    go_wp2_with (first | ((with_reducible refine gate_callee (f := 9) rfl ?_); refine goesL_ (some 16) rfl rfl Try.func9 (by kernel_rfl) rfl #[] rfl MX ?_; (with_reducible refine (treemergelaw31_awake.calls  t311 _ A18.out).mono ?_); rintro e w19 ⟨rfl, hb⟩; refine ⟨_, rfl, ?_⟩; have n0_ := Aside0.mk (blk_below (g := gb307) (o := .cells #[.int .i64 a0_0, .string a0_1, .slice A0_2 l0_2.length c0_2, .slice A0_3 l0_3.length c0_3, .slice A0_4 l0_4.length c0_4] 28 (0, 0)) (by (with_reducible repeat (first | refine blk_drewN ?_ _ | refine blk_drew ?_ | refine blk_alloc ?_ _)); exact BK307.out) hb); have n1_ := Aside0.mk (blk_below (g := gb308) (o := .cells #[.int .i64 a1_0, .string a1_1, .slice A1_2 l1_2.length c1_2, .slice A1_3 l1_3.length c1_3, .slice A1_4 l1_4.length c1_4] 28 (0, 0)) (by (with_reducible repeat (first | refine blk_drewN ?_ _ | refine blk_drew ?_ | refine blk_alloc ?_ _)); exact BK308.out) hb); have n2_ := Aside0.mk (below_step (by repeat (first | (with_reducible first | exact HB.out | apply below_alloc | apply pw_below_drewN | apply below_drew1 | refine below_set ?_ GE307.out | refine below_set ?_ GE308.out) | exact HB.out)) hb); clear BK307; clear BK308; clear HB; have BK307 := n0_; have BK308 := n1_; have HB := n2_; clear n0_ n1_ n2_; (try clear hb); (try clear hb2); (try clear hk); (try clear hi)))
    go_ret
    exact ⟨by first | rfl | (simp [errW_none, errW_some] <;> rfl) | (simp [*, errW_none, errW_some] <;> rfl), by repeat (first | (with_reducible first | exact HB.out | apply below_alloc | apply pw_below_drewN | apply below_drew1 | refine below_set ?_ GE307.out | refine below_set ?_ GE308.out) | exact HB.out)⟩
   ·replace c17 := Bool.eq_false_iff.mpr c17
    subst c17
    have H1 : ((change_List.f a0_0 a0_1 l0_2 l0_3 a1_0 a1_1 l1_2 l1_3 l0_4 l1_4).bind fun bt312 => (if bt312.2 = 0 then ((treemergeref06_Size.f kj2 a0_0 a0_1 l0_2 l0_3).bind fun t317 => (if (l0_4.length : Int) = t317 then ((treemergeref06_Size.f kj2 a1_0 a1_1 l1_2 l1_3).bind fun t318 => (if (l1_4.length : Int) = t318 then ((treemergelaw31_agree.f kj2 a0_0 a0_1 l0_2 l0_3 l0_4 a1_0 a1_1 l1_2 l1_3 l1_4).bind fun t319 => (treemergelaw31_ChangeComplete.j1 kj2 bt312.1 (((bt312.1.length : Int) == 0) != t319))) else (treemergelaw31_ChangeComplete.j1 kj2 bt312.1 true))) else (treemergelaw31_ChangeComplete.j1 kj2 bt312.1 true))) else (if (bt312.1.length : Int) = 0 then ((treemergelaw31_awake.f).bind fun t316 => (some t316)) else (some false)))) = some r := by rw [if_neg (show ¬ (false = true) by decide)] at H; exact H
    clear H
    have H := H1
    clear H1
    replace H := Option.bind_eq_some_iff.mp H
    obtain ⟨⟨t312, t315⟩, A200, H⟩ := H
    replace H : (if t315 = 0 then ((treemergeref06_Size.f kj2 a0_0 a0_1 l0_2 l0_3).bind fun t317 => (if (l0_4.length : Int) = t317 then ((treemergeref06_Size.f kj2 a1_0 a1_1 l1_2 l1_3).bind fun t318 => (if (l1_4.length : Int) = t318 then ((treemergelaw31_agree.f kj2 a0_0 a0_1 l0_2 l0_3 l0_4 a1_0 a1_1 l1_2 l1_3 l1_4).bind fun t319 => (treemergelaw31_ChangeComplete.j1 kj2 t312 (((t312.length : Int) == 0) != t319))) else (treemergelaw31_ChangeComplete.j1 kj2 t312 true))) else (treemergelaw31_ChangeComplete.j1 kj2 t312 true))) else (if (t312.length : Int) = 0 then ((treemergelaw31_awake.f).bind fun t316 => (some t316)) else (some false))) = some r := H
    have A20 := Aside0.mk A200
    clear A200
    by_cases c21 : t315 = 0
    ·rw [if_pos c21] at H
     have c21b0 : (t315 == 0) = true := beq_iff_eq.mpr c21
     have c21b1 : (t315 != 0) = false := bne_eq_false_iff_eq.mpr c21
     clear c21
     have HC22 := Aside0.mk H
     clear H
     have hnb23 := NB307_308.out
     have hnc23 := NB308_307.out
     have hcz24_0 : wc.cell? ⟨gb307, 0, none⟩ = some (.int .i64 a0_0) := (blk_cell BK307.out 0).trans rfl
     have hcz24_1 : wc.cell? ⟨gb307, 1, none⟩ = some (.string a0_1) := (blk_cell BK307.out 1).trans rfl
     have hcz24_2 : wc.cell? ⟨gb307, 2, none⟩ = some (.slice A0_2 l0_2.length c0_2) := (blk_cell BK307.out 2).trans rfl
     have hcz24_3 : wc.cell? ⟨gb307, 3, none⟩ = some (.slice A0_3 l0_3.length c0_3) := (blk_cell BK307.out 3).trans rfl
     have hcz24_4 : wc.cell? ⟨gb307, 4, none⟩ = some (.slice A0_4 l0_4.length c0_4) := (blk_cell BK307.out 4).trans rfl
     have hfz24_0 := blk_frozen BK307.out 0
     have hfz24_1 := blk_frozen BK307.out 1
     have hfz24_2 := blk_frozen BK307.out 2
     have hfz24_3 := blk_frozen BK307.out 3
     have hfz24_4 := blk_frozen BK307.out 4
     have hcz25_0 : wc.cell? ⟨gb308, 0, none⟩ = some (.int .i64 a1_0) := (blk_cell BK308.out 0).trans rfl
     have hcz25_1 : wc.cell? ⟨gb308, 1, none⟩ = some (.string a1_1) := (blk_cell BK308.out 1).trans rfl
     have hcz25_2 : wc.cell? ⟨gb308, 2, none⟩ = some (.slice A1_2 l1_2.length c1_2) := (blk_cell BK308.out 2).trans rfl
     have hcz25_3 : wc.cell? ⟨gb308, 3, none⟩ = some (.slice A1_3 l1_3.length c1_3) := (blk_cell BK308.out 3).trans rfl
     have hcz25_4 : wc.cell? ⟨gb308, 4, none⟩ = some (.slice A1_4 l1_4.length c1_4) := (blk_cell BK308.out 4).trans rfl
     have hfz25_0 := blk_frozen BK308.out 0
     have hfz25_1 := blk_frozen BK308.out 1
     have hfz25_2 := blk_frozen BK308.out 2
     have hfz25_3 := blk_frozen BK308.out 3
     have hfz25_4 := blk_frozen BK308.out 4
     go_upto_region 6 with (first | ((with_reducible refine gate_callee (f := 10) rfl ?_); refine goesL_ (some 26) rfl rfl Try.func10 (by kernel_rfl) rfl #[.agg #[.int .i64 a0_0, .string a0_1, .slice A0_2 l0_2.length c0_2, .slice A0_3 l0_3.length c0_3], .agg #[.int .i64 a1_0, .string a1_1, .slice A1_2 l1_2.length c1_2, .slice A1_3 l1_3.length c1_3], .slice A0_4 l0_4.length c0_4, .slice A1_4 l1_4.length c1_4] rfl MX ?_; (with_reducible refine (change_List.calls a0_0 a0_1 _ _ l0_2 _ _ l0_3 a1_0 a1_1 _ _ l1_2 _ _ l1_3 _ _ l0_4 _ _ l1_4 t312 t315 _ ?side1 ?side2 ?side3 ?side4 ?side5 ?side6 ?side7 ?side8 ?side9 ?side10 ?side11 ?side12 A20.out).mono ?_); (case side1 => exact CX (Kd.C_below HR0_2.out HB.out)); (case side2 => exact HC0_2.out); (case side3 => exact CX (Kd.C_below HR0_3.out HB.out)); (case side4 => exact HC0_3.out); (case side5 => exact CX (Kd.C_below HR1_2.out HB.out)); (case side6 => exact HC1_2.out); (case side7 => exact CX (Kd.C_below HR1_3.out HB.out)); (case side8 => exact HC1_3.out); (case side9 => exact CX (Kd.C_below HR0_4.out HB.out)); (case side10 => exact HC0_4.out); (case side11 => exact CX (Kd.C_below HR1_4.out HB.out)); (case side12 => exact HC1_4.out); rintro e w26 ⟨v313, rfl, ho0, hb⟩; refine ⟨_, rfl, ?_⟩; have n0_ := Aside0.mk (Kd.R_lower ho0 (below_size (by repeat (first | (with_reducible first | exact HB.out | apply below_alloc | apply pw_below_drewN | apply below_drew1 | refine below_set ?_ GE307.out | refine below_set ?_ GE308.out) | exact HB.out)))); have n1_ := Aside0.mk (blk_below (g := gb307) (o := .cells #[.int .i64 a0_0, .string a0_1, .slice A0_2 l0_2.length c0_2, .slice A0_3 l0_3.length c0_3, .slice A0_4 l0_4.length c0_4] 28 (0, 0)) (by (with_reducible repeat (first | refine blk_drewN ?_ _ | refine blk_drew ?_ | refine blk_alloc ?_ _)); exact BK307.out) hb); have n2_ := Aside0.mk (blk_below (g := gb308) (o := .cells #[.int .i64 a1_0, .string a1_1, .slice A1_2 l1_2.length c1_2, .slice A1_3 l1_3.length c1_3, .slice A1_4 l1_4.length c1_4] 28 (0, 0)) (by (with_reducible repeat (first | refine blk_drewN ?_ _ | refine blk_drew ?_ | refine blk_alloc ?_ _)); exact BK308.out) hb); have n3_ := Aside0.mk (below_step (by repeat (first | (with_reducible first | exact HB.out | apply below_alloc | apply pw_below_drewN | apply below_drew1 | refine below_set ?_ GE307.out | refine below_set ?_ GE308.out) | exact HB.out)) hb); clear BK307; clear BK308; clear HB; have HO314 := n0_; have BK307 := n1_; have BK308 := n2_; have HB := n3_; clear n0_ n1_ n2_ n3_; (try clear hb); (try clear hb2); (try clear hk); (try clear hi); (try clear ho0)))
     (try simp only [Act.put, List.setIfInBounds_toArray, List.set_cons_zero, List.set_cons_succ])
     go_cut [61] (fun v61 wc => ∃ (kq : Nat) (x61_21 : Bool), v61 = .bool x61_21 ∧ Aside0 (treemergelaw31_ChangeComplete.j1 kq t312 x61_21 = some r) ∧ Aside0 (kq ≤ kj2) ∧ Aside0 (Kd.R k48 48 wc w.heap.size (fun _ => True) v313 t312) ∧ Aside0 (wc.heap[gb307]? = some (.cells #[.int .i64 a0_0, .string a0_1, (.slice A0_2 l0_2.length c0_2), (.slice A0_3 l0_3.length c0_3), (.slice A0_4 l0_4.length c0_4)] 28 (0, 0))) ∧ Aside0 (wc.heap[gb308]? = some (.cells #[.int .i64 a1_0, .string a1_1, (.slice A1_2 l1_2.length c1_2), (.slice A1_3 l1_3.length c1_3), (.slice A1_4 l1_4.length c1_4)] 28 (0, 0))) ∧ Aside0 (Below w.heap.size w wc))
     case first =>
      have H := HC22.out
      clear HC22
      replace H := Option.bind_eq_some_iff.mp H
      obtain ⟨t317, A270, H⟩ := H
      have A27 := Aside0.mk A270
      clear A270
      by_cases c28 : (l0_4.length : Int) = t317
      ·rw [if_pos c28] at H
       have c28b0 : ((l0_4.length : Int) == t317) = true := beq_iff_eq.mpr c28
       have c28b1 : ((l0_4.length : Int) != t317) = false := bne_eq_false_iff_eq.mpr c28
       clear c28
       (first | rw [c28b0] | (simp only [i64_w, i32_w]; rw [c28b0]) | skip)
       replace H := Option.bind_eq_some_iff.mp H
       obtain ⟨t318, A290, H⟩ := H
       have A29 := Aside0.mk A290
       clear A290
       by_cases c30 : (l1_4.length : Int) = t318
       ·rw [if_pos c30] at H
        have c30b0 : ((l1_4.length : Int) == t318) = true := beq_iff_eq.mpr c30
        have c30b1 : ((l1_4.length : Int) != t318) = false := bne_eq_false_iff_eq.mpr c30
        clear c30
        replace H := Option.bind_eq_some_iff.mp H
        obtain ⟨t319, A310, H⟩ := H
        have A31 := Aside0.mk A310
        clear A310
        have H' := Aside0.mk H
        clear H
        try go_wp2
        have n0_ := Aside0.mk (Kd.R_drew HO314.out)
        have n1_ := Aside0.mk (blk_drew BK307.out)
        have n2_ := Aside0.mk (blk_drew BK308.out)
        have n3_ := Aside0.mk (below_drew1 HB.out)
        clear HO314
        clear BK307
        clear BK308
        clear HB
        have HO314 := n0_
        have BK307 := n1_
        have BK308 := n2_
        have HB := n3_
        clear n0_ n1_ n2_ n3_
        refine start_ (n := 25) (S := fun w' => w'.cell? ⟨gb307, 0, none⟩ = some (.int .i64 a0_0) ∧ w'.cell? ⟨gb307, 1, none⟩ = some (.string a0_1) ∧ w'.cell? ⟨gb307, 2, none⟩ = some (.slice A0_2 l0_2.length c0_2) ∧ w'.cell? ⟨gb307, 3, none⟩ = some (.slice A0_3 l0_3.length c0_3) ∧ w'.cell? ⟨gb307, 4, none⟩ = some (.slice A0_4 l0_4.length c0_4) ∧ w'.cell? ⟨gb308, 0, none⟩ = some (.int .i64 a1_0) ∧ w'.cell? ⟨gb308, 1, none⟩ = some (.string a1_1) ∧ w'.cell? ⟨gb308, 2, none⟩ = some (.slice A1_2 l1_2.length c1_2) ∧ w'.cell? ⟨gb308, 3, none⟩ = some (.slice A1_3 l1_3.length c1_3) ∧ w'.cell? ⟨gb308, 4, none⟩ = some (.slice A1_4 l1_4.length c1_4)) (ds := []) #[false, false, false, false, false, false, false, false, false, false, false, false, false, false, false, false, false, false, false, false, false, false, false, false, false] (by kernel_rfl) rfl rfl ⟨(blk_cell BK307.out 0).trans rfl, (blk_cell BK307.out 1).trans rfl, (blk_cell BK307.out 2).trans rfl, (blk_cell BK307.out 3).trans rfl, (blk_cell BK307.out 4).trans rfl, (blk_cell BK308.out 0).trans rfl, (blk_cell BK308.out 1).trans rfl, (blk_cell BK308.out 2).trans rfl, (blk_cell BK308.out 3).trans rfl, (blk_cell BK308.out 4).trans rfl⟩ (fun hHeld => ?_); refine with_tabW treemergelaw31_ChangeComplete.tab6 treemergelaw31_ChangeComplete.bits6 (fun HT_ HW_ => ?_)
        generalize w26.drew = w32 at HO314 BK307 BK308 HB hHeld ⊢
        refine PU 0 37 HT_ ?_
        refine PU 3 40 HT_ ?_
        refine TU 1 38 HT_ HW_ hHeld ?_
        refine PU 2 39 HT_ ?_
        refine TU 4 41 HT_ HW_ hHeld ?_
        refine one_ (i := 5) (N := some 42) #[true, true, true, true, true, true, false, false, false, false, false, false, false, false, false, false, false, false, false, false, false, false, false, false, false] rfl rfl (one_of HT_.out (by kernel_rfl)) (by decide) (fun K hK => ?_)
        refine goes_ Try.func19 (by kernel_rfl) rfl #[.agg #[.int .i64 a0_0, .string a0_1, .slice A0_2 l0_2.length c0_2, .slice A0_3 l0_3.length c0_3]] (by rfl) rfl rfl MX ?_
        with_reducible refine (treemergeref06_Size.calls kj2 a0_0 a0_1 _ _ l0_2 _ _ l0_3 t317 _ ?side1 ?side2 ?side3 ?side4 A27.out).mono ?_
        (case side1 => exact CX (Kd.C_below HR0_2.out HB.out))
        (case side2 => exact HC0_2.out)
        (case side3 => exact CX (Kd.C_below HR0_3.out HB.out))
        (case side4 => exact HC0_3.out)
        rintro e w33 ⟨rfl, hb⟩
        refine ⟨_, rfl, ?_⟩
        have n0_ := Aside0.mk (Kd.R_below (RX HO314.out) hb)
        have n1_ := Aside0.mk (blk_below (g := gb307) (o := .cells #[.int .i64 a0_0, .string a0_1, .slice A0_2 l0_2.length c0_2, .slice A0_3 l0_3.length c0_3, .slice A0_4 l0_4.length c0_4] 28 (0, 0)) (by (with_reducible repeat (first | refine blk_drewN ?_ _ | refine blk_drew ?_ | refine blk_alloc ?_ _)); exact BK307.out) hb)
        have n2_ := Aside0.mk (blk_below (g := gb308) (o := .cells #[.int .i64 a1_0, .string a1_1, .slice A1_2 l1_2.length c1_2, .slice A1_3 l1_3.length c1_3, .slice A1_4 l1_4.length c1_4] 28 (0, 0)) (by (with_reducible repeat (first | refine blk_drewN ?_ _ | refine blk_drew ?_ | refine blk_alloc ?_ _)); exact BK308.out) hb)
        have n3_ := Aside0.mk (below_step (by repeat (first | (with_reducible first | exact HB.out | apply below_alloc | apply pw_below_drewN | apply below_drew1 | refine below_set ?_ GE307.out | refine below_set ?_ GE308.out) | exact HB.out)) hb)
        clear HO314
        clear BK307
        clear BK308
        clear HB
        have HO314 := n0_
        have BK307 := n1_
        have BK308 := n2_
        have HB := n3_
        clear n0_ n1_ n2_ n3_
        (try clear hb)
        (try clear hb2)
        (try clear hk)
        (try clear hi)
        refine hK.out _ _ ⟨(blk_cell BK307.out 0).trans rfl, (blk_cell BK307.out 1).trans rfl, (blk_cell BK307.out 2).trans rfl, (blk_cell BK307.out 3).trans rfl, (blk_cell BK307.out 4).trans rfl, (blk_cell BK308.out 0).trans rfl, (blk_cell BK308.out 1).trans rfl, (blk_cell BK308.out 2).trans rfl, (blk_cell BK308.out 3).trans rfl, (blk_cell BK308.out 4).trans rfl⟩ (fun hHeld => ?_)
        clear hK K
        refine norm_ (a' := ?_) ?_ ?_
        rotate_left
        ·show Act.put _ (some 42) _ = _
         simp only [Act.put, List.setIfInBounds_toArray, List.set_cons_zero, List.set_cons_succ, i64_w, i32_w]
         rfl
        refine PU 6 43 HT_ ?_
        refine PU 7 44 HT_ ?_
        refine PU 8 45 HT_ ?_
        refine PU 11 48 HT_ ?_
        refine TU 9 46 HT_ HW_ hHeld ?_
        refine PU 10 47 HT_ ?_
        refine TU 12 49 HT_ HW_ hHeld ?_
        refine one_ (i := 13) (N := some 50) #[true, true, true, true, true, true, true, true, true, true, true, true, true, true, false, false, false, false, false, false, false, false, false, false, false] rfl rfl (one_of HT_.out (by kernel_rfl)) (by decide) (fun K hK => ?_)
        refine goes_ Try.func19 (by kernel_rfl) rfl #[.agg #[.int .i64 a1_0, .string a1_1, .slice A1_2 l1_2.length c1_2, .slice A1_3 l1_3.length c1_3]] (by rfl) rfl rfl MX ?_
        with_reducible refine (treemergeref06_Size.calls kj2 a1_0 a1_1 _ _ l1_2 _ _ l1_3 t318 _ ?side1 ?side2 ?side3 ?side4 A29.out).mono ?_
        (case side1 => exact CX (Kd.C_below HR1_2.out HB.out))
        (case side2 => exact HC1_2.out)
        (case side3 => exact CX (Kd.C_below HR1_3.out HB.out))
        (case side4 => exact HC1_3.out)
        rintro e w34 ⟨rfl, hb⟩
        refine ⟨_, rfl, ?_⟩
        have n0_ := Aside0.mk (Kd.R_below (RX HO314.out) hb)
        have n1_ := Aside0.mk (blk_below (g := gb307) (o := .cells #[.int .i64 a0_0, .string a0_1, .slice A0_2 l0_2.length c0_2, .slice A0_3 l0_3.length c0_3, .slice A0_4 l0_4.length c0_4] 28 (0, 0)) (by (with_reducible repeat (first | refine blk_drewN ?_ _ | refine blk_drew ?_ | refine blk_alloc ?_ _)); exact BK307.out) hb)
        have n2_ := Aside0.mk (blk_below (g := gb308) (o := .cells #[.int .i64 a1_0, .string a1_1, .slice A1_2 l1_2.length c1_2, .slice A1_3 l1_3.length c1_3, .slice A1_4 l1_4.length c1_4] 28 (0, 0)) (by (with_reducible repeat (first | refine blk_drewN ?_ _ | refine blk_drew ?_ | refine blk_alloc ?_ _)); exact BK308.out) hb)
        have n3_ := Aside0.mk (below_step (by repeat (first | (with_reducible first | exact HB.out | apply below_alloc | apply pw_below_drewN | apply below_drew1 | refine below_set ?_ GE307.out | refine below_set ?_ GE308.out) | exact HB.out)) hb)
        clear HO314
        clear BK307
        clear BK308
        clear HB
        have HO314 := n0_
        have BK307 := n1_
        have BK308 := n2_
        have HB := n3_
        clear n0_ n1_ n2_ n3_
        (try clear hb)
        (try clear hb2)
        (try clear hk)
        (try clear hi)
        obtain ⟨Ao35, co35, eo35⟩ := Kd.R_slice HO314.out
        (first | subst eo35 | (injection eo35 with f1_ f2_ f3_; have f4_ := f1_.symm; have f5_ := f3_.symm; clear f1_ f2_ f3_; subst f4_; subst f5_))
        refine hK.out _ _ ⟨(blk_cell BK307.out 0).trans rfl, (blk_cell BK307.out 1).trans rfl, (blk_cell BK307.out 2).trans rfl, (blk_cell BK307.out 3).trans rfl, (blk_cell BK307.out 4).trans rfl, (blk_cell BK308.out 0).trans rfl, (blk_cell BK308.out 1).trans rfl, (blk_cell BK308.out 2).trans rfl, (blk_cell BK308.out 3).trans rfl, (blk_cell BK308.out 4).trans rfl⟩ (fun hHeld => ?_)
        clear hK K
        refine norm_ (a' := ?_) ?_ ?_
        rotate_left
        ·show Act.put _ (some 50) _ = _
         simp only [Act.put, List.setIfInBounds_toArray, List.set_cons_zero, List.set_cons_succ, i64_w, i32_w]
         rfl
        refine PU 14 51 HT_ ?_
        refine PU 15 52 HT_ ?_
        refine PU 16 53 HT_ ?_
        refine PU 17 54 HT_ ?_
        refine PU 18 55 HT_ ?_
        refine PU 19 56 HT_ ?_
        refine TU 20 57 HT_ HW_ hHeld ?_
        refine TU 21 58 HT_ HW_ hHeld ?_
        refine one_ (i := 22) (N := some 59) #[true, true, true, true, true, true, true, true, true, true, true, true, true, true, true, true, true, true, true, true, true, true, true, false, false] rfl rfl (one_of HT_.out (by kernel_rfl)) (by decide) (fun K hK => ?_)
        refine goes_ Try.func20 (by kernel_rfl) rfl #[.agg #[.int .i64 a0_0, .string a0_1, .slice A0_2 l0_2.length c0_2, .slice A0_3 l0_3.length c0_3, .slice A0_4 l0_4.length c0_4], .agg #[.int .i64 a1_0, .string a1_1, .slice A1_2 l1_2.length c1_2, .slice A1_3 l1_3.length c1_3, .slice A1_4 l1_4.length c1_4]] (by rfl) rfl rfl MX ?_
        with_reducible refine (treemergelaw31_agree.calls kj2 a0_0 a0_1 _ _ l0_2 _ _ l0_3 _ _ l0_4 a1_0 a1_1 _ _ l1_2 _ _ l1_3 _ _ l1_4 t319 _ ?side1 ?side2 ?side3 ?side4 ?side5 ?side6 ?side7 ?side8 ?side9 ?side10 ?side11 ?side12 A31.out).mono ?_
        (case side1 => exact CX (Kd.C_below HR0_2.out HB.out))
        (case side2 => exact HC0_2.out)
        (case side3 => exact CX (Kd.C_below HR0_3.out HB.out))
        (case side4 => exact HC0_3.out)
        (case side5 => exact CX (Kd.C_below HR0_4.out HB.out))
        (case side6 => exact HC0_4.out)
        (case side7 => exact CX (Kd.C_below HR1_2.out HB.out))
        (case side8 => exact HC1_2.out)
        (case side9 => exact CX (Kd.C_below HR1_3.out HB.out))
        (case side10 => exact HC1_3.out)
        (case side11 => exact CX (Kd.C_below HR1_4.out HB.out))
        (case side12 => exact HC1_4.out)
        rintro e w36 ⟨rfl, hb⟩
        refine ⟨_, rfl, ?_⟩
        have n0_ := Aside0.mk (Kd.R_below (RX HO314.out) hb)
        have n1_ := Aside0.mk (blk_below (g := gb307) (o := .cells #[.int .i64 a0_0, .string a0_1, .slice A0_2 l0_2.length c0_2, .slice A0_3 l0_3.length c0_3, .slice A0_4 l0_4.length c0_4] 28 (0, 0)) (by (with_reducible repeat (first | refine blk_drewN ?_ _ | refine blk_drew ?_ | refine blk_alloc ?_ _)); exact BK307.out) hb)
        have n2_ := Aside0.mk (blk_below (g := gb308) (o := .cells #[.int .i64 a1_0, .string a1_1, .slice A1_2 l1_2.length c1_2, .slice A1_3 l1_3.length c1_3, .slice A1_4 l1_4.length c1_4] 28 (0, 0)) (by (with_reducible repeat (first | refine blk_drewN ?_ _ | refine blk_drew ?_ | refine blk_alloc ?_ _)); exact BK308.out) hb)
        have n3_ := Aside0.mk (below_step (by repeat (first | (with_reducible first | exact HB.out | apply below_alloc | apply pw_below_drewN | apply below_drew1 | refine below_set ?_ GE307.out | refine below_set ?_ GE308.out) | exact HB.out)) hb)
        clear HO314
        clear BK307
        clear BK308
        clear HB
        have HO314 := n0_
        have BK307 := n1_
        have BK308 := n2_
        have HB := n3_
        clear n0_ n1_ n2_ n3_
        (try clear hb)
        (try clear hb2)
        (try clear hk)
        (try clear hi)
        refine hK.out _ _ ⟨(blk_cell BK307.out 0).trans rfl, (blk_cell BK307.out 1).trans rfl, (blk_cell BK307.out 2).trans rfl, (blk_cell BK307.out 3).trans rfl, (blk_cell BK307.out 4).trans rfl, (blk_cell BK308.out 0).trans rfl, (blk_cell BK308.out 1).trans rfl, (blk_cell BK308.out 2).trans rfl, (blk_cell BK308.out 3).trans rfl, (blk_cell BK308.out 4).trans rfl⟩ (fun hHeld => ?_)
        clear hK K
        refine norm_ (a' := ?_) ?_ ?_
        rotate_left
        ·show Act.put _ (some 59) _ = _
         simp only [Act.put, List.setIfInBounds_toArray, List.set_cons_zero, List.set_cons_succ, i64_w, i32_w]
         rfl
        refine PU 23 60 HT_ ?_
        refine PU 24 61 HT_ ?_
        refine done_ (done_of HT_.out (by kernel_rfl)) ?_
        try go_wp2
        go_meet
        case rel => exact ⟨_, ((((t312.length : Int) == 0) != t319)), SX, H', ⟨by have := HJ2.out; first | omega | exact Nat.le_refl _⟩, ⟨RX HO314.out⟩, ⟨by (with_reducible repeat (first | refine blk_drewN ?_ _ | refine blk_drew ?_ | refine blk_alloc ?_ _)); exact BK307.out⟩, ⟨by (with_reducible repeat (first | refine blk_drewN ?_ _ | refine blk_drew ?_ | refine blk_alloc ?_ _)); exact BK308.out⟩, ⟨by repeat (first | (with_reducible first | exact HB.out | apply below_alloc | apply pw_below_drewN | apply below_drew1 | refine below_set ?_ GE307.out | refine below_set ?_ GE308.out) | exact HB.out)⟩⟩
       ·rw [if_neg c30] at H
        have c30b0 : ((l1_4.length : Int) == t318) = false := beq_eq_false_iff_ne.mpr c30
        have c30b1 : ((l1_4.length : Int) != t318) = true := bne_iff_ne.mpr c30
        have H' := Aside0.mk H
        clear H
        try go_wp2
        have n0_ := Aside0.mk (Kd.R_drew HO314.out)
        have n1_ := Aside0.mk (blk_drew BK307.out)
        have n2_ := Aside0.mk (blk_drew BK308.out)
        have n3_ := Aside0.mk (below_drew1 HB.out)
        clear HO314
        clear BK307
        clear BK308
        clear HB
        have HO314 := n0_
        have BK307 := n1_
        have BK308 := n2_
        have HB := n3_
        clear n0_ n1_ n2_ n3_
        refine start_ (n := 25) (S := fun w' => w'.cell? ⟨gb307, 0, none⟩ = some (.int .i64 a0_0) ∧ w'.cell? ⟨gb307, 1, none⟩ = some (.string a0_1) ∧ w'.cell? ⟨gb307, 2, none⟩ = some (.slice A0_2 l0_2.length c0_2) ∧ w'.cell? ⟨gb307, 3, none⟩ = some (.slice A0_3 l0_3.length c0_3) ∧ w'.cell? ⟨gb307, 4, none⟩ = some (.slice A0_4 l0_4.length c0_4) ∧ w'.cell? ⟨gb308, 0, none⟩ = some (.int .i64 a1_0) ∧ w'.cell? ⟨gb308, 1, none⟩ = some (.string a1_1) ∧ w'.cell? ⟨gb308, 2, none⟩ = some (.slice A1_2 l1_2.length c1_2) ∧ w'.cell? ⟨gb308, 3, none⟩ = some (.slice A1_3 l1_3.length c1_3) ∧ w'.cell? ⟨gb308, 4, none⟩ = some (.slice A1_4 l1_4.length c1_4)) (ds := []) #[false, false, false, false, false, false, false, false, false, false, false, false, false, false, false, false, false, false, false, false, false, false, false, false, false] (by kernel_rfl) rfl rfl ⟨(blk_cell BK307.out 0).trans rfl, (blk_cell BK307.out 1).trans rfl, (blk_cell BK307.out 2).trans rfl, (blk_cell BK307.out 3).trans rfl, (blk_cell BK307.out 4).trans rfl, (blk_cell BK308.out 0).trans rfl, (blk_cell BK308.out 1).trans rfl, (blk_cell BK308.out 2).trans rfl, (blk_cell BK308.out 3).trans rfl, (blk_cell BK308.out 4).trans rfl⟩ (fun hHeld => ?_); refine with_tabW treemergelaw31_ChangeComplete.tab6 treemergelaw31_ChangeComplete.bits6 (fun HT_ HW_ => ?_)
        generalize w26.drew = w37 at HO314 BK307 BK308 HB hHeld ⊢
        refine PU 0 37 HT_ ?_
        refine PU 3 40 HT_ ?_
        refine TU 1 38 HT_ HW_ hHeld ?_
        refine PU 2 39 HT_ ?_
        refine TU 4 41 HT_ HW_ hHeld ?_
        refine one_ (i := 5) (N := some 42) #[true, true, true, true, true, true, false, false, false, false, false, false, false, false, false, false, false, false, false, false, false, false, false, false, false] rfl rfl (one_of HT_.out (by kernel_rfl)) (by decide) (fun K hK => ?_)
        refine goes_ Try.func19 (by kernel_rfl) rfl #[.agg #[.int .i64 a0_0, .string a0_1, .slice A0_2 l0_2.length c0_2, .slice A0_3 l0_3.length c0_3]] (by rfl) rfl rfl MX ?_
        with_reducible refine (treemergeref06_Size.calls kj2 a0_0 a0_1 _ _ l0_2 _ _ l0_3 t317 _ ?side1 ?side2 ?side3 ?side4 A27.out).mono ?_
        (case side1 => exact CX (Kd.C_below HR0_2.out HB.out))
        (case side2 => exact HC0_2.out)
        (case side3 => exact CX (Kd.C_below HR0_3.out HB.out))
        (case side4 => exact HC0_3.out)
        rintro e w38 ⟨rfl, hb⟩
        refine ⟨_, rfl, ?_⟩
        have n0_ := Aside0.mk (Kd.R_below (RX HO314.out) hb)
        have n1_ := Aside0.mk (blk_below (g := gb307) (o := .cells #[.int .i64 a0_0, .string a0_1, .slice A0_2 l0_2.length c0_2, .slice A0_3 l0_3.length c0_3, .slice A0_4 l0_4.length c0_4] 28 (0, 0)) (by (with_reducible repeat (first | refine blk_drewN ?_ _ | refine blk_drew ?_ | refine blk_alloc ?_ _)); exact BK307.out) hb)
        have n2_ := Aside0.mk (blk_below (g := gb308) (o := .cells #[.int .i64 a1_0, .string a1_1, .slice A1_2 l1_2.length c1_2, .slice A1_3 l1_3.length c1_3, .slice A1_4 l1_4.length c1_4] 28 (0, 0)) (by (with_reducible repeat (first | refine blk_drewN ?_ _ | refine blk_drew ?_ | refine blk_alloc ?_ _)); exact BK308.out) hb)
        have n3_ := Aside0.mk (below_step (by repeat (first | (with_reducible first | exact HB.out | apply below_alloc | apply pw_below_drewN | apply below_drew1 | refine below_set ?_ GE307.out | refine below_set ?_ GE308.out) | exact HB.out)) hb)
        clear HO314
        clear BK307
        clear BK308
        clear HB
        have HO314 := n0_
        have BK307 := n1_
        have BK308 := n2_
        have HB := n3_
        clear n0_ n1_ n2_ n3_
        (try clear hb)
        (try clear hb2)
        (try clear hk)
        (try clear hi)
        refine hK.out _ _ ⟨(blk_cell BK307.out 0).trans rfl, (blk_cell BK307.out 1).trans rfl, (blk_cell BK307.out 2).trans rfl, (blk_cell BK307.out 3).trans rfl, (blk_cell BK307.out 4).trans rfl, (blk_cell BK308.out 0).trans rfl, (blk_cell BK308.out 1).trans rfl, (blk_cell BK308.out 2).trans rfl, (blk_cell BK308.out 3).trans rfl, (blk_cell BK308.out 4).trans rfl⟩ (fun hHeld => ?_)
        clear hK K
        refine norm_ (a' := ?_) ?_ ?_
        rotate_left
        ·show Act.put _ (some 42) _ = _
         simp only [Act.put, List.setIfInBounds_toArray, List.set_cons_zero, List.set_cons_succ, i64_w, i32_w]
         rfl
        refine PU 6 43 HT_ ?_
        refine PU 7 44 HT_ ?_
        refine PU 8 45 HT_ ?_
        refine PU 11 48 HT_ ?_
        refine TU 9 46 HT_ HW_ hHeld ?_
        refine PU 10 47 HT_ ?_
        refine TU 12 49 HT_ HW_ hHeld ?_
        refine one_ (i := 13) (N := some 50) #[true, true, true, true, true, true, true, true, true, true, true, true, true, true, false, false, false, false, false, false, false, false, false, false, false] rfl rfl (one_of HT_.out (by kernel_rfl)) (by decide) (fun K hK => ?_)
        refine goes_ Try.func19 (by kernel_rfl) rfl #[.agg #[.int .i64 a1_0, .string a1_1, .slice A1_2 l1_2.length c1_2, .slice A1_3 l1_3.length c1_3]] (by rfl) rfl rfl MX ?_
        with_reducible refine (treemergeref06_Size.calls kj2 a1_0 a1_1 _ _ l1_2 _ _ l1_3 t318 _ ?side1 ?side2 ?side3 ?side4 A29.out).mono ?_
        (case side1 => exact CX (Kd.C_below HR1_2.out HB.out))
        (case side2 => exact HC1_2.out)
        (case side3 => exact CX (Kd.C_below HR1_3.out HB.out))
        (case side4 => exact HC1_3.out)
        rintro e w39 ⟨rfl, hb⟩
        refine ⟨_, rfl, ?_⟩
        have n0_ := Aside0.mk (Kd.R_below (RX HO314.out) hb)
        have n1_ := Aside0.mk (blk_below (g := gb307) (o := .cells #[.int .i64 a0_0, .string a0_1, .slice A0_2 l0_2.length c0_2, .slice A0_3 l0_3.length c0_3, .slice A0_4 l0_4.length c0_4] 28 (0, 0)) (by (with_reducible repeat (first | refine blk_drewN ?_ _ | refine blk_drew ?_ | refine blk_alloc ?_ _)); exact BK307.out) hb)
        have n2_ := Aside0.mk (blk_below (g := gb308) (o := .cells #[.int .i64 a1_0, .string a1_1, .slice A1_2 l1_2.length c1_2, .slice A1_3 l1_3.length c1_3, .slice A1_4 l1_4.length c1_4] 28 (0, 0)) (by (with_reducible repeat (first | refine blk_drewN ?_ _ | refine blk_drew ?_ | refine blk_alloc ?_ _)); exact BK308.out) hb)
        have n3_ := Aside0.mk (below_step (by repeat (first | (with_reducible first | exact HB.out | apply below_alloc | apply pw_below_drewN | apply below_drew1 | refine below_set ?_ GE307.out | refine below_set ?_ GE308.out) | exact HB.out)) hb)
        clear HO314
        clear BK307
        clear BK308
        clear HB
        have HO314 := n0_
        have BK307 := n1_
        have BK308 := n2_
        have HB := n3_
        clear n0_ n1_ n2_ n3_
        (try clear hb)
        (try clear hb2)
        (try clear hk)
        (try clear hi)
        refine hK.out _ _ ⟨(blk_cell BK307.out 0).trans rfl, (blk_cell BK307.out 1).trans rfl, (blk_cell BK307.out 2).trans rfl, (blk_cell BK307.out 3).trans rfl, (blk_cell BK307.out 4).trans rfl, (blk_cell BK308.out 0).trans rfl, (blk_cell BK308.out 1).trans rfl, (blk_cell BK308.out 2).trans rfl, (blk_cell BK308.out 3).trans rfl, (blk_cell BK308.out 4).trans rfl⟩ (fun hHeld => ?_)
        clear hK K
        refine norm_ (a' := ?_) ?_ ?_
        rotate_left
        ·show Act.put _ (some 50) _ = _
         simp only [Act.put, List.setIfInBounds_toArray, List.set_cons_zero, List.set_cons_succ, i64_w, i32_w]
         rfl
        refine PU 14 51 HT_ ?_
        refine PU 15 52 HT_ ?_
        refine PU 16 53 HT_ ?_
        refine PV 17 54 HT_ ?_
        refine PV 18 55 HT_ ?_
        refine PV 19 56 HT_ ?_
        refine PV 20 57 HT_ ?_
        refine PV 21 58 HT_ ?_
        refine PV 22 59 HT_ ?_
        refine PV 23 60 HT_ ?_
        refine PU 24 61 HT_ ?_
        refine done_ (done_of HT_.out (by kernel_rfl)) ?_
        try go_wp2
        go_meet
        case rel => exact ⟨_, (true), SX, H', ⟨by have := HJ2.out; first | omega | exact Nat.le_refl _⟩, ⟨RX HO314.out⟩, ⟨by (with_reducible repeat (first | refine blk_drewN ?_ _ | refine blk_drew ?_ | refine blk_alloc ?_ _)); exact BK307.out⟩, ⟨by (with_reducible repeat (first | refine blk_drewN ?_ _ | refine blk_drew ?_ | refine blk_alloc ?_ _)); exact BK308.out⟩, ⟨by repeat (first | (with_reducible first | exact HB.out | apply below_alloc | apply pw_below_drewN | apply below_drew1 | refine below_set ?_ GE307.out | refine below_set ?_ GE308.out) | exact HB.out)⟩⟩
      ·rw [if_neg c28] at H
       have c28b0 : ((l0_4.length : Int) == t317) = false := beq_eq_false_iff_ne.mpr c28
       have c28b1 : ((l0_4.length : Int) != t317) = true := bne_iff_ne.mpr c28
       (first | rw [c28b0] | (simp only [i64_w, i32_w]; rw [c28b0]) | skip)
       have H' := Aside0.mk H
       clear H
       try go_wp2
       have n0_ := Aside0.mk (Kd.R_drew HO314.out)
       have n1_ := Aside0.mk (blk_drew BK307.out)
       have n2_ := Aside0.mk (blk_drew BK308.out)
       have n3_ := Aside0.mk (below_drew1 HB.out)
       clear HO314
       clear BK307
       clear BK308
       clear HB
       have HO314 := n0_
       have BK307 := n1_
       have BK308 := n2_
       have HB := n3_
       clear n0_ n1_ n2_ n3_
       refine start_ (n := 25) (S := fun w' => w'.cell? ⟨gb307, 0, none⟩ = some (.int .i64 a0_0) ∧ w'.cell? ⟨gb307, 1, none⟩ = some (.string a0_1) ∧ w'.cell? ⟨gb307, 2, none⟩ = some (.slice A0_2 l0_2.length c0_2) ∧ w'.cell? ⟨gb307, 3, none⟩ = some (.slice A0_3 l0_3.length c0_3) ∧ w'.cell? ⟨gb307, 4, none⟩ = some (.slice A0_4 l0_4.length c0_4)) (ds := []) #[false, false, false, false, false, false, false, false, false, false, false, false, false, false, false, false, false, false, false, false, false, false, false, false, false] (by kernel_rfl) rfl rfl ⟨(blk_cell BK307.out 0).trans rfl, (blk_cell BK307.out 1).trans rfl, (blk_cell BK307.out 2).trans rfl, (blk_cell BK307.out 3).trans rfl, (blk_cell BK307.out 4).trans rfl⟩ (fun hHeld => ?_); refine with_tabW treemergelaw31_ChangeComplete.tab6 treemergelaw31_ChangeComplete.bits6 (fun HT_ HW_ => ?_)
       generalize w26.drew = w40 at HO314 BK307 BK308 HB hHeld ⊢
       refine PU 0 37 HT_ ?_
       refine PU 3 40 HT_ ?_
       refine TU 1 38 HT_ HW_ hHeld ?_
       refine PU 2 39 HT_ ?_
       refine TU 4 41 HT_ HW_ hHeld ?_
       refine one_ (i := 5) (N := some 42) #[true, true, true, true, true, true, false, false, false, false, false, false, false, false, false, false, false, false, false, false, false, false, false, false, false] rfl rfl (one_of HT_.out (by kernel_rfl)) (by decide) (fun K hK => ?_)
       refine goes_ Try.func19 (by kernel_rfl) rfl #[.agg #[.int .i64 a0_0, .string a0_1, .slice A0_2 l0_2.length c0_2, .slice A0_3 l0_3.length c0_3]] (by rfl) rfl rfl MX ?_
       with_reducible refine (treemergeref06_Size.calls kj2 a0_0 a0_1 _ _ l0_2 _ _ l0_3 t317 _ ?side1 ?side2 ?side3 ?side4 A27.out).mono ?_
       (case side1 => exact CX (Kd.C_below HR0_2.out HB.out))
       (case side2 => exact HC0_2.out)
       (case side3 => exact CX (Kd.C_below HR0_3.out HB.out))
       (case side4 => exact HC0_3.out)
       rintro e w41 ⟨rfl, hb⟩
       refine ⟨_, rfl, ?_⟩
       have n0_ := Aside0.mk (Kd.R_below (RX HO314.out) hb)
       have n1_ := Aside0.mk (blk_below (g := gb307) (o := .cells #[.int .i64 a0_0, .string a0_1, .slice A0_2 l0_2.length c0_2, .slice A0_3 l0_3.length c0_3, .slice A0_4 l0_4.length c0_4] 28 (0, 0)) (by (with_reducible repeat (first | refine blk_drewN ?_ _ | refine blk_drew ?_ | refine blk_alloc ?_ _)); exact BK307.out) hb)
       have n2_ := Aside0.mk (blk_below (g := gb308) (o := .cells #[.int .i64 a1_0, .string a1_1, .slice A1_2 l1_2.length c1_2, .slice A1_3 l1_3.length c1_3, .slice A1_4 l1_4.length c1_4] 28 (0, 0)) (by (with_reducible repeat (first | refine blk_drewN ?_ _ | refine blk_drew ?_ | refine blk_alloc ?_ _)); exact BK308.out) hb)
       have n3_ := Aside0.mk (below_step (by repeat (first | (with_reducible first | exact HB.out | apply below_alloc | apply pw_below_drewN | apply below_drew1 | refine below_set ?_ GE307.out | refine below_set ?_ GE308.out) | exact HB.out)) hb)
       clear HO314
       clear BK307
       clear BK308
       clear HB
       have HO314 := n0_
       have BK307 := n1_
       have BK308 := n2_
       have HB := n3_
       clear n0_ n1_ n2_ n3_
       (try clear hb)
       (try clear hb2)
       (try clear hk)
       (try clear hi)
       refine hK.out _ _ ⟨(blk_cell BK307.out 0).trans rfl, (blk_cell BK307.out 1).trans rfl, (blk_cell BK307.out 2).trans rfl, (blk_cell BK307.out 3).trans rfl, (blk_cell BK307.out 4).trans rfl⟩ (fun hHeld => ?_)
       clear hK K
       refine norm_ (a' := ?_) ?_ ?_
       rotate_left
       ·show Act.put _ (some 42) _ = _
        simp only [Act.put, List.setIfInBounds_toArray, List.set_cons_zero, List.set_cons_succ, i64_w, i32_w]
        rfl
       refine PU 6 43 HT_ ?_
       refine PU 7 44 HT_ ?_
       refine PV 8 45 HT_ ?_
       refine PV 9 46 HT_ ?_
       refine PV 10 47 HT_ ?_
       refine PV 11 48 HT_ ?_
       refine PV 12 49 HT_ ?_
       refine PV 13 50 HT_ ?_
       refine PV 14 51 HT_ ?_
       refine PU 15 52 HT_ ?_
       refine PU 16 53 HT_ ?_
       refine PV 17 54 HT_ ?_
       refine PV 18 55 HT_ ?_
       refine PV 19 56 HT_ ?_
       refine PV 20 57 HT_ ?_
       refine PV 21 58 HT_ ?_
       refine PV 22 59 HT_ ?_
       refine PV 23 60 HT_ ?_
       refine PU 24 61 HT_ ?_
       refine done_ (done_of HT_.out (by kernel_rfl)) ?_
       try go_wp2
       go_meet
       case rel => exact ⟨_, (true), SX, H', ⟨by have := HJ2.out; first | omega | exact Nat.le_refl _⟩, ⟨RX HO314.out⟩, ⟨by (with_reducible repeat (first | refine blk_drewN ?_ _ | refine blk_drew ?_ | refine blk_alloc ?_ _)); exact BK307.out⟩, ⟨by (with_reducible repeat (first | refine blk_drewN ?_ _ | refine blk_drew ?_ | refine blk_alloc ?_ _)); exact BK308.out⟩, ⟨by repeat (first | (with_reducible first | exact HB.out | apply below_alloc | apply pw_below_drewN | apply below_drew1 | refine below_set ?_ GE307.out | refine below_set ?_ GE308.out) | exact HB.out)⟩⟩
     case rest =>
      clear HC22
      try clear c1
      try clear c2
      try clear p2
      try clear c3
      try clear c19
      try clear c20
      try clear c28
      try clear c28b0
      try clear c28b1
      try clear c30
      try clear c30b0
      try clear c30b1
      obtain ⟨kq, x61_21, rfl, HA, HJ21, HO_5, BK307, BK308, HB⟩ := hcut
      cases kq with
      | zero => exact absurd HA.out (by simp [treemergelaw31_ChangeComplete.j1])
      | succ kj21 =>
       have H := HA.out
       clear HA
       simp only [treemergelaw31_ChangeComplete.j1] at H
       by_cases c42 : x61_21 = true
       ·subst c42
        have H1 : (some false) = some r := by rw [if_pos rfl] at H; exact H
        clear H
        have H := H1
        clear H1
        obtain rfl := Option.some.inj H
        go_wp2
        go_ret
        exact ⟨by first | rfl | (simp [errW_none, errW_some] <;> rfl) | (simp [*, errW_none, errW_some] <;> rfl), by repeat (first | (with_reducible first | exact HB.out | apply below_alloc | apply pw_below_drewN | apply below_drew1 | refine below_set ?_ GE307.out | refine below_set ?_ GE308.out) | exact HB.out)⟩
       ·replace c42 := Bool.eq_false_iff.mpr c42
        subst c42
        have H1 : (treemergelaw31_ChangeComplete.l0 kj21 t312 1) = some r := by rw [if_neg (show ¬ (false = true) by decide)] at H; exact H
        clear H
        have H := H1
        clear H1
        have H' := Aside0.mk H
        clear H
        go_wp2
        go_loopg [7] kj21 (fun kq v7 w' => ∃ (x7_3 : Int), v7 = .int .i64 x7_3 ∧ Aside0 (treemergelaw31_ChangeComplete.l0 kq t312 x7_3 = some r) ∧ Aside0 (kq ≤ kj21) ∧ Aside0 (Kd.R k48 48 w' w.heap.size (fun _ => True) v313 t312) ∧ Aside0 (w'.heap[gb307]? = some (.cells #[.int .i64 a0_0, .string a0_1, (.slice A0_2 l0_2.length c0_2), (.slice A0_3 l0_3.length c0_3), (.slice A0_4 l0_4.length c0_4)] 28 (0, 0))) ∧ Aside0 (w'.heap[gb308]? = some (.cells #[.int .i64 a1_0, .string a1_1, (.slice A1_2 l1_2.length c1_2), (.slice A1_3 l1_3.length c1_3), (.slice A1_4 l1_4.length c1_4)] 28 (0, 0))) ∧ Aside0 (Below w.heap.size w w'))
        case atStart => exact ⟨(1), SX, H', ⟨Nat.le_refl _⟩, ⟨RX HO_5.out⟩, ⟨by (with_reducible repeat (first | refine blk_drewN ?_ _ | refine blk_drew ?_ | refine blk_alloc ?_ _)); exact BK307.out⟩, ⟨by (with_reducible repeat (first | refine blk_drewN ?_ _ | refine blk_drew ?_ | refine blk_alloc ?_ _)); exact BK308.out⟩, ⟨by repeat (first | (with_reducible first | exact HB.out | apply below_alloc | apply pw_below_drewN | apply below_drew1 | refine below_set ?_ GE307.out | refine below_set ?_ GE308.out) | exact HB.out)⟩⟩
        case round =>
         clear H'
         try clear c1
         try clear c2
         try clear p2
         try clear c3
         try clear c4
         try clear c19
         try clear c20
         try clear c28
         try clear c28b0
         try clear c28b1
         try clear c30
         try clear c30b0
         try clear c30b1
         try clear c42
         try clear p2
         obtain ⟨x7_3, rfl, HA, HK3, HO_5, BK307, BK308, HB⟩ := hrel
         cases gk with
         | zero => exact absurd HA.out (by simp [treemergelaw31_ChangeComplete.l0])
         | succ k3 =>
          have H := HA.out
          clear HA
          simp only [treemergelaw31_ChangeComplete.l0] at H
          by_cases c43 : x7_3 < (t312.length : Int)
          ·rw [if_pos c43] at H
           have c43b0 : decide (x7_3 < (t312.length : Int)) = true := decide_eq_true c43
           clear c43
           obtain ⟨ji44, hji44⟩ : ∃ j_ : Int, (wrap64 (x7_3 - 1)) = j_ := ⟨_, rfl⟩
           replace H : (if 0 ≤ (ji44) then (if (ji44) < (t312.length : Int) then (if 0 ≤ x7_3 then (if ((rd_T48 t312 (ji44)).f0) > ((rd_T48 t312 x7_3).f0) then (some false) else (if ((rd_T48 t312 (ji44)).f0) = ((rd_T48 t312 x7_3).f0) then (if ((rd_T48 t312 (ji44)).f1) ≥ ((rd_T48 t312 x7_3).f1) then (some false) else (treemergelaw31_ChangeComplete.l0 k3 t312 (wrap64 (x7_3 + 1)))) else (treemergelaw31_ChangeComplete.l0 k3 t312 (wrap64 (x7_3 + 1))))) else (none)) else (none)) else (none)) = some r := by first | (rw [hji44] at H; exact H) | (simp only [hji44] at H ⊢; exact H)
           have hji44w : (IntKind.i64.wrap (x7_3 - 1)) = ji44 := (i64_w _).trans hji44
           by_cases c45 : 0 ≤ (ji44)
           ·rw [if_pos c45] at H
            have c45b0 : decide (0 ≤ (ji44)) = true := decide_eq_true c45
            clear c45
            by_cases c46 : (ji44) < (t312.length : Int)
            ·rw [if_pos c46] at H
             have c46b0 : decide ((ji44) < (t312.length : Int)) = true := decide_eq_true c46
             clear c46
             by_cases c47 : 0 ≤ x7_3
             ·rw [if_pos c47] at H
              have c47b0 : decide (0 ≤ x7_3) = true := decide_eq_true c47
              clear c47
              by_cases c48 : ((rd_T48 t312 (ji44)).f0) > ((rd_T48 t312 x7_3).f0)
              ·rw [if_pos c48] at H
               have c48b0 : decide (((rd_T48 t312 x7_3).f0) < ((rd_T48 t312 (ji44)).f0)) = true := decide_eq_true c48
               clear c48
               obtain rfl := Option.some.inj H
               obtain ⟨Ao49, co49, eo49⟩ := Kd.R_slice HO_5.out
               subst eo49
               try go_wp2
               have n0_ := Aside0.mk (Kd.R_drew HO_5.out)
               have n1_ := Aside0.mk (blk_drew BK307.out)
               have n2_ := Aside0.mk (blk_drew BK308.out)
               have n3_ := Aside0.mk (below_drew1 HB.out)
               clear HO_5
               clear BK307
               clear BK308
               clear HB
               have HO_5 := n0_
               have BK307 := n1_
               have BK308 := n2_
               have HB := n3_
               clear n0_ n1_ n2_ n3_
               have p320 : 0 ≤ ((ji44) : Int) := of_decide_eq_true AX
               have q320 : (ji44) < (t312.length : Int) := of_decide_eq_true AX
               obtain ⟨ad320, e320, hx320_0, hx320_1⟩ := at_T48 (Kd.R_reads' HO_5.out).2.2 (ji44) p320 q320
               cases e320
               replace p320 := eq_true p320
               replace q320 := eq_true q320
               have p321 : 0 ≤ (x7_3 : Int) := of_decide_eq_true AX
               have q321 : x7_3 < (t312.length : Int) := of_decide_eq_true AX
               obtain ⟨ad321, e321, hx321_0, hx321_1⟩ := at_T48 (Kd.R_reads' HO_5.out).2.2 x7_3 p321 q321
               obtain rfl : ad320 = ad321 := (by injection e321)
               replace p321 := eq_true p321
               replace q321 := eq_true q321
               refine start_ (n := 40) (S := fun w' => w'.cell? (ad320.add (((ji44)).toNat * 2)) = some (.int .i64 ((rd_T48 t312 (ji44)).f0)) ∧ w'.cell? ⟨(ad320.add (((ji44)).toNat * 2)).block, (ad320.add (((ji44)).toNat * 2)).off + 1, none⟩ = some (.int .i64 ((rd_T48 t312 (ji44)).f1)) ∧ w'.cell? (ad320.add ((x7_3).toNat * 2)) = some (.int .i64 ((rd_T48 t312 x7_3).f0)) ∧ w'.cell? ⟨(ad320.add ((x7_3).toNat * 2)).block, (ad320.add ((x7_3).toNat * 2)).off + 1, none⟩ = some (.int .i64 ((rd_T48 t312 x7_3).f1))) (ds := []) #[false, false, false, false, false, false, false, false, false, false, false, false, false, false, false, false, false, false, false, false, false, false, false, false, false, false, false, false, false, false, false, false, false, false, false, false, false, false, false, false] (by kernel_rfl) rfl rfl ⟨hx320_0, hx320_1, hx321_0, hx321_1⟩ (fun hHeld => ?_); refine with_tabW treemergelaw31_ChangeComplete.tab11 treemergelaw31_ChangeComplete.bits11 (fun HT_ HW_ => ?_)
               generalize wr.drew = w50 at HO_5 BK307 BK308 HB hx320_0 hx320_1 hx321_0 hx321_1 hHeld ⊢
               refine PU 0 68 HT_ ?_
               refine PU 1 69 HT_ ?_
               refine PU 2 70 HT_ ?_
               refine PU 3 71 HT_ ?_
               refine PU 4 72 HT_ ?_
               refine PU 6 74 HT_ ?_
               refine PU 7 75 HT_ ?_
               refine PU 8 76 HT_ ?_
               refine PU 9 77 HT_ ?_
               refine TU 5 73 HT_ HW_ hHeld ?_
               refine TU 10 78 HT_ HW_ hHeld ?_
               refine PU 11 79 HT_ ?_
               refine PU 12 80 HT_ ?_
               refine PV 13 81 HT_ ?_
               refine PV 14 82 HT_ ?_
               refine PV 15 83 HT_ ?_
               refine PV 16 84 HT_ ?_
               refine PV 17 85 HT_ ?_
               refine PV 18 86 HT_ ?_
               refine PV 19 87 HT_ ?_
               refine PV 20 88 HT_ ?_
               refine PV 21 89 HT_ ?_
               refine PV 22 90 HT_ ?_
               refine PV 23 91 HT_ ?_
               refine PV 24 92 HT_ ?_
               refine PV 25 93 HT_ ?_
               refine PV 26 94 HT_ ?_
               refine PV 27 95 HT_ ?_
               refine PV 28 96 HT_ ?_
               refine PV 29 97 HT_ ?_
               refine PV 30 98 HT_ ?_
               refine PV 31 99 HT_ ?_
               refine PV 32 100 HT_ ?_
               refine PV 33 101 HT_ ?_
               refine PV 34 102 HT_ ?_
               refine PV 35 103 HT_ ?_
               refine PV 36 104 HT_ ?_
               refine PV 37 105 HT_ ?_
               refine PV 38 106 HT_ ?_
               refine PU 39 107 HT_ ?_
               refine done_ (done_of HT_.out (by kernel_rfl)) ?_
               try go_wp2
               go_ret
               exact ⟨by first | rfl | (simp [errW_none, errW_some] <;> rfl) | (simp only [← hji44]; first | rfl | (simp [errW_none, errW_some] <;> rfl)) | (simp [*, errW_none, errW_some] <;> rfl), by repeat (first | (with_reducible first | exact HB.out | apply below_alloc | apply pw_below_drewN | apply below_drew1 | refine below_set ?_ GE307.out | refine below_set ?_ GE308.out) | exact HB.out)⟩
              ·rw [if_neg c48] at H
               have c48b0 : decide (((rd_T48 t312 x7_3).f0) < ((rd_T48 t312 (ji44)).f0)) = false := decide_eq_false c48
               clear c48
               by_cases c51 : ((rd_T48 t312 (ji44)).f0) = ((rd_T48 t312 x7_3).f0)
               ·rw [if_pos c51] at H
                have c51b0 : (((rd_T48 t312 (ji44)).f0) == ((rd_T48 t312 x7_3).f0)) = true := beq_iff_eq.mpr c51
                have c51b1 : (((rd_T48 t312 (ji44)).f0) != ((rd_T48 t312 x7_3).f0)) = false := bne_eq_false_iff_eq.mpr c51
                clear c51
                by_cases c52 : ((rd_T48 t312 (ji44)).f1) ≥ ((rd_T48 t312 x7_3).f1)
                ·rw [if_pos c52] at H
                 have c52b0 : decide (((rd_T48 t312 x7_3).f1) ≤ ((rd_T48 t312 (ji44)).f1)) = true := decide_eq_true c52
                 clear c52
                 obtain rfl := Option.some.inj H
                 obtain ⟨Ao53, co53, eo53⟩ := Kd.R_slice HO_5.out
                 subst eo53
                 try go_wp2
                 have n0_ := Aside0.mk (Kd.R_drew HO_5.out)
                 have n1_ := Aside0.mk (blk_drew BK307.out)
                 have n2_ := Aside0.mk (blk_drew BK308.out)
                 have n3_ := Aside0.mk (below_drew1 HB.out)
                 clear HO_5
                 clear BK307
                 clear BK308
                 clear HB
                 have HO_5 := n0_
                 have BK307 := n1_
                 have BK308 := n2_
                 have HB := n3_
                 clear n0_ n1_ n2_ n3_
                 have p320 : 0 ≤ ((ji44) : Int) := of_decide_eq_true AX
                 have q320 : (ji44) < (t312.length : Int) := of_decide_eq_true AX
                 obtain ⟨ad320, e320, hx320_0, hx320_1⟩ := at_T48 (Kd.R_reads' HO_5.out).2.2 (ji44) p320 q320
                 cases e320
                 replace p320 := eq_true p320
                 replace q320 := eq_true q320
                 have p321 : 0 ≤ (x7_3 : Int) := of_decide_eq_true AX
                 have q321 : x7_3 < (t312.length : Int) := of_decide_eq_true AX
                 obtain ⟨ad321, e321, hx321_0, hx321_1⟩ := at_T48 (Kd.R_reads' HO_5.out).2.2 x7_3 p321 q321
                 obtain rfl : ad320 = ad321 := (by injection e321)
                 replace p321 := eq_true p321
                 replace q321 := eq_true q321
                 have p322 : 0 ≤ ((ji44) : Int) := of_decide_eq_true AX
                 have q322 : (ji44) < (t312.length : Int) := of_decide_eq_true AX
                 obtain ⟨ad322, e322, hx322_0, hx322_1⟩ := at_T48 (Kd.R_reads' HO_5.out).2.2 (ji44) p322 q322
                 obtain rfl : ad320 = ad322 := (by injection e322)
                 replace p322 := eq_true p322
                 replace q322 := eq_true q322
                 have p323 : 0 ≤ (x7_3 : Int) := of_decide_eq_true AX
                 have q323 : x7_3 < (t312.length : Int) := of_decide_eq_true AX
                 obtain ⟨ad323, e323, hx323_0, hx323_1⟩ := at_T48 (Kd.R_reads' HO_5.out).2.2 x7_3 p323 q323
                 obtain rfl : ad320 = ad323 := (by injection e323)
                 replace p323 := eq_true p323
                 replace q323 := eq_true q323
                 have p324 : 0 ≤ ((ji44) : Int) := of_decide_eq_true AX
                 have q324 : (ji44) < (t312.length : Int) := of_decide_eq_true AX
                 obtain ⟨ad324, e324, hx324_0, hx324_1⟩ := at_T48 (Kd.R_reads' HO_5.out).2.2 (ji44) p324 q324
                 obtain rfl : ad320 = ad324 := (by injection e324)
                 replace p324 := eq_true p324
                 replace q324 := eq_true q324
                 have p325 : 0 ≤ (x7_3 : Int) := of_decide_eq_true AX
                 have q325 : x7_3 < (t312.length : Int) := of_decide_eq_true AX
                 obtain ⟨ad325, e325, hx325_0, hx325_1⟩ := at_T48 (Kd.R_reads' HO_5.out).2.2 x7_3 p325 q325
                 obtain rfl : ad320 = ad325 := (by injection e325)
                 replace p325 := eq_true p325
                 replace q325 := eq_true q325
                 refine start_ (n := 40) (S := fun w' => w'.cell? (ad320.add (((ji44)).toNat * 2)) = some (.int .i64 ((rd_T48 t312 (ji44)).f0)) ∧ w'.cell? ⟨(ad320.add (((ji44)).toNat * 2)).block, (ad320.add (((ji44)).toNat * 2)).off + 1, none⟩ = some (.int .i64 ((rd_T48 t312 (ji44)).f1)) ∧ w'.cell? (ad320.add ((x7_3).toNat * 2)) = some (.int .i64 ((rd_T48 t312 x7_3).f0)) ∧ w'.cell? ⟨(ad320.add ((x7_3).toNat * 2)).block, (ad320.add ((x7_3).toNat * 2)).off + 1, none⟩ = some (.int .i64 ((rd_T48 t312 x7_3).f1)) ∧ w'.cell? (ad320.add (((ji44)).toNat * 2)) = some (.int .i64 ((rd_T48 t312 (ji44)).f0)) ∧ w'.cell? ⟨(ad320.add (((ji44)).toNat * 2)).block, (ad320.add (((ji44)).toNat * 2)).off + 1, none⟩ = some (.int .i64 ((rd_T48 t312 (ji44)).f1)) ∧ w'.cell? (ad320.add ((x7_3).toNat * 2)) = some (.int .i64 ((rd_T48 t312 x7_3).f0)) ∧ w'.cell? ⟨(ad320.add ((x7_3).toNat * 2)).block, (ad320.add ((x7_3).toNat * 2)).off + 1, none⟩ = some (.int .i64 ((rd_T48 t312 x7_3).f1)) ∧ w'.cell? (ad320.add (((ji44)).toNat * 2)) = some (.int .i64 ((rd_T48 t312 (ji44)).f0)) ∧ w'.cell? ⟨(ad320.add (((ji44)).toNat * 2)).block, (ad320.add (((ji44)).toNat * 2)).off + 1, none⟩ = some (.int .i64 ((rd_T48 t312 (ji44)).f1)) ∧ w'.cell? (ad320.add ((x7_3).toNat * 2)) = some (.int .i64 ((rd_T48 t312 x7_3).f0)) ∧ w'.cell? ⟨(ad320.add ((x7_3).toNat * 2)).block, (ad320.add ((x7_3).toNat * 2)).off + 1, none⟩ = some (.int .i64 ((rd_T48 t312 x7_3).f1))) (ds := []) #[false, false, false, false, false, false, false, false, false, false, false, false, false, false, false, false, false, false, false, false, false, false, false, false, false, false, false, false, false, false, false, false, false, false, false, false, false, false, false, false] (by kernel_rfl) rfl rfl ⟨hx320_0, hx320_1, hx321_0, hx321_1, hx322_0, hx322_1, hx323_0, hx323_1, hx324_0, hx324_1, hx325_0, hx325_1⟩ (fun hHeld => ?_); refine with_tabW treemergelaw31_ChangeComplete.tab11 treemergelaw31_ChangeComplete.bits11 (fun HT_ HW_ => ?_)
                 generalize wr.drew = w54 at HO_5 BK307 BK308 HB hx320_0 hx320_1 hx321_0 hx321_1 hx322_0 hx322_1 hx323_0 hx323_1 hx324_0 hx324_1 hx325_0 hx325_1 hHeld ⊢
                 refine PU 0 68 HT_ ?_
                 refine PU 1 69 HT_ ?_
                 refine PU 2 70 HT_ ?_
                 refine PU 3 71 HT_ ?_
                 refine PU 4 72 HT_ ?_
                 refine PU 6 74 HT_ ?_
                 refine PU 7 75 HT_ ?_
                 refine PU 8 76 HT_ ?_
                 refine PU 9 77 HT_ ?_
                 refine TU 5 73 HT_ HW_ hHeld ?_
                 refine TU 10 78 HT_ HW_ hHeld ?_
                 refine PU 11 79 HT_ ?_
                 refine PU 12 80 HT_ ?_
                 refine PU 13 81 HT_ ?_
                 refine PU 14 82 HT_ ?_
                 refine PU 15 83 HT_ ?_
                 refine PU 16 84 HT_ ?_
                 refine PU 17 85 HT_ ?_
                 refine PU 19 87 HT_ ?_
                 refine PU 20 88 HT_ ?_
                 refine PU 21 89 HT_ ?_
                 refine PU 22 90 HT_ ?_
                 refine TU 18 86 HT_ HW_ hHeld ?_
                 refine TU 23 91 HT_ HW_ hHeld ?_
                 refine PU 24 92 HT_ ?_
                 refine PU 25 93 HT_ ?_
                 refine PU 26 94 HT_ ?_
                 refine PU 27 95 HT_ ?_
                 refine PU 28 96 HT_ ?_
                 refine PU 29 97 HT_ ?_
                 refine PU 30 98 HT_ ?_
                 refine PU 32 100 HT_ ?_
                 refine PU 33 101 HT_ ?_
                 refine PU 34 102 HT_ ?_
                 refine PU 35 103 HT_ ?_
                 refine TU 31 99 HT_ HW_ hHeld ?_
                 refine TU 36 104 HT_ HW_ hHeld ?_
                 refine PU 37 105 HT_ ?_
                 refine PU 38 106 HT_ ?_
                 refine PU 39 107 HT_ ?_
                 refine done_ (done_of HT_.out (by kernel_rfl)) ?_
                 try go_wp2
                 go_ret
                 exact ⟨by first | rfl | (simp [errW_none, errW_some] <;> rfl) | (simp only [← hji44]; first | rfl | (simp [errW_none, errW_some] <;> rfl)) | (simp [*, errW_none, errW_some] <;> rfl), by repeat (first | (with_reducible first | exact HB.out | apply below_alloc | apply pw_below_drewN | apply below_drew1 | refine below_set ?_ GE307.out | refine below_set ?_ GE308.out) | exact HB.out)⟩
                ·rw [if_neg c52] at H
                 have c52b0 : decide (((rd_T48 t312 x7_3).f1) ≤ ((rd_T48 t312 (ji44)).f1)) = false := decide_eq_false c52
                 clear c52
                 have H' := Aside0.mk H
                 clear H
                 obtain ⟨Ao55, co55, eo55⟩ := Kd.R_slice HO_5.out
                 subst eo55
                 try go_wp2
                 have n0_ := Aside0.mk (Kd.R_drew HO_5.out)
                 have n1_ := Aside0.mk (blk_drew BK307.out)
                 have n2_ := Aside0.mk (blk_drew BK308.out)
                 have n3_ := Aside0.mk (below_drew1 HB.out)
                 clear HO_5
                 clear BK307
                 clear BK308
                 clear HB
                 have HO_5 := n0_
                 have BK307 := n1_
                 have BK308 := n2_
                 have HB := n3_
                 clear n0_ n1_ n2_ n3_
                 have p320 : 0 ≤ ((ji44) : Int) := of_decide_eq_true AX
                 have q320 : (ji44) < (t312.length : Int) := of_decide_eq_true AX
                 obtain ⟨ad320, e320, hx320_0, hx320_1⟩ := at_T48 (Kd.R_reads' HO_5.out).2.2 (ji44) p320 q320
                 cases e320
                 replace p320 := eq_true p320
                 replace q320 := eq_true q320
                 have p321 : 0 ≤ (x7_3 : Int) := of_decide_eq_true AX
                 have q321 : x7_3 < (t312.length : Int) := of_decide_eq_true AX
                 obtain ⟨ad321, e321, hx321_0, hx321_1⟩ := at_T48 (Kd.R_reads' HO_5.out).2.2 x7_3 p321 q321
                 obtain rfl : ad320 = ad321 := (by injection e321)
                 replace p321 := eq_true p321
                 replace q321 := eq_true q321
                 have p322 : 0 ≤ ((ji44) : Int) := of_decide_eq_true AX
                 have q322 : (ji44) < (t312.length : Int) := of_decide_eq_true AX
                 obtain ⟨ad322, e322, hx322_0, hx322_1⟩ := at_T48 (Kd.R_reads' HO_5.out).2.2 (ji44) p322 q322
                 obtain rfl : ad320 = ad322 := (by injection e322)
                 replace p322 := eq_true p322
                 replace q322 := eq_true q322
                 have p323 : 0 ≤ (x7_3 : Int) := of_decide_eq_true AX
                 have q323 : x7_3 < (t312.length : Int) := of_decide_eq_true AX
                 obtain ⟨ad323, e323, hx323_0, hx323_1⟩ := at_T48 (Kd.R_reads' HO_5.out).2.2 x7_3 p323 q323
                 obtain rfl : ad320 = ad323 := (by injection e323)
                 replace p323 := eq_true p323
                 replace q323 := eq_true q323
                 have p324 : 0 ≤ ((ji44) : Int) := of_decide_eq_true AX
                 have q324 : (ji44) < (t312.length : Int) := of_decide_eq_true AX
                 obtain ⟨ad324, e324, hx324_0, hx324_1⟩ := at_T48 (Kd.R_reads' HO_5.out).2.2 (ji44) p324 q324
                 obtain rfl : ad320 = ad324 := (by injection e324)
                 replace p324 := eq_true p324
                 replace q324 := eq_true q324
                 have p325 : 0 ≤ (x7_3 : Int) := of_decide_eq_true AX
                 have q325 : x7_3 < (t312.length : Int) := of_decide_eq_true AX
                 obtain ⟨ad325, e325, hx325_0, hx325_1⟩ := at_T48 (Kd.R_reads' HO_5.out).2.2 x7_3 p325 q325
                 obtain rfl : ad320 = ad325 := (by injection e325)
                 replace p325 := eq_true p325
                 replace q325 := eq_true q325
                 refine start_ (n := 40) (S := fun w' => w'.cell? (ad320.add (((ji44)).toNat * 2)) = some (.int .i64 ((rd_T48 t312 (ji44)).f0)) ∧ w'.cell? ⟨(ad320.add (((ji44)).toNat * 2)).block, (ad320.add (((ji44)).toNat * 2)).off + 1, none⟩ = some (.int .i64 ((rd_T48 t312 (ji44)).f1)) ∧ w'.cell? (ad320.add ((x7_3).toNat * 2)) = some (.int .i64 ((rd_T48 t312 x7_3).f0)) ∧ w'.cell? ⟨(ad320.add ((x7_3).toNat * 2)).block, (ad320.add ((x7_3).toNat * 2)).off + 1, none⟩ = some (.int .i64 ((rd_T48 t312 x7_3).f1)) ∧ w'.cell? (ad320.add (((ji44)).toNat * 2)) = some (.int .i64 ((rd_T48 t312 (ji44)).f0)) ∧ w'.cell? ⟨(ad320.add (((ji44)).toNat * 2)).block, (ad320.add (((ji44)).toNat * 2)).off + 1, none⟩ = some (.int .i64 ((rd_T48 t312 (ji44)).f1)) ∧ w'.cell? (ad320.add ((x7_3).toNat * 2)) = some (.int .i64 ((rd_T48 t312 x7_3).f0)) ∧ w'.cell? ⟨(ad320.add ((x7_3).toNat * 2)).block, (ad320.add ((x7_3).toNat * 2)).off + 1, none⟩ = some (.int .i64 ((rd_T48 t312 x7_3).f1)) ∧ w'.cell? (ad320.add (((ji44)).toNat * 2)) = some (.int .i64 ((rd_T48 t312 (ji44)).f0)) ∧ w'.cell? ⟨(ad320.add (((ji44)).toNat * 2)).block, (ad320.add (((ji44)).toNat * 2)).off + 1, none⟩ = some (.int .i64 ((rd_T48 t312 (ji44)).f1)) ∧ w'.cell? (ad320.add ((x7_3).toNat * 2)) = some (.int .i64 ((rd_T48 t312 x7_3).f0)) ∧ w'.cell? ⟨(ad320.add ((x7_3).toNat * 2)).block, (ad320.add ((x7_3).toNat * 2)).off + 1, none⟩ = some (.int .i64 ((rd_T48 t312 x7_3).f1))) (ds := []) #[false, false, false, false, false, false, false, false, false, false, false, false, false, false, false, false, false, false, false, false, false, false, false, false, false, false, false, false, false, false, false, false, false, false, false, false, false, false, false, false] (by kernel_rfl) rfl rfl ⟨hx320_0, hx320_1, hx321_0, hx321_1, hx322_0, hx322_1, hx323_0, hx323_1, hx324_0, hx324_1, hx325_0, hx325_1⟩ (fun hHeld => ?_); refine with_tabW treemergelaw31_ChangeComplete.tab11 treemergelaw31_ChangeComplete.bits11 (fun HT_ HW_ => ?_)
                 generalize wr.drew = w56 at HO_5 BK307 BK308 HB hx320_0 hx320_1 hx321_0 hx321_1 hx322_0 hx322_1 hx323_0 hx323_1 hx324_0 hx324_1 hx325_0 hx325_1 hHeld ⊢
                 refine PU 0 68 HT_ ?_
                 refine PU 1 69 HT_ ?_
                 refine PU 2 70 HT_ ?_
                 refine PU 3 71 HT_ ?_
                 refine PU 4 72 HT_ ?_
                 refine PU 6 74 HT_ ?_
                 refine PU 7 75 HT_ ?_
                 refine PU 8 76 HT_ ?_
                 refine PU 9 77 HT_ ?_
                 refine TU 5 73 HT_ HW_ hHeld ?_
                 refine TU 10 78 HT_ HW_ hHeld ?_
                 refine PU 11 79 HT_ ?_
                 refine PU 12 80 HT_ ?_
                 refine PU 13 81 HT_ ?_
                 refine PU 14 82 HT_ ?_
                 refine PU 15 83 HT_ ?_
                 refine PU 16 84 HT_ ?_
                 refine PU 17 85 HT_ ?_
                 refine PU 19 87 HT_ ?_
                 refine PU 20 88 HT_ ?_
                 refine PU 21 89 HT_ ?_
                 refine PU 22 90 HT_ ?_
                 refine TU 18 86 HT_ HW_ hHeld ?_
                 refine TU 23 91 HT_ HW_ hHeld ?_
                 refine PU 24 92 HT_ ?_
                 refine PU 25 93 HT_ ?_
                 refine PU 26 94 HT_ ?_
                 refine PU 27 95 HT_ ?_
                 refine PU 28 96 HT_ ?_
                 refine PU 29 97 HT_ ?_
                 refine PU 30 98 HT_ ?_
                 refine PU 32 100 HT_ ?_
                 refine PU 33 101 HT_ ?_
                 refine PU 34 102 HT_ ?_
                 refine PU 35 103 HT_ ?_
                 refine TU 31 99 HT_ HW_ hHeld ?_
                 refine TU 36 104 HT_ HW_ hHeld ?_
                 refine PU 37 105 HT_ ?_
                 refine PU 38 106 HT_ ?_
                 refine PU 39 107 HT_ ?_
                 refine done_ (done_of HT_.out (by kernel_rfl)) ?_
                 try go_wp2
                 go_roundg k3
                 case measure => have := HJ2.out; have := HJ21.out; have := HK3.out; omega
                 case rel => exact ⟨(wrap64 (x7_3 + 1)), SX, H', ⟨by have := HJ2.out; have := HJ21.out; have := HK3.out; omega⟩, ⟨RX HO_5.out⟩, ⟨by (with_reducible repeat (first | refine blk_drewN ?_ _ | refine blk_drew ?_ | refine blk_alloc ?_ _)); exact BK307.out⟩, ⟨by (with_reducible repeat (first | refine blk_drewN ?_ _ | refine blk_drew ?_ | refine blk_alloc ?_ _)); exact BK308.out⟩, ⟨by repeat (first | (with_reducible first | exact HB.out | apply below_alloc | apply pw_below_drewN | apply below_drew1 | refine below_set ?_ GE307.out | refine below_set ?_ GE308.out) | exact HB.out)⟩⟩
               ·rw [if_neg c51] at H
                have c51b0 : (((rd_T48 t312 (ji44)).f0) == ((rd_T48 t312 x7_3).f0)) = false := beq_eq_false_iff_ne.mpr c51
                have c51b1 : (((rd_T48 t312 (ji44)).f0) != ((rd_T48 t312 x7_3).f0)) = true := bne_iff_ne.mpr c51
                have H' := Aside0.mk H
                clear H
                obtain ⟨Ao57, co57, eo57⟩ := Kd.R_slice HO_5.out
                subst eo57
                try go_wp2
                have n0_ := Aside0.mk (Kd.R_drew HO_5.out)
                have n1_ := Aside0.mk (blk_drew BK307.out)
                have n2_ := Aside0.mk (blk_drew BK308.out)
                have n3_ := Aside0.mk (below_drew1 HB.out)
                clear HO_5
                clear BK307
                clear BK308
                clear HB
                have HO_5 := n0_
                have BK307 := n1_
                have BK308 := n2_
                have HB := n3_
                clear n0_ n1_ n2_ n3_
                have p320 : 0 ≤ ((ji44) : Int) := of_decide_eq_true AX
                have q320 : (ji44) < (t312.length : Int) := of_decide_eq_true AX
                obtain ⟨ad320, e320, hx320_0, hx320_1⟩ := at_T48 (Kd.R_reads' HO_5.out).2.2 (ji44) p320 q320
                cases e320
                replace p320 := eq_true p320
                replace q320 := eq_true q320
                have p321 : 0 ≤ (x7_3 : Int) := of_decide_eq_true AX
                have q321 : x7_3 < (t312.length : Int) := of_decide_eq_true AX
                obtain ⟨ad321, e321, hx321_0, hx321_1⟩ := at_T48 (Kd.R_reads' HO_5.out).2.2 x7_3 p321 q321
                obtain rfl : ad320 = ad321 := (by injection e321)
                replace p321 := eq_true p321
                replace q321 := eq_true q321
                have p322 : 0 ≤ ((ji44) : Int) := of_decide_eq_true AX
                have q322 : (ji44) < (t312.length : Int) := of_decide_eq_true AX
                obtain ⟨ad322, e322, hx322_0, hx322_1⟩ := at_T48 (Kd.R_reads' HO_5.out).2.2 (ji44) p322 q322
                obtain rfl : ad320 = ad322 := (by injection e322)
                replace p322 := eq_true p322
                replace q322 := eq_true q322
                have p323 : 0 ≤ (x7_3 : Int) := of_decide_eq_true AX
                have q323 : x7_3 < (t312.length : Int) := of_decide_eq_true AX
                obtain ⟨ad323, e323, hx323_0, hx323_1⟩ := at_T48 (Kd.R_reads' HO_5.out).2.2 x7_3 p323 q323
                obtain rfl : ad320 = ad323 := (by injection e323)
                replace p323 := eq_true p323
                replace q323 := eq_true q323
                refine start_ (n := 40) (S := fun w' => w'.cell? (ad320.add (((ji44)).toNat * 2)) = some (.int .i64 ((rd_T48 t312 (ji44)).f0)) ∧ w'.cell? ⟨(ad320.add (((ji44)).toNat * 2)).block, (ad320.add (((ji44)).toNat * 2)).off + 1, none⟩ = some (.int .i64 ((rd_T48 t312 (ji44)).f1)) ∧ w'.cell? (ad320.add ((x7_3).toNat * 2)) = some (.int .i64 ((rd_T48 t312 x7_3).f0)) ∧ w'.cell? ⟨(ad320.add ((x7_3).toNat * 2)).block, (ad320.add ((x7_3).toNat * 2)).off + 1, none⟩ = some (.int .i64 ((rd_T48 t312 x7_3).f1)) ∧ w'.cell? (ad320.add (((ji44)).toNat * 2)) = some (.int .i64 ((rd_T48 t312 (ji44)).f0)) ∧ w'.cell? ⟨(ad320.add (((ji44)).toNat * 2)).block, (ad320.add (((ji44)).toNat * 2)).off + 1, none⟩ = some (.int .i64 ((rd_T48 t312 (ji44)).f1)) ∧ w'.cell? (ad320.add ((x7_3).toNat * 2)) = some (.int .i64 ((rd_T48 t312 x7_3).f0)) ∧ w'.cell? ⟨(ad320.add ((x7_3).toNat * 2)).block, (ad320.add ((x7_3).toNat * 2)).off + 1, none⟩ = some (.int .i64 ((rd_T48 t312 x7_3).f1))) (ds := []) #[false, false, false, false, false, false, false, false, false, false, false, false, false, false, false, false, false, false, false, false, false, false, false, false, false, false, false, false, false, false, false, false, false, false, false, false, false, false, false, false] (by kernel_rfl) rfl rfl ⟨hx320_0, hx320_1, hx321_0, hx321_1, hx322_0, hx322_1, hx323_0, hx323_1⟩ (fun hHeld => ?_); refine with_tabW treemergelaw31_ChangeComplete.tab11 treemergelaw31_ChangeComplete.bits11 (fun HT_ HW_ => ?_)
                generalize wr.drew = w58 at HO_5 BK307 BK308 HB hx320_0 hx320_1 hx321_0 hx321_1 hx322_0 hx322_1 hx323_0 hx323_1 hHeld ⊢
                refine PU 0 68 HT_ ?_
                refine PU 1 69 HT_ ?_
                refine PU 2 70 HT_ ?_
                refine PU 3 71 HT_ ?_
                refine PU 4 72 HT_ ?_
                refine PU 6 74 HT_ ?_
                refine PU 7 75 HT_ ?_
                refine PU 8 76 HT_ ?_
                refine PU 9 77 HT_ ?_
                refine TU 5 73 HT_ HW_ hHeld ?_
                refine TU 10 78 HT_ HW_ hHeld ?_
                refine PU 11 79 HT_ ?_
                refine PU 12 80 HT_ ?_
                refine PU 13 81 HT_ ?_
                refine PU 14 82 HT_ ?_
                refine PU 15 83 HT_ ?_
                refine PU 16 84 HT_ ?_
                refine PU 17 85 HT_ ?_
                refine PU 19 87 HT_ ?_
                refine PU 20 88 HT_ ?_
                refine PU 21 89 HT_ ?_
                refine PU 22 90 HT_ ?_
                refine TU 18 86 HT_ HW_ hHeld ?_
                refine TU 23 91 HT_ HW_ hHeld ?_
                refine PU 24 92 HT_ ?_
                refine PU 25 93 HT_ ?_
                refine PV 26 94 HT_ ?_
                refine PV 27 95 HT_ ?_
                refine PV 28 96 HT_ ?_
                refine PV 29 97 HT_ ?_
                refine PV 30 98 HT_ ?_
                refine PV 31 99 HT_ ?_
                refine PV 32 100 HT_ ?_
                refine PV 33 101 HT_ ?_
                refine PV 34 102 HT_ ?_
                refine PV 35 103 HT_ ?_
                refine PV 36 104 HT_ ?_
                refine PV 37 105 HT_ ?_
                refine PU 38 106 HT_ ?_
                refine PU 39 107 HT_ ?_
                refine done_ (done_of HT_.out (by kernel_rfl)) ?_
                try go_wp2
                go_roundg k3
                case measure => have := HJ2.out; have := HJ21.out; have := HK3.out; omega
                case rel => exact ⟨(wrap64 (x7_3 + 1)), SX, H', ⟨by have := HJ2.out; have := HJ21.out; have := HK3.out; omega⟩, ⟨RX HO_5.out⟩, ⟨by (with_reducible repeat (first | refine blk_drewN ?_ _ | refine blk_drew ?_ | refine blk_alloc ?_ _)); exact BK307.out⟩, ⟨by (with_reducible repeat (first | refine blk_drewN ?_ _ | refine blk_drew ?_ | refine blk_alloc ?_ _)); exact BK308.out⟩, ⟨by repeat (first | (with_reducible first | exact HB.out | apply below_alloc | apply pw_below_drewN | apply below_drew1 | refine below_set ?_ GE307.out | refine below_set ?_ GE308.out) | exact HB.out)⟩⟩
             ·rw [if_neg c47] at H
              exact absurd H (by simp)
            ·rw [if_neg c46] at H
             exact absurd H (by simp)
           ·rw [if_neg c45] at H
            exact absurd H (by simp)
          ·rw [if_neg c43] at H
           have c43b0 : decide (x7_3 < (t312.length : Int)) = false := decide_eq_false c43
           clear c43
           replace H := Option.bind_eq_some_iff.mp H
           obtain ⟨t326, A590, H⟩ := H
           have A59 := Aside0.mk A590
           clear A590
           obtain rfl := Option.some.inj H
           obtain ⟨Ao60, co60, eo60⟩ := Kd.R_slice HO_5.out
           subst eo60
           go_wp2_with (first | ((with_reducible refine gate_callee (f := 9) rfl ?_); refine goesL_ (some 108) rfl rfl Try.func9 (by kernel_rfl) rfl #[] rfl MX ?_; (with_reducible refine (treemergelaw31_awake.calls  t326 _ A59.out).mono ?_); rintro e w61 ⟨rfl, hb⟩; refine ⟨_, rfl, ?_⟩; have n0_ := Aside0.mk (Kd.R_below (RX HO_5.out) hb); have n1_ := Aside0.mk (blk_below (g := gb307) (o := .cells #[.int .i64 a0_0, .string a0_1, .slice A0_2 l0_2.length c0_2, .slice A0_3 l0_3.length c0_3, .slice A0_4 l0_4.length c0_4] 28 (0, 0)) (by (with_reducible repeat (first | refine blk_drewN ?_ _ | refine blk_drew ?_ | refine blk_alloc ?_ _)); exact BK307.out) hb); have n2_ := Aside0.mk (blk_below (g := gb308) (o := .cells #[.int .i64 a1_0, .string a1_1, .slice A1_2 l1_2.length c1_2, .slice A1_3 l1_3.length c1_3, .slice A1_4 l1_4.length c1_4] 28 (0, 0)) (by (with_reducible repeat (first | refine blk_drewN ?_ _ | refine blk_drew ?_ | refine blk_alloc ?_ _)); exact BK308.out) hb); have n3_ := Aside0.mk (below_step (by repeat (first | (with_reducible first | exact HB.out | apply below_alloc | apply pw_below_drewN | apply below_drew1 | refine below_set ?_ GE307.out | refine below_set ?_ GE308.out) | exact HB.out)) hb); clear HO_5; clear BK307; clear BK308; clear HB; have HO_5 := n0_; have BK307 := n1_; have BK308 := n2_; have HB := n3_; clear n0_ n1_ n2_ n3_; (try clear hb); (try clear hb2); (try clear hk); (try clear hi)))
           go_ret
           exact ⟨by first | rfl | (simp [errW_none, errW_some] <;> rfl) | (simp [*, errW_none, errW_some] <;> rfl), by repeat (first | (with_reducible first | exact HB.out | apply below_alloc | apply pw_below_drewN | apply below_drew1 | refine below_set ?_ GE307.out | refine below_set ?_ GE308.out) | exact HB.out)⟩
    ·rw [if_neg c21] at H
     have c21b0 : (t315 == 0) = false := beq_eq_false_iff_ne.mpr c21
     have c21b1 : (t315 != 0) = true := bne_iff_ne.mpr c21
     by_cases c62 : (t312.length : Int) = 0
     ·rw [if_pos c62] at H
      have c62b0 : ((t312.length : Int) == 0) = true := beq_iff_eq.mpr c62
      have c62b1 : ((t312.length : Int) != 0) = false := bne_eq_false_iff_eq.mpr c62
      clear c62
      replace H := Option.bind_eq_some_iff.mp H
      obtain ⟨t316, A630, H⟩ := H
      have A63 := Aside0.mk A630
      clear A630
      obtain rfl := Option.some.inj H
      have hnb64 := NB307_308.out
      have hnc64 := NB308_307.out
      have hcz65_0 : wc.cell? ⟨gb307, 0, none⟩ = some (.int .i64 a0_0) := (blk_cell BK307.out 0).trans rfl
      have hcz65_1 : wc.cell? ⟨gb307, 1, none⟩ = some (.string a0_1) := (blk_cell BK307.out 1).trans rfl
      have hcz65_2 : wc.cell? ⟨gb307, 2, none⟩ = some (.slice A0_2 l0_2.length c0_2) := (blk_cell BK307.out 2).trans rfl
      have hcz65_3 : wc.cell? ⟨gb307, 3, none⟩ = some (.slice A0_3 l0_3.length c0_3) := (blk_cell BK307.out 3).trans rfl
      have hcz65_4 : wc.cell? ⟨gb307, 4, none⟩ = some (.slice A0_4 l0_4.length c0_4) := (blk_cell BK307.out 4).trans rfl
      have hfz65_0 := blk_frozen BK307.out 0
      have hfz65_1 := blk_frozen BK307.out 1
      have hfz65_2 := blk_frozen BK307.out 2
      have hfz65_3 := blk_frozen BK307.out 3
      have hfz65_4 := blk_frozen BK307.out 4
      have hcz66_0 : wc.cell? ⟨gb308, 0, none⟩ = some (.int .i64 a1_0) := (blk_cell BK308.out 0).trans rfl
      have hcz66_1 : wc.cell? ⟨gb308, 1, none⟩ = some (.string a1_1) := (blk_cell BK308.out 1).trans rfl
      have hcz66_2 : wc.cell? ⟨gb308, 2, none⟩ = some (.slice A1_2 l1_2.length c1_2) := (blk_cell BK308.out 2).trans rfl
      have hcz66_3 : wc.cell? ⟨gb308, 3, none⟩ = some (.slice A1_3 l1_3.length c1_3) := (blk_cell BK308.out 3).trans rfl
      have hcz66_4 : wc.cell? ⟨gb308, 4, none⟩ = some (.slice A1_4 l1_4.length c1_4) := (blk_cell BK308.out 4).trans rfl
      have hfz66_0 := blk_frozen BK308.out 0
      have hfz66_1 := blk_frozen BK308.out 1
      have hfz66_2 := blk_frozen BK308.out 2
      have hfz66_3 := blk_frozen BK308.out 3
      have hfz66_4 := blk_frozen BK308.out 4
      go_wp2_with (first | ((with_reducible refine gate_callee (f := 10) rfl ?_); refine goesL_ (some 26) rfl rfl Try.func10 (by kernel_rfl) rfl #[.agg #[.int .i64 a0_0, .string a0_1, .slice A0_2 l0_2.length c0_2, .slice A0_3 l0_3.length c0_3], .agg #[.int .i64 a1_0, .string a1_1, .slice A1_2 l1_2.length c1_2, .slice A1_3 l1_3.length c1_3], .slice A0_4 l0_4.length c0_4, .slice A1_4 l1_4.length c1_4] rfl MX ?_; (with_reducible refine (change_List.calls a0_0 a0_1 _ _ l0_2 _ _ l0_3 a1_0 a1_1 _ _ l1_2 _ _ l1_3 _ _ l0_4 _ _ l1_4 t312 t315 _ ?side1 ?side2 ?side3 ?side4 ?side5 ?side6 ?side7 ?side8 ?side9 ?side10 ?side11 ?side12 A20.out).mono ?_); (case side1 => exact CX (Kd.C_below HR0_2.out HB.out)); (case side2 => exact HC0_2.out); (case side3 => exact CX (Kd.C_below HR0_3.out HB.out)); (case side4 => exact HC0_3.out); (case side5 => exact CX (Kd.C_below HR1_2.out HB.out)); (case side6 => exact HC1_2.out); (case side7 => exact CX (Kd.C_below HR1_3.out HB.out)); (case side8 => exact HC1_3.out); (case side9 => exact CX (Kd.C_below HR0_4.out HB.out)); (case side10 => exact HC0_4.out); (case side11 => exact CX (Kd.C_below HR1_4.out HB.out)); (case side12 => exact HC1_4.out); rintro e w67 ⟨v313, rfl, ho0, hb⟩; refine ⟨_, rfl, ?_⟩; have n0_ := Aside0.mk (Kd.R_lower ho0 (below_size (by repeat (first | (with_reducible first | exact HB.out | apply below_alloc | apply pw_below_drewN | apply below_drew1 | refine below_set ?_ GE307.out | refine below_set ?_ GE308.out) | exact HB.out)))); have n1_ := Aside0.mk (blk_below (g := gb307) (o := .cells #[.int .i64 a0_0, .string a0_1, .slice A0_2 l0_2.length c0_2, .slice A0_3 l0_3.length c0_3, .slice A0_4 l0_4.length c0_4] 28 (0, 0)) (by (with_reducible repeat (first | refine blk_drewN ?_ _ | refine blk_drew ?_ | refine blk_alloc ?_ _)); exact BK307.out) hb); have n2_ := Aside0.mk (blk_below (g := gb308) (o := .cells #[.int .i64 a1_0, .string a1_1, .slice A1_2 l1_2.length c1_2, .slice A1_3 l1_3.length c1_3, .slice A1_4 l1_4.length c1_4] 28 (0, 0)) (by (with_reducible repeat (first | refine blk_drewN ?_ _ | refine blk_drew ?_ | refine blk_alloc ?_ _)); exact BK308.out) hb); have n3_ := Aside0.mk (below_step (by repeat (first | (with_reducible first | exact HB.out | apply below_alloc | apply pw_below_drewN | apply below_drew1 | refine below_set ?_ GE307.out | refine below_set ?_ GE308.out) | exact HB.out)) hb); clear BK307; clear BK308; clear HB; have HO314 := n0_; have BK307 := n1_; have BK308 := n2_; have HB := n3_; clear n0_ n1_ n2_ n3_; (try clear hb); (try clear hb2); (try clear hk); (try clear hi); (try clear ho0); obtain ⟨Ao68, co68, eo68⟩ := Kd.R_slice HO314.out; subst eo68) | (go_at_call 9; (with_reducible refine (treemergelaw31_awake.calls  t316 _ A63.out).mono ?_); rintro e w69 ⟨rfl, hb⟩; have n0_ := Aside0.mk (Kd.R_below (RX HO314.out) hb); have n1_ := Aside0.mk (blk_below (g := gb307) (o := .cells #[.int .i64 a0_0, .string a0_1, .slice A0_2 l0_2.length c0_2, .slice A0_3 l0_3.length c0_3, .slice A0_4 l0_4.length c0_4] 28 (0, 0)) (by (with_reducible repeat (first | refine blk_drewN ?_ _ | refine blk_drew ?_ | refine blk_alloc ?_ _)); exact BK307.out) hb); have n2_ := Aside0.mk (blk_below (g := gb308) (o := .cells #[.int .i64 a1_0, .string a1_1, .slice A1_2 l1_2.length c1_2, .slice A1_3 l1_3.length c1_3, .slice A1_4 l1_4.length c1_4] 28 (0, 0)) (by (with_reducible repeat (first | refine blk_drewN ?_ _ | refine blk_drew ?_ | refine blk_alloc ?_ _)); exact BK308.out) hb); have n3_ := Aside0.mk (below_step (by repeat (first | (with_reducible first | exact HB.out | apply below_alloc | apply pw_below_drewN | apply below_drew1 | refine below_set ?_ GE307.out | refine below_set ?_ GE308.out) | exact HB.out)) hb); clear HO314; clear BK307; clear BK308; clear HB; have HO314 := n0_; have BK307 := n1_; have BK308 := n2_; have HB := n3_; clear n0_ n1_ n2_ n3_; (try clear hb); (try clear hb2); (try clear hk); (try clear hi)))
      go_ret
      exact ⟨by first | rfl | (simp [errW_none, errW_some] <;> rfl) | (simp [*, errW_none, errW_some] <;> rfl), by repeat (first | (with_reducible first | exact HB.out | apply below_alloc | apply pw_below_drewN | apply below_drew1 | refine below_set ?_ GE307.out | refine below_set ?_ GE308.out) | exact HB.out)⟩
     ·rw [if_neg c62] at H
      have c62b0 : ((t312.length : Int) == 0) = false := beq_eq_false_iff_ne.mpr c62
      have c62b1 : ((t312.length : Int) != 0) = true := bne_iff_ne.mpr c62
      have c62b2 : ¬ (t312 = []) := fun h_ => c62 (by rw [h_]; rfl)
      obtain rfl := Option.some.inj H
      have hnb70 := NB307_308.out
      have hnc70 := NB308_307.out
      have hcz71_0 : wc.cell? ⟨gb307, 0, none⟩ = some (.int .i64 a0_0) := (blk_cell BK307.out 0).trans rfl
      have hcz71_1 : wc.cell? ⟨gb307, 1, none⟩ = some (.string a0_1) := (blk_cell BK307.out 1).trans rfl
      have hcz71_2 : wc.cell? ⟨gb307, 2, none⟩ = some (.slice A0_2 l0_2.length c0_2) := (blk_cell BK307.out 2).trans rfl
      have hcz71_3 : wc.cell? ⟨gb307, 3, none⟩ = some (.slice A0_3 l0_3.length c0_3) := (blk_cell BK307.out 3).trans rfl
      have hcz71_4 : wc.cell? ⟨gb307, 4, none⟩ = some (.slice A0_4 l0_4.length c0_4) := (blk_cell BK307.out 4).trans rfl
      have hfz71_0 := blk_frozen BK307.out 0
      have hfz71_1 := blk_frozen BK307.out 1
      have hfz71_2 := blk_frozen BK307.out 2
      have hfz71_3 := blk_frozen BK307.out 3
      have hfz71_4 := blk_frozen BK307.out 4
      have hcz72_0 : wc.cell? ⟨gb308, 0, none⟩ = some (.int .i64 a1_0) := (blk_cell BK308.out 0).trans rfl
      have hcz72_1 : wc.cell? ⟨gb308, 1, none⟩ = some (.string a1_1) := (blk_cell BK308.out 1).trans rfl
      have hcz72_2 : wc.cell? ⟨gb308, 2, none⟩ = some (.slice A1_2 l1_2.length c1_2) := (blk_cell BK308.out 2).trans rfl
      have hcz72_3 : wc.cell? ⟨gb308, 3, none⟩ = some (.slice A1_3 l1_3.length c1_3) := (blk_cell BK308.out 3).trans rfl
      have hcz72_4 : wc.cell? ⟨gb308, 4, none⟩ = some (.slice A1_4 l1_4.length c1_4) := (blk_cell BK308.out 4).trans rfl
      have hfz72_0 := blk_frozen BK308.out 0
      have hfz72_1 := blk_frozen BK308.out 1
      have hfz72_2 := blk_frozen BK308.out 2
      have hfz72_3 := blk_frozen BK308.out 3
      have hfz72_4 := blk_frozen BK308.out 4
      go_wp2_with (first | ((with_reducible refine gate_callee (f := 10) rfl ?_); refine goesL_ (some 26) rfl rfl Try.func10 (by kernel_rfl) rfl #[.agg #[.int .i64 a0_0, .string a0_1, .slice A0_2 l0_2.length c0_2, .slice A0_3 l0_3.length c0_3], .agg #[.int .i64 a1_0, .string a1_1, .slice A1_2 l1_2.length c1_2, .slice A1_3 l1_3.length c1_3], .slice A0_4 l0_4.length c0_4, .slice A1_4 l1_4.length c1_4] rfl MX ?_; (with_reducible refine (change_List.calls a0_0 a0_1 _ _ l0_2 _ _ l0_3 a1_0 a1_1 _ _ l1_2 _ _ l1_3 _ _ l0_4 _ _ l1_4 t312 t315 _ ?side1 ?side2 ?side3 ?side4 ?side5 ?side6 ?side7 ?side8 ?side9 ?side10 ?side11 ?side12 A20.out).mono ?_); (case side1 => exact CX (Kd.C_below HR0_2.out HB.out)); (case side2 => exact HC0_2.out); (case side3 => exact CX (Kd.C_below HR0_3.out HB.out)); (case side4 => exact HC0_3.out); (case side5 => exact CX (Kd.C_below HR1_2.out HB.out)); (case side6 => exact HC1_2.out); (case side7 => exact CX (Kd.C_below HR1_3.out HB.out)); (case side8 => exact HC1_3.out); (case side9 => exact CX (Kd.C_below HR0_4.out HB.out)); (case side10 => exact HC0_4.out); (case side11 => exact CX (Kd.C_below HR1_4.out HB.out)); (case side12 => exact HC1_4.out); rintro e w73 ⟨v313, rfl, ho0, hb⟩; refine ⟨_, rfl, ?_⟩; have n0_ := Aside0.mk (Kd.R_lower ho0 (below_size (by repeat (first | (with_reducible first | exact HB.out | apply below_alloc | apply pw_below_drewN | apply below_drew1 | refine below_set ?_ GE307.out | refine below_set ?_ GE308.out) | exact HB.out)))); have n1_ := Aside0.mk (blk_below (g := gb307) (o := .cells #[.int .i64 a0_0, .string a0_1, .slice A0_2 l0_2.length c0_2, .slice A0_3 l0_3.length c0_3, .slice A0_4 l0_4.length c0_4] 28 (0, 0)) (by (with_reducible repeat (first | refine blk_drewN ?_ _ | refine blk_drew ?_ | refine blk_alloc ?_ _)); exact BK307.out) hb); have n2_ := Aside0.mk (blk_below (g := gb308) (o := .cells #[.int .i64 a1_0, .string a1_1, .slice A1_2 l1_2.length c1_2, .slice A1_3 l1_3.length c1_3, .slice A1_4 l1_4.length c1_4] 28 (0, 0)) (by (with_reducible repeat (first | refine blk_drewN ?_ _ | refine blk_drew ?_ | refine blk_alloc ?_ _)); exact BK308.out) hb); have n3_ := Aside0.mk (below_step (by repeat (first | (with_reducible first | exact HB.out | apply below_alloc | apply pw_below_drewN | apply below_drew1 | refine below_set ?_ GE307.out | refine below_set ?_ GE308.out) | exact HB.out)) hb); clear BK307; clear BK308; clear HB; have HO314 := n0_; have BK307 := n1_; have BK308 := n2_; have HB := n3_; clear n0_ n1_ n2_ n3_; (try clear hb); (try clear hb2); (try clear hk); (try clear hi); (try clear ho0); obtain ⟨Ao74, co74, eo74⟩ := Kd.R_slice HO314.out; subst eo74))
      go_ret
      exact ⟨by first | rfl | (simp [errW_none, errW_some] <;> rfl) | (simp [*, errW_none, errW_some] <;> rfl), by repeat (first | (with_reducible first | exact HB.out | apply below_alloc | apply pw_below_drewN | apply below_drew1 | refine below_set ?_ GE307.out | refine below_set ?_ GE308.out) | exact HB.out)⟩

end Go.Proofs.Ytcfjdehpbckomaa.Q
