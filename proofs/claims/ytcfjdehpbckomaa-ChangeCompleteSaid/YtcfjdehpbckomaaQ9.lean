-- Written by a program of this session (mk.py) out of the translation; Lean checks it.
import Derived.Test.YtcfjdehpbckomaaQ0
import Derived.Test.YtcfjdehpbckomaaQ8
namespace Go.Proofs.Ytcfjdehpbckomaa.Q
open Go.RowKit Go.Proofs.YtcfjdehpbckomaaW.PrintWords Go.Proofs.YtcfjdehpbckomaaW.PrintLast Go.Proofs.YtcfjdehpbckomaaW.PrintMore
attribute [local go_sem] max2_int min2_int max_two min_two max_three min_three max_four min_four   -- for this text's walks alone
set_option linter.unusedVariables false
set_option linter.unusedSimpArgs false

/-! ### treemergelaw31_equal: function 47 -/
mutual
def treemergelaw31_equal.j0 : Nat → List (S70) → List (S70) → List Int → List Int → Int → Int → Bool → Option (Bool)
 | 0, _, _, _, _, _, _, _ => none
 | k + 1, x0, x1, x2, x3, x4, x5, x66 => if x66 = true then (some false) else (treemergelaw31_equal.l0 k x0 x1 x2 x3 x4 x5 0)
def treemergelaw31_equal.l0 : Nat → List (S70) → List (S70) → List Int → List Int → Int → Int → Int → Option (Bool)
 | 0, _, _, _, _, _, _, _ => none
 | k + 1, x0, x1, x2, x3, x4, x5, x13 => if 0 ≤ x4 then (if x4 < (x0.length : Int) then (if x13 < (((rd_T70 x0 x4).f3).length : Int) then (if 0 ≤ x13 then (if 0 ≤ x5 then (if x5 < (x1.length : Int) then (if x13 < (((rd_T70 x1 x5).f3).length : Int) then (if (rdOf ByteArray.empty ((rd_T70 x0 x4).f3) x13).toList = (rdOf ByteArray.empty ((rd_T70 x1 x5).f3) x13).toList then (treemergelaw31_equal.l0 k x0 x1 x2 x3 x4 x5 (wrap64 (x13 + 1))) else (some false)) else (none)) else (none)) else (none)) else (none)) else (treemergelaw31_equal.l1 k x0 x1 x2 x3 x4 x5 0)) else (none)) else (none)
def treemergelaw31_equal.l1 : Nat → List (S70) → List (S70) → List Int → List Int → Int → Int → Int → Option (Bool)
 | 0, _, _, _, _, _, _, _ => none
 | k + 1, x0, x1, x2, x3, x4, x5, x14 => if 0 ≤ x4 then (if x4 < (x0.length : Int) then (if x14 < (((rd_T70 x0 x4).f4).length : Int) then (if 0 ≤ x14 then (if 0 ≤ (rd ((rd_T70 x0 x4).f4) x14) then (if (rd ((rd_T70 x0 x4).f4) x14) < (x2.length : Int) then (if 0 ≤ x5 then (if x5 < (x1.length : Int) then (if x14 < (((rd_T70 x1 x5).f4).length : Int) then (if 0 ≤ (rd ((rd_T70 x1 x5).f4) x14) then (if (rd ((rd_T70 x1 x5).f4) x14) < (x3.length : Int) then (if (rd x2 (rd ((rd_T70 x0 x4).f4) x14)) = (rd x3 (rd ((rd_T70 x1 x5).f4) x14)) then (treemergelaw31_equal.l1 k x0 x1 x2 x3 x4 x5 (wrap64 (x14 + 1))) else (some false)) else (none)) else (none)) else (none)) else (none)) else (none)) else (none)) else (none)) else (none)) else (some true)) else (none)) else (none)
end
def treemergelaw31_equal.f (k : Nat) (l0 : List (S70)) (l1 : List (S70)) (l2 : List Int) (l3 : List Int) (a4 : Int) (a5 : Int) : Option (Bool) := if 0 ≤ a4 then (if a4 < (l0.length : Int) then (if 0 ≤ a5 then (if a5 < (l1.length : Int) then (if ((rd_T70 l0 a4).f2).toList = ((rd_T70 l1 a5).f2).toList then ((treemergelaw31_up.f l0 l2 a4).bind fun t278 => ((treemergelaw31_up.f l1 l3 a5).bind fun t279 => (if t278 = t279 then (if (((rd_T70 l0 a4).f3).length : Int) = (((rd_T70 l1 a5).f3).length : Int) then (treemergelaw31_equal.j0 k l0 l1 l2 l3 a4 a5 ((((rd_T70 l0 a4).f4).length : Int) != (((rd_T70 l1 a5).f4).length : Int))) else (treemergelaw31_equal.j0 k l0 l1 l2 l3 a4 a5 true)) else (treemergelaw31_equal.j0 k l0 l1 l2 l3 a4 a5 true)))) else (treemergelaw31_equal.j0 k l0 l1 l2 l3 a4 a5 true)) else (none)) else (none)) else (none)) else (none)
theorem treemergelaw31_equal.mono_l : ∀ k, (∀ y0 y1 y2 y3 y4 y5 y6, LeO (treemergelaw31_equal.j0 k y0 y1 y2 y3 y4 y5 y6) (treemergelaw31_equal.j0 (k + 1) y0 y1 y2 y3 y4 y5 y6)) ∧ (∀ y0 y1 y2 y3 y4 y5 y6, LeO (treemergelaw31_equal.l0 k y0 y1 y2 y3 y4 y5 y6) (treemergelaw31_equal.l0 (k + 1) y0 y1 y2 y3 y4 y5 y6)) ∧ (∀ y0 y1 y2 y3 y4 y5 y6, LeO (treemergelaw31_equal.l1 k y0 y1 y2 y3 y4 y5 y6) (treemergelaw31_equal.l1 (k + 1) y0 y1 y2 y3 y4 y5 y6))
 | 0 => ⟨fun _ _ _ _ _ _ _ r h => by simp [treemergelaw31_equal.j0] at h, fun _ _ _ _ _ _ _ r h => by simp [treemergelaw31_equal.l0] at h, fun _ _ _ _ _ _ _ r h => by simp [treemergelaw31_equal.l1] at h⟩
 | k + 1 => by
  obtain ⟨ih0, ih1, ih2⟩ := treemergelaw31_equal.mono_l k
  refine ⟨?_, ?_, ?_⟩
  ·intro y0 y1 y2 y3 y4 y5 y6
   unfold treemergelaw31_equal.j0
   repeat' first
   | (with_reducible exact ih0 _ _ _ _ _ _ _)
   | (with_reducible exact ih1 _ _ _ _ _ _ _)
   | (with_reducible exact ih2 _ _ _ _ _ _ _)
   | (with_reducible exact LeO.refl _)
   | (with_reducible exact LeO.none _)
   | (with_reducible refine LeO.ite ?_ ?_)
   | (with_reducible refine LeO.bind ?_ (fun _ => ?_))
  ·intro y0 y1 y2 y3 y4 y5 y6
   unfold treemergelaw31_equal.l0
   repeat' first
   | (with_reducible exact ih0 _ _ _ _ _ _ _)
   | (with_reducible exact ih1 _ _ _ _ _ _ _)
   | (with_reducible exact ih2 _ _ _ _ _ _ _)
   | (with_reducible exact LeO.refl _)
   | (with_reducible exact LeO.none _)
   | (with_reducible refine LeO.ite ?_ ?_)
   | (with_reducible refine LeO.bind ?_ (fun _ => ?_))
  ·intro y0 y1 y2 y3 y4 y5 y6
   unfold treemergelaw31_equal.l1
   repeat' first
   | (with_reducible exact ih0 _ _ _ _ _ _ _)
   | (with_reducible exact ih1 _ _ _ _ _ _ _)
   | (with_reducible exact ih2 _ _ _ _ _ _ _)
   | (with_reducible exact LeO.refl _)
   | (with_reducible exact LeO.none _)
   | (with_reducible refine LeO.ite ?_ ?_)
   | (with_reducible refine LeO.bind ?_ (fun _ => ?_))
theorem treemergelaw31_equal.mono : ∀ a0 a1 a2 a3 a4 a5 k, LeO (treemergelaw31_equal.f k a0 a1 a2 a3 a4 a5) (treemergelaw31_equal.f (k + 1) a0 a1 a2 a3 a4 a5) := by
 intro a0 a1 a2 a3 a4 a5 k
 obtain ⟨ih0, ih1, ih2⟩ := treemergelaw31_equal.mono_l k
 unfold treemergelaw31_equal.f
 repeat' first
   | (with_reducible exact ih0 _ _ _ _ _ _ _)
   | (with_reducible exact ih1 _ _ _ _ _ _ _)
   | (with_reducible exact ih2 _ _ _ _ _ _ _)
   | (with_reducible exact LeO.refl _)
   | (with_reducible exact LeO.none _)
   | (with_reducible refine LeO.ite ?_ ?_)
   | (with_reducible refine LeO.bind ?_ (fun _ => ?_))
def treemergelaw31_equal.T1 : Bool × List (List Nat × List Nat) := (true, [([], []), ([], []), ([0, 1], [0, 1]), ([2], [2]), ([3], [3]), ([], []), ([], []), ([5, 6], [5, 6]), ([7], [7]), ([8], [8]), ([4, 9], [4, 9]), ([10], [10]), ([11], [11]), ([11], [11]), ([11], [11]), ([12, 13, 14, 11, 11], [11, 12, 13, 14]), ([11], [11]), ([11], [11]), ([11], [11]), ([16, 17, 18, 15, 11], [11, 16, 17, 18]), ([15, 19, 11], [11, 15, 19]), ([11, 20], [11, 20]), ([21, 19], [21]), ([22], [22]), ([22], [22]), ([23, 24, 22], [22, 23, 24]), ([25, 22], [22, 25]), ([26, 22], [22, 26]), ([27, 22], [22, 27]), ([22], [22]), ([22], [22]), ([29, 30, 22], [22, 29, 30]), ([31, 22], [22, 31]), ([32, 22], [22, 32]), ([33, 22], [22, 33]), ([28, 34, 22], [22, 28, 34]), ([22, 35], [22, 35]), ([36, 22], [36]), ([37], [37]), ([37], [37]), ([38, 39, 37], [37, 38, 39]), ([40, 37], [37, 40]), ([41, 37], [37, 41]), ([42, 37], [37, 42]), ([37], [37]), ([37], [37]), ([44, 45, 37], [37, 44, 45]), ([46, 37], [37, 46]), ([47, 37], [37, 47]), ([48, 37], [37, 48]), ([43, 49, 37], [37, 43, 49]), ([37, 50], [37, 50])])
def treemergelaw31_equal.B1 : List Nat := [0, 0, 3, 7, 15, 0, 0, 96, 224, 480, 1023, 2047, 4095, 4095, 4095, 32767, 4095, 4095, 4095, 524287, 1048575, 2097151, 4194303, 8388607, 8388607, 33554431, 67108863, 134217727, 268435455, 8388607, 8388607, 1619001343, 3766484991, 8061452287, 16651386879, 34359738367, 68719476735, 137438953471, 274877906943, 274877906943, 1099511627775, 2199023255551, 4398046511103, 8796093022207, 274877906943, 274877906943, 53051436040191, 123420180217855, 264157668573183, 545632645283839, 1125899906842623, 2251799813685247]
theorem treemergelaw31_equal.tab1 : rtab .any (opsOf Try.f47 1) = treemergelaw31_equal.T1 := by kernel_rfl
theorem treemergelaw31_equal.bits1 : waitsOk treemergelaw31_equal.T1.2 treemergelaw31_equal.B1 = true := by kernel_rfl
def treemergelaw31_equal.T6 : Bool × List (List Nat × List Nat) := (true, [([], []), ([], []), ([0, 1], [0, 1]), ([2], [2]), ([3], [3]), ([], []), ([4, 5], [4, 5]), ([6], [6]), ([], []), ([], []), ([8, 9], [8, 9]), ([10], [10]), ([11], [11]), ([], []), ([12, 13], [12, 13]), ([14], [14]), ([7, 15], [7, 15])])
def treemergelaw31_equal.B6 : List Nat := [0, 0, 3, 7, 15, 0, 63, 127, 0, 0, 768, 1792, 3840, 0, 16128, 32512, 65535]
theorem treemergelaw31_equal.tab6 : rtab .any (opsOf Try.f47 6) = treemergelaw31_equal.T6 := by kernel_rfl
theorem treemergelaw31_equal.bits6 : waitsOk treemergelaw31_equal.T6.2 treemergelaw31_equal.B6 = true := by kernel_rfl
def treemergelaw31_equal.T11 : Bool × List (List Nat × List Nat) := (true, [([], []), ([], []), ([], []), ([1, 2], [1, 2]), ([3], [3]), ([4], [4]), ([], []), ([5, 6], [5, 6]), ([7], [7]), ([0, 8], [0, 8]), ([9], [9]), ([], []), ([], []), ([], []), ([12, 13], [12, 13]), ([14], [14]), ([15], [15]), ([], []), ([16, 17], [16, 17]), ([18], [18]), ([11, 19], [11, 19]), ([20], [20]), ([10, 21], [10, 21])])
def treemergelaw31_equal.B11 : List Nat := [0, 0, 0, 6, 14, 30, 0, 126, 254, 511, 1023, 0, 0, 0, 12288, 28672, 61440, 0, 258048, 520192, 1046528, 2095104, 4194303]
theorem treemergelaw31_equal.tab11 : rtab .any (opsOf Try.f47 11) = treemergelaw31_equal.T11 := by kernel_rfl
theorem treemergelaw31_equal.bits11 : waitsOk treemergelaw31_equal.T11.2 treemergelaw31_equal.B11 = true := by kernel_rfl
set_option maxHeartbeats 8000000 in
set_option maxRecDepth 100000 in
theorem treemergelaw31_equal.calls (k : Nat) (A0 : Option Addr) (c0 : Nat) (l0 : List (S70)) (A1 : Option Addr) (c1 : Nat) (l1 : List (S70)) (A2 : Option Addr) (c2 : Nat) (l2 : List Int) (A3 : Option Addr) (c3 : Nat) (l3 : List Int) (a4 : Int) (a5 : Int) (r : Bool) (w : World) (hr0 : Kd.C k70 w A0 l0.length l0) (hc0 : l0.length ≤ c0) (hr1 : Kd.C k70 w A1 l1.length l1) (hc1 : l1.length ≤ c1) (hr2 : Kd.C (Kd.int .i64) w A2 l2.length l2) (hc2 : l2.length ≤ c2) (hr3 : Kd.C (Kd.int .i64) w A3 l3.length l3) (hc3 : l3.length ≤ c3) (h : treemergelaw31_equal.f k l0 l1 l2 l3 a4 a5 = some r) :
  Calls Try.prog 47 #[.slice A0 l0.length c0, .slice A1 l1.length c1, .slice A2 l2.length c2, .slice A3 l3.length c3, .int .i64 a4, .int .i64 a5] w fun e w' => e = .returned (.bool r) ∧ Below w.heap.size w w' := by
 have HR0 := Aside0.mk hr0
 have HC0 := Aside0.mk hc0
 clear hr0 hc0
 have HR1 := Aside0.mk hr1
 have HC1 := Aside0.mk hc1
 clear hr1 hc1
 have HR2 := Aside0.mk hr2
 have HC2 := Aside0.mk hc2
 clear hr2 hc2
 have HR3 := Aside0.mk hr3
 have HC3 := Aside0.mk hc3
 clear hr3 hc3
 have HB := Aside0.mk (Below.refl w.heap.size w)
 have H : (if 0 ≤ a4 then (if a4 < (l0.length : Int) then (if 0 ≤ a5 then (if a5 < (l1.length : Int) then (if ((rd_T70 l0 a4).f2).toList = ((rd_T70 l1 a5).f2).toList then ((treemergelaw31_up.f l0 l2 a4).bind fun t278 => ((treemergelaw31_up.f l1 l3 a5).bind fun t279 => (if t278 = t279 then (if (((rd_T70 l0 a4).f3).length : Int) = (((rd_T70 l1 a5).f3).length : Int) then (treemergelaw31_equal.j0 k l0 l1 l2 l3 a4 a5 ((((rd_T70 l0 a4).f4).length : Int) != (((rd_T70 l1 a5).f4).length : Int))) else (treemergelaw31_equal.j0 k l0 l1 l2 l3 a4 a5 true)) else (treemergelaw31_equal.j0 k l0 l1 l2 l3 a4 a5 true)))) else (treemergelaw31_equal.j0 k l0 l1 l2 l3 a4 a5 true)) else (none)) else (none)) else (none)) else (none)) = some r := h
 clear h
 have HC7 := Aside0.mk H
 clear H
 go_enter Try.func47, Try.ntmps47
 go_upto_region 1 with (fail)
 go_cut [66] (fun v66 wc => ∃ (kq : Nat) (x66_6 : Bool), v66 = .bool x66_6 ∧ Aside0 (treemergelaw31_equal.j0 kq l0 l1 l2 l3 a4 a5 x66_6 = some r) ∧ Aside0 (kq ≤ k) ∧ Aside0 (Below w.heap.size w wc))
 case first =>
  have H := HC7.out
  clear HC7
  by_cases c8 : 0 ≤ a4
  ·rw [if_pos c8] at H
   have c8b0 : decide (0 ≤ a4) = true := decide_eq_true c8
   clear c8
   (first | rw [c8b0] | (simp only [i64_w, i32_w]; rw [c8b0]) | skip)
   by_cases c9 : a4 < (l0.length : Int)
   ·rw [if_pos c9] at H
    have c9b0 : decide (a4 < (l0.length : Int)) = true := decide_eq_true c9
    clear c9
    by_cases c10 : 0 ≤ a5
    ·rw [if_pos c10] at H
     have c10b0 : decide (0 ≤ a5) = true := decide_eq_true c10
     clear c10
     by_cases c11 : a5 < (l1.length : Int)
     ·rw [if_pos c11] at H
      have c11b0 : decide (a5 < (l1.length : Int)) = true := decide_eq_true c11
      clear c11
      by_cases c12 : ((rd_T70 l0 a4).f2).toList = ((rd_T70 l1 a5).f2).toList
      ·rw [if_pos c12] at H
       have c12b0 : (((rd_T70 l0 a4).f2).toList == ((rd_T70 l1 a5).f2).toList) = true := beq_iff_eq.mpr c12
       have c12b1 : (((rd_T70 l0 a4).f2).toList != ((rd_T70 l1 a5).f2).toList) = false := bne_eq_false_iff_eq.mpr c12
       clear c12
       replace H := Option.bind_eq_some_iff.mp H
       obtain ⟨t278, A130, H⟩ := H
       have A13 := Aside0.mk A130
       clear A130
       replace H := Option.bind_eq_some_iff.mp H
       obtain ⟨t279, A140, H⟩ := H
       have A14 := Aside0.mk A140
       clear A140
       by_cases c15 : t278 = t279
       ·rw [if_pos c15] at H
        have c15b0 : (t278 == t279) = true := beq_iff_eq.mpr c15
        have c15b1 : (t278 != t279) = false := bne_eq_false_iff_eq.mpr c15
        clear c15
        by_cases c16 : (((rd_T70 l0 a4).f3).length : Int) = (((rd_T70 l1 a5).f3).length : Int)
        ·rw [if_pos c16] at H
         have c16b0 : ((((rd_T70 l0 a4).f3).length : Int) == (((rd_T70 l1 a5).f3).length : Int)) = true := beq_iff_eq.mpr c16
         have c16b1 : ((((rd_T70 l0 a4).f3).length : Int) != (((rd_T70 l1 a5).f3).length : Int)) = false := bne_eq_false_iff_eq.mpr c16
         have c16b2 : (((rd_T70 l0 a4).f3).length == ((rd_T70 l1 a5).f3).length) = true := by first | simpa using c16 | (simp at c16 ⊢; omega)
         clear c16
         have H' := Aside0.mk H
         clear H
         try go_wp2
         have n0_ := Aside0.mk (below_drew1 HB.out)
         clear HB
         have HB := n0_
         clear n0_
         have p276 : 0 ≤ (a4 : Int) := of_decide_eq_true AX
         have q276 : a4 < (l0.length : Int) := of_decide_eq_true AX
         obtain ⟨ad276, A276_3, c276_3, A276_4, c276_4, e276, hx276_0, hx276_1, hx276_2, hx276_3, hx276_4, hl276_3, hi276_3, hl276_4, hi276_4⟩ := at_T70 HR0.out a4 p276 q276
         have hw276_4 := hx276_4
         have hw276_3 := hx276_3
         have hw276_2 := hx276_2
         have hw276_1 := hx276_1
         have hw276_0 := hx276_0
         cases e276
         replace hx276_0 := (HB.out.cell (World.block_lt_of_cell? w _ hx276_0)).trans hx276_0
         replace hx276_1 := (HB.out.cell (World.block_lt_of_cell? w _ hx276_1)).trans hx276_1
         replace hx276_2 := (HB.out.cell (World.block_lt_of_cell? w _ hx276_2)).trans hx276_2
         replace hx276_3 := (HB.out.cell (World.block_lt_of_cell? w _ hx276_3)).trans hx276_3
         replace hx276_4 := (HB.out.cell (World.block_lt_of_cell? w _ hx276_4)).trans hx276_4
         have HR276_3 := Aside0.mk hi276_3
         have HC276_3 := Aside0.mk hl276_3
         clear hi276_3 hl276_3
         have HR276_4 := Aside0.mk hi276_4
         have HC276_4 := Aside0.mk hl276_4
         clear hi276_4 hl276_4
         replace p276 := eq_true p276
         replace q276 := eq_true q276
         have p277 : 0 ≤ (a5 : Int) := of_decide_eq_true AX
         have q277 : a5 < (l1.length : Int) := of_decide_eq_true AX
         obtain ⟨ad277, A277_3, c277_3, A277_4, c277_4, e277, hx277_0, hx277_1, hx277_2, hx277_3, hx277_4, hl277_3, hi277_3, hl277_4, hi277_4⟩ := at_T70 HR1.out a5 p277 q277
         have hw277_4 := hx277_4
         have hw277_3 := hx277_3
         have hw277_2 := hx277_2
         have hw277_1 := hx277_1
         have hw277_0 := hx277_0
         cases e277
         replace hx277_0 := (HB.out.cell (World.block_lt_of_cell? w _ hx277_0)).trans hx277_0
         replace hx277_1 := (HB.out.cell (World.block_lt_of_cell? w _ hx277_1)).trans hx277_1
         replace hx277_2 := (HB.out.cell (World.block_lt_of_cell? w _ hx277_2)).trans hx277_2
         replace hx277_3 := (HB.out.cell (World.block_lt_of_cell? w _ hx277_3)).trans hx277_3
         replace hx277_4 := (HB.out.cell (World.block_lt_of_cell? w _ hx277_4)).trans hx277_4
         have HR277_3 := Aside0.mk hi277_3
         have HC277_3 := Aside0.mk hl277_3
         clear hi277_3 hl277_3
         have HR277_4 := Aside0.mk hi277_4
         have HC277_4 := Aside0.mk hl277_4
         clear hi277_4 hl277_4
         replace p277 := eq_true p277
         replace q277 := eq_true q277
         have p280 : 0 ≤ (a4 : Int) := of_decide_eq_true AX
         have q280 : a4 < (l0.length : Int) := of_decide_eq_true AX
         obtain ⟨ad280, A280_3, c280_3, A280_4, c280_4, e280, hx280_0, hx280_1, hx280_2, hx280_3, hx280_4, hl280_3, hi280_3, hl280_4, hi280_4⟩ := at_T70 HR0.out a4 p280 q280
         have hw280_4 := hx280_4
         have hw280_3 := hx280_3
         have hw280_2 := hx280_2
         have hw280_1 := hx280_1
         have hw280_0 := hx280_0
         obtain rfl : ad276 = ad280 := (by injection e280)
         replace hx280_0 := (HB.out.cell (World.block_lt_of_cell? w _ hx280_0)).trans hx280_0
         replace hx280_1 := (HB.out.cell (World.block_lt_of_cell? w _ hx280_1)).trans hx280_1
         replace hx280_2 := (HB.out.cell (World.block_lt_of_cell? w _ hx280_2)).trans hx280_2
         replace hx280_3 := (HB.out.cell (World.block_lt_of_cell? w _ hx280_3)).trans hx280_3
         replace hx280_4 := (HB.out.cell (World.block_lt_of_cell? w _ hx280_4)).trans hx280_4
         have HR280_3 := Aside0.mk hi280_3
         have HC280_3 := Aside0.mk hl280_3
         clear hi280_3 hl280_3
         have HR280_4 := Aside0.mk hi280_4
         have HC280_4 := Aside0.mk hl280_4
         clear hi280_4 hl280_4
         replace p280 := eq_true p280
         replace q280 := eq_true q280
         have ea_ := Option.some.inj (hx276_3.symm.trans hx280_3)
         injection ea_ with ea_ en_ ec_
         subst ea_
         subst ec_
         clear en_
         have ea_ := Option.some.inj (hx276_4.symm.trans hx280_4)
         injection ea_ with ea_ en_ ec_
         subst ea_
         subst ec_
         clear en_
         have p281 : 0 ≤ (a5 : Int) := of_decide_eq_true AX
         have q281 : a5 < (l1.length : Int) := of_decide_eq_true AX
         obtain ⟨ad281, A281_3, c281_3, A281_4, c281_4, e281, hx281_0, hx281_1, hx281_2, hx281_3, hx281_4, hl281_3, hi281_3, hl281_4, hi281_4⟩ := at_T70 HR1.out a5 p281 q281
         have hw281_4 := hx281_4
         have hw281_3 := hx281_3
         have hw281_2 := hx281_2
         have hw281_1 := hx281_1
         have hw281_0 := hx281_0
         obtain rfl : ad277 = ad281 := (by injection e281)
         replace hx281_0 := (HB.out.cell (World.block_lt_of_cell? w _ hx281_0)).trans hx281_0
         replace hx281_1 := (HB.out.cell (World.block_lt_of_cell? w _ hx281_1)).trans hx281_1
         replace hx281_2 := (HB.out.cell (World.block_lt_of_cell? w _ hx281_2)).trans hx281_2
         replace hx281_3 := (HB.out.cell (World.block_lt_of_cell? w _ hx281_3)).trans hx281_3
         replace hx281_4 := (HB.out.cell (World.block_lt_of_cell? w _ hx281_4)).trans hx281_4
         have HR281_3 := Aside0.mk hi281_3
         have HC281_3 := Aside0.mk hl281_3
         clear hi281_3 hl281_3
         have HR281_4 := Aside0.mk hi281_4
         have HC281_4 := Aside0.mk hl281_4
         clear hi281_4 hl281_4
         replace p281 := eq_true p281
         replace q281 := eq_true q281
         have ea_ := Option.some.inj (hx277_3.symm.trans hx281_3)
         injection ea_ with ea_ en_ ec_
         subst ea_
         subst ec_
         clear en_
         have ea_ := Option.some.inj (hx277_4.symm.trans hx281_4)
         injection ea_ with ea_ en_ ec_
         subst ea_
         subst ec_
         clear en_
         have p282 : 0 ≤ (a4 : Int) := of_decide_eq_true AX
         have q282 : a4 < (l0.length : Int) := of_decide_eq_true AX
         obtain ⟨ad282, A282_3, c282_3, A282_4, c282_4, e282, hx282_0, hx282_1, hx282_2, hx282_3, hx282_4, hl282_3, hi282_3, hl282_4, hi282_4⟩ := at_T70 HR0.out a4 p282 q282
         have hw282_4 := hx282_4
         have hw282_3 := hx282_3
         have hw282_2 := hx282_2
         have hw282_1 := hx282_1
         have hw282_0 := hx282_0
         obtain rfl : ad276 = ad282 := (by injection e282)
         replace hx282_0 := (HB.out.cell (World.block_lt_of_cell? w _ hx282_0)).trans hx282_0
         replace hx282_1 := (HB.out.cell (World.block_lt_of_cell? w _ hx282_1)).trans hx282_1
         replace hx282_2 := (HB.out.cell (World.block_lt_of_cell? w _ hx282_2)).trans hx282_2
         replace hx282_3 := (HB.out.cell (World.block_lt_of_cell? w _ hx282_3)).trans hx282_3
         replace hx282_4 := (HB.out.cell (World.block_lt_of_cell? w _ hx282_4)).trans hx282_4
         have HR282_3 := Aside0.mk hi282_3
         have HC282_3 := Aside0.mk hl282_3
         clear hi282_3 hl282_3
         have HR282_4 := Aside0.mk hi282_4
         have HC282_4 := Aside0.mk hl282_4
         clear hi282_4 hl282_4
         replace p282 := eq_true p282
         replace q282 := eq_true q282
         have ea_ := Option.some.inj (hx276_3.symm.trans hx282_3)
         injection ea_ with ea_ en_ ec_
         subst ea_
         subst ec_
         clear en_
         have ea_ := Option.some.inj (hx276_4.symm.trans hx282_4)
         injection ea_ with ea_ en_ ec_
         subst ea_
         subst ec_
         clear en_
         have p283 : 0 ≤ (a5 : Int) := of_decide_eq_true AX
         have q283 : a5 < (l1.length : Int) := of_decide_eq_true AX
         obtain ⟨ad283, A283_3, c283_3, A283_4, c283_4, e283, hx283_0, hx283_1, hx283_2, hx283_3, hx283_4, hl283_3, hi283_3, hl283_4, hi283_4⟩ := at_T70 HR1.out a5 p283 q283
         have hw283_4 := hx283_4
         have hw283_3 := hx283_3
         have hw283_2 := hx283_2
         have hw283_1 := hx283_1
         have hw283_0 := hx283_0
         obtain rfl : ad277 = ad283 := (by injection e283)
         replace hx283_0 := (HB.out.cell (World.block_lt_of_cell? w _ hx283_0)).trans hx283_0
         replace hx283_1 := (HB.out.cell (World.block_lt_of_cell? w _ hx283_1)).trans hx283_1
         replace hx283_2 := (HB.out.cell (World.block_lt_of_cell? w _ hx283_2)).trans hx283_2
         replace hx283_3 := (HB.out.cell (World.block_lt_of_cell? w _ hx283_3)).trans hx283_3
         replace hx283_4 := (HB.out.cell (World.block_lt_of_cell? w _ hx283_4)).trans hx283_4
         have HR283_3 := Aside0.mk hi283_3
         have HC283_3 := Aside0.mk hl283_3
         clear hi283_3 hl283_3
         have HR283_4 := Aside0.mk hi283_4
         have HC283_4 := Aside0.mk hl283_4
         clear hi283_4 hl283_4
         replace p283 := eq_true p283
         replace q283 := eq_true q283
         have ea_ := Option.some.inj (hx277_3.symm.trans hx283_3)
         injection ea_ with ea_ en_ ec_
         subst ea_
         subst ec_
         clear en_
         have ea_ := Option.some.inj (hx277_4.symm.trans hx283_4)
         injection ea_ with ea_ en_ ec_
         subst ea_
         subst ec_
         clear en_
         refine start_ (n := 52) (S := fun w' => w'.cell? (ad276.add ((a4).toNat * 5)) = some (.int .i64 ((rd_T70 l0 a4).f0)) ∧ w'.cell? ⟨(ad276.add ((a4).toNat * 5)).block, (ad276.add ((a4).toNat * 5)).off + 1, none⟩ = some (.int .i64 ((rd_T70 l0 a4).f1)) ∧ w'.cell? ⟨(ad276.add ((a4).toNat * 5)).block, (ad276.add ((a4).toNat * 5)).off + 2, none⟩ = some (.string ((rd_T70 l0 a4).f2)) ∧ w'.cell? ⟨(ad276.add ((a4).toNat * 5)).block, (ad276.add ((a4).toNat * 5)).off + 3, none⟩ = some (.slice _ ((rd_T70 l0 a4).f3).length _) ∧ w'.cell? ⟨(ad276.add ((a4).toNat * 5)).block, (ad276.add ((a4).toNat * 5)).off + 4, none⟩ = some (.slice _ ((rd_T70 l0 a4).f4).length _) ∧ w'.cell? (ad277.add ((a5).toNat * 5)) = some (.int .i64 ((rd_T70 l1 a5).f0)) ∧ w'.cell? ⟨(ad277.add ((a5).toNat * 5)).block, (ad277.add ((a5).toNat * 5)).off + 1, none⟩ = some (.int .i64 ((rd_T70 l1 a5).f1)) ∧ w'.cell? ⟨(ad277.add ((a5).toNat * 5)).block, (ad277.add ((a5).toNat * 5)).off + 2, none⟩ = some (.string ((rd_T70 l1 a5).f2)) ∧ w'.cell? ⟨(ad277.add ((a5).toNat * 5)).block, (ad277.add ((a5).toNat * 5)).off + 3, none⟩ = some (.slice _ ((rd_T70 l1 a5).f3).length _) ∧ w'.cell? ⟨(ad277.add ((a5).toNat * 5)).block, (ad277.add ((a5).toNat * 5)).off + 4, none⟩ = some (.slice _ ((rd_T70 l1 a5).f4).length _) ∧ w'.cell? (ad276.add ((a4).toNat * 5)) = some (.int .i64 ((rd_T70 l0 a4).f0)) ∧ w'.cell? ⟨(ad276.add ((a4).toNat * 5)).block, (ad276.add ((a4).toNat * 5)).off + 1, none⟩ = some (.int .i64 ((rd_T70 l0 a4).f1)) ∧ w'.cell? ⟨(ad276.add ((a4).toNat * 5)).block, (ad276.add ((a4).toNat * 5)).off + 2, none⟩ = some (.string ((rd_T70 l0 a4).f2)) ∧ w'.cell? ⟨(ad276.add ((a4).toNat * 5)).block, (ad276.add ((a4).toNat * 5)).off + 3, none⟩ = some (.slice _ ((rd_T70 l0 a4).f3).length _) ∧ w'.cell? ⟨(ad276.add ((a4).toNat * 5)).block, (ad276.add ((a4).toNat * 5)).off + 4, none⟩ = some (.slice _ ((rd_T70 l0 a4).f4).length _) ∧ w'.cell? (ad277.add ((a5).toNat * 5)) = some (.int .i64 ((rd_T70 l1 a5).f0)) ∧ w'.cell? ⟨(ad277.add ((a5).toNat * 5)).block, (ad277.add ((a5).toNat * 5)).off + 1, none⟩ = some (.int .i64 ((rd_T70 l1 a5).f1)) ∧ w'.cell? ⟨(ad277.add ((a5).toNat * 5)).block, (ad277.add ((a5).toNat * 5)).off + 2, none⟩ = some (.string ((rd_T70 l1 a5).f2)) ∧ w'.cell? ⟨(ad277.add ((a5).toNat * 5)).block, (ad277.add ((a5).toNat * 5)).off + 3, none⟩ = some (.slice _ ((rd_T70 l1 a5).f3).length _) ∧ w'.cell? ⟨(ad277.add ((a5).toNat * 5)).block, (ad277.add ((a5).toNat * 5)).off + 4, none⟩ = some (.slice _ ((rd_T70 l1 a5).f4).length _) ∧ w'.cell? (ad276.add ((a4).toNat * 5)) = some (.int .i64 ((rd_T70 l0 a4).f0)) ∧ w'.cell? ⟨(ad276.add ((a4).toNat * 5)).block, (ad276.add ((a4).toNat * 5)).off + 1, none⟩ = some (.int .i64 ((rd_T70 l0 a4).f1)) ∧ w'.cell? ⟨(ad276.add ((a4).toNat * 5)).block, (ad276.add ((a4).toNat * 5)).off + 2, none⟩ = some (.string ((rd_T70 l0 a4).f2)) ∧ w'.cell? ⟨(ad276.add ((a4).toNat * 5)).block, (ad276.add ((a4).toNat * 5)).off + 3, none⟩ = some (.slice _ ((rd_T70 l0 a4).f3).length _) ∧ w'.cell? ⟨(ad276.add ((a4).toNat * 5)).block, (ad276.add ((a4).toNat * 5)).off + 4, none⟩ = some (.slice _ ((rd_T70 l0 a4).f4).length _) ∧ w'.cell? (ad277.add ((a5).toNat * 5)) = some (.int .i64 ((rd_T70 l1 a5).f0)) ∧ w'.cell? ⟨(ad277.add ((a5).toNat * 5)).block, (ad277.add ((a5).toNat * 5)).off + 1, none⟩ = some (.int .i64 ((rd_T70 l1 a5).f1)) ∧ w'.cell? ⟨(ad277.add ((a5).toNat * 5)).block, (ad277.add ((a5).toNat * 5)).off + 2, none⟩ = some (.string ((rd_T70 l1 a5).f2)) ∧ w'.cell? ⟨(ad277.add ((a5).toNat * 5)).block, (ad277.add ((a5).toNat * 5)).off + 3, none⟩ = some (.slice _ ((rd_T70 l1 a5).f3).length _) ∧ w'.cell? ⟨(ad277.add ((a5).toNat * 5)).block, (ad277.add ((a5).toNat * 5)).off + 4, none⟩ = some (.slice _ ((rd_T70 l1 a5).f4).length _)) (ds := []) #[false, false, false, false, false, false, false, false, false, false, false, false, false, false, false, false, false, false, false, false, false, false, false, false, false, false, false, false, false, false, false, false, false, false, false, false, false, false, false, false, false, false, false, false, false, false, false, false, false, false, false, false] (by kernel_rfl) rfl rfl ⟨((HB.out.cell (World.block_lt_of_cell? w _ hw276_0)).trans hw276_0), ((HB.out.cell (World.block_lt_of_cell? w _ hw276_1)).trans hw276_1), ((HB.out.cell (World.block_lt_of_cell? w _ hw276_2)).trans hw276_2), ((HB.out.cell (World.block_lt_of_cell? w _ hw276_3)).trans hw276_3), ((HB.out.cell (World.block_lt_of_cell? w _ hw276_4)).trans hw276_4), ((HB.out.cell (World.block_lt_of_cell? w _ hw277_0)).trans hw277_0), ((HB.out.cell (World.block_lt_of_cell? w _ hw277_1)).trans hw277_1), ((HB.out.cell (World.block_lt_of_cell? w _ hw277_2)).trans hw277_2), ((HB.out.cell (World.block_lt_of_cell? w _ hw277_3)).trans hw277_3), ((HB.out.cell (World.block_lt_of_cell? w _ hw277_4)).trans hw277_4), ((HB.out.cell (World.block_lt_of_cell? w _ hw280_0)).trans hw280_0), ((HB.out.cell (World.block_lt_of_cell? w _ hw280_1)).trans hw280_1), ((HB.out.cell (World.block_lt_of_cell? w _ hw280_2)).trans hw280_2), ((HB.out.cell (World.block_lt_of_cell? w _ hw280_3)).trans hw280_3), ((HB.out.cell (World.block_lt_of_cell? w _ hw280_4)).trans hw280_4), ((HB.out.cell (World.block_lt_of_cell? w _ hw281_0)).trans hw281_0), ((HB.out.cell (World.block_lt_of_cell? w _ hw281_1)).trans hw281_1), ((HB.out.cell (World.block_lt_of_cell? w _ hw281_2)).trans hw281_2), ((HB.out.cell (World.block_lt_of_cell? w _ hw281_3)).trans hw281_3), ((HB.out.cell (World.block_lt_of_cell? w _ hw281_4)).trans hw281_4), ((HB.out.cell (World.block_lt_of_cell? w _ hw282_0)).trans hw282_0), ((HB.out.cell (World.block_lt_of_cell? w _ hw282_1)).trans hw282_1), ((HB.out.cell (World.block_lt_of_cell? w _ hw282_2)).trans hw282_2), ((HB.out.cell (World.block_lt_of_cell? w _ hw282_3)).trans hw282_3), ((HB.out.cell (World.block_lt_of_cell? w _ hw282_4)).trans hw282_4), ((HB.out.cell (World.block_lt_of_cell? w _ hw283_0)).trans hw283_0), ((HB.out.cell (World.block_lt_of_cell? w _ hw283_1)).trans hw283_1), ((HB.out.cell (World.block_lt_of_cell? w _ hw283_2)).trans hw283_2), ((HB.out.cell (World.block_lt_of_cell? w _ hw283_3)).trans hw283_3), ((HB.out.cell (World.block_lt_of_cell? w _ hw283_4)).trans hw283_4)⟩ (fun hHeld => ?_); refine with_tabW treemergelaw31_equal.tab1 treemergelaw31_equal.bits1 (fun HT_ HW_ => ?_)
         generalize w.drew = w17 at HB HR276_3 HR276_4 HR277_3 HR277_4 HR280_3 HR280_4 HR281_3 HR281_4 HR282_3 HR282_4 HR283_3 HR283_4 hx276_0 hx276_1 hx276_2 hx276_3 hx276_4 hx277_0 hx277_1 hx277_2 hx277_3 hx277_4 hx280_0 hx280_1 hx280_2 hx280_3 hx280_4 hx281_0 hx281_1 hx281_2 hx281_3 hx281_4 hx282_0 hx282_1 hx282_2 hx282_3 hx282_4 hx283_0 hx283_1 hx283_2 hx283_3 hx283_4 hHeld ⊢
         refine PU 0 15 HT_ ?_
         refine PU 1 16 HT_ ?_
         refine PU 2 17 HT_ ?_
         refine PU 3 18 HT_ ?_
         refine PU 5 20 HT_ ?_
         refine PU 6 21 HT_ ?_
         refine PU 7 22 HT_ ?_
         refine PU 8 23 HT_ ?_
         refine TU 4 19 HT_ HW_ hHeld ?_
         refine TU 9 24 HT_ HW_ hHeld ?_
         refine PU 10 25 HT_ ?_
         refine PU 11 26 HT_ ?_
         refine PU 12 27 HT_ ?_
         refine PU 13 28 HT_ ?_
         refine PU 14 29 HT_ ?_
         refine PU 16 31 HT_ ?_
         refine PU 17 32 HT_ ?_
         refine PU 18 33 HT_ ?_
         refine one_ (i := 15) (N := some 30) #[true, true, true, true, true, true, true, true, true, true, true, true, true, true, true, true, true, true, true, false, false, false, false, false, false, false, false, false, false, false, false, false, false, false, false, false, false, false, false, false, false, false, false, false, false, false, false, false, false, false, false, false] rfl rfl (one_of HT_.out (by kernel_rfl)) (by decide) (fun K hK => ?_)
         refine goes_ Try.func60 (by kernel_rfl) rfl #[.slice (some ad276) l0.length c0, .slice A2 l2.length c2, .int .i64 a4] (by rfl) rfl rfl MX ?_
         with_reducible refine (treemergelaw31_up.calls _ _ l0 _ _ l2 a4 t278 _ ?side1 ?side2 ?side3 ?side4 A13.out).mono ?_
         (case side1 => exact CX (Kd.C_below HR0.out HB.out))
         (case side2 => exact HC0.out)
         (case side3 => exact CX (Kd.C_below HR2.out HB.out))
         (case side4 => exact HC2.out)
         rintro e w' ⟨rfl, ⟨nd, rfl⟩⟩
         refine ⟨_, rfl, ?_⟩
         refine hK.out _ _ ⟨((HB.out.cell (World.block_lt_of_cell? w _ hw276_0)).trans hw276_0), ((HB.out.cell (World.block_lt_of_cell? w _ hw276_1)).trans hw276_1), ((HB.out.cell (World.block_lt_of_cell? w _ hw276_2)).trans hw276_2), ((HB.out.cell (World.block_lt_of_cell? w _ hw276_3)).trans hw276_3), ((HB.out.cell (World.block_lt_of_cell? w _ hw276_4)).trans hw276_4), ((HB.out.cell (World.block_lt_of_cell? w _ hw277_0)).trans hw277_0), ((HB.out.cell (World.block_lt_of_cell? w _ hw277_1)).trans hw277_1), ((HB.out.cell (World.block_lt_of_cell? w _ hw277_2)).trans hw277_2), ((HB.out.cell (World.block_lt_of_cell? w _ hw277_3)).trans hw277_3), ((HB.out.cell (World.block_lt_of_cell? w _ hw277_4)).trans hw277_4), ((HB.out.cell (World.block_lt_of_cell? w _ hw280_0)).trans hw280_0), ((HB.out.cell (World.block_lt_of_cell? w _ hw280_1)).trans hw280_1), ((HB.out.cell (World.block_lt_of_cell? w _ hw280_2)).trans hw280_2), ((HB.out.cell (World.block_lt_of_cell? w _ hw280_3)).trans hw280_3), ((HB.out.cell (World.block_lt_of_cell? w _ hw280_4)).trans hw280_4), ((HB.out.cell (World.block_lt_of_cell? w _ hw281_0)).trans hw281_0), ((HB.out.cell (World.block_lt_of_cell? w _ hw281_1)).trans hw281_1), ((HB.out.cell (World.block_lt_of_cell? w _ hw281_2)).trans hw281_2), ((HB.out.cell (World.block_lt_of_cell? w _ hw281_3)).trans hw281_3), ((HB.out.cell (World.block_lt_of_cell? w _ hw281_4)).trans hw281_4), ((HB.out.cell (World.block_lt_of_cell? w _ hw282_0)).trans hw282_0), ((HB.out.cell (World.block_lt_of_cell? w _ hw282_1)).trans hw282_1), ((HB.out.cell (World.block_lt_of_cell? w _ hw282_2)).trans hw282_2), ((HB.out.cell (World.block_lt_of_cell? w _ hw282_3)).trans hw282_3), ((HB.out.cell (World.block_lt_of_cell? w _ hw282_4)).trans hw282_4), ((HB.out.cell (World.block_lt_of_cell? w _ hw283_0)).trans hw283_0), ((HB.out.cell (World.block_lt_of_cell? w _ hw283_1)).trans hw283_1), ((HB.out.cell (World.block_lt_of_cell? w _ hw283_2)).trans hw283_2), ((HB.out.cell (World.block_lt_of_cell? w _ hw283_3)).trans hw283_3), ((HB.out.cell (World.block_lt_of_cell? w _ hw283_4)).trans hw283_4)⟩ (fun hHeld => ?_)
         clear hK K
         refine norm_ (a' := ?_) ?_ ?_
         rotate_left
         ·show Act.put _ (some 30) _ = _
          simp only [Act.put, List.setIfInBounds_toArray, List.set_cons_zero, List.set_cons_succ, i64_w, i32_w]
          rfl
         refine one_ (i := 19) (N := some 34) #[true, true, true, true, true, true, true, true, true, true, true, true, true, true, true, true, true, true, true, true, false, false, false, false, false, false, false, false, false, false, false, false, false, false, false, false, false, false, false, false, false, false, false, false, false, false, false, false, false, false, false, false] rfl rfl (one_of HT_.out (by kernel_rfl)) (by decide) (fun K hK => ?_)
         refine goes_ Try.func60 (by kernel_rfl) rfl #[.slice (some ad277) l1.length c1, .slice A3 l3.length c3, .int .i64 a5] (by rfl) rfl rfl MX ?_
         with_reducible refine (treemergelaw31_up.calls _ _ l1 _ _ l3 a5 t279 _ ?side1 ?side2 ?side3 ?side4 A14.out).mono ?_
         (case side1 => exact CX (Kd.C_below HR1.out (BX HB.out)))
         (case side2 => exact HC1.out)
         (case side3 => exact CX (Kd.C_below HR3.out (BX HB.out)))
         (case side4 => exact HC3.out)
         rintro e w' ⟨rfl, ⟨nd, rfl⟩⟩
         refine ⟨_, rfl, ?_⟩
         refine hK.out _ _ ⟨((HB.out.cell (World.block_lt_of_cell? w _ hw276_0)).trans hw276_0), ((HB.out.cell (World.block_lt_of_cell? w _ hw276_1)).trans hw276_1), ((HB.out.cell (World.block_lt_of_cell? w _ hw276_2)).trans hw276_2), ((HB.out.cell (World.block_lt_of_cell? w _ hw276_3)).trans hw276_3), ((HB.out.cell (World.block_lt_of_cell? w _ hw276_4)).trans hw276_4), ((HB.out.cell (World.block_lt_of_cell? w _ hw277_0)).trans hw277_0), ((HB.out.cell (World.block_lt_of_cell? w _ hw277_1)).trans hw277_1), ((HB.out.cell (World.block_lt_of_cell? w _ hw277_2)).trans hw277_2), ((HB.out.cell (World.block_lt_of_cell? w _ hw277_3)).trans hw277_3), ((HB.out.cell (World.block_lt_of_cell? w _ hw277_4)).trans hw277_4), ((HB.out.cell (World.block_lt_of_cell? w _ hw280_0)).trans hw280_0), ((HB.out.cell (World.block_lt_of_cell? w _ hw280_1)).trans hw280_1), ((HB.out.cell (World.block_lt_of_cell? w _ hw280_2)).trans hw280_2), ((HB.out.cell (World.block_lt_of_cell? w _ hw280_3)).trans hw280_3), ((HB.out.cell (World.block_lt_of_cell? w _ hw280_4)).trans hw280_4), ((HB.out.cell (World.block_lt_of_cell? w _ hw281_0)).trans hw281_0), ((HB.out.cell (World.block_lt_of_cell? w _ hw281_1)).trans hw281_1), ((HB.out.cell (World.block_lt_of_cell? w _ hw281_2)).trans hw281_2), ((HB.out.cell (World.block_lt_of_cell? w _ hw281_3)).trans hw281_3), ((HB.out.cell (World.block_lt_of_cell? w _ hw281_4)).trans hw281_4), ((HB.out.cell (World.block_lt_of_cell? w _ hw282_0)).trans hw282_0), ((HB.out.cell (World.block_lt_of_cell? w _ hw282_1)).trans hw282_1), ((HB.out.cell (World.block_lt_of_cell? w _ hw282_2)).trans hw282_2), ((HB.out.cell (World.block_lt_of_cell? w _ hw282_3)).trans hw282_3), ((HB.out.cell (World.block_lt_of_cell? w _ hw282_4)).trans hw282_4), ((HB.out.cell (World.block_lt_of_cell? w _ hw283_0)).trans hw283_0), ((HB.out.cell (World.block_lt_of_cell? w _ hw283_1)).trans hw283_1), ((HB.out.cell (World.block_lt_of_cell? w _ hw283_2)).trans hw283_2), ((HB.out.cell (World.block_lt_of_cell? w _ hw283_3)).trans hw283_3), ((HB.out.cell (World.block_lt_of_cell? w _ hw283_4)).trans hw283_4)⟩ (fun hHeld => ?_)
         clear hK K
         refine norm_ (a' := ?_) ?_ ?_
         rotate_left
         ·show Act.put _ (some 34) _ = _
          simp only [Act.put, List.setIfInBounds_toArray, List.set_cons_zero, List.set_cons_succ, i64_w, i32_w]
          rfl
         refine PU 20 35 HT_ ?_
         refine PU 21 36 HT_ ?_
         refine PU 22 37 HT_ ?_
         refine PU 23 38 HT_ ?_
         refine PU 24 39 HT_ ?_
         refine PU 25 40 HT_ ?_
         refine PU 26 41 HT_ ?_
         refine PU 29 44 HT_ ?_
         refine PU 30 45 HT_ ?_
         refine PU 31 46 HT_ ?_
         refine PU 32 47 HT_ ?_
         refine TU 27 42 HT_ HW_ hHeld ?_
         refine PU 28 43 HT_ ?_
         refine TU 33 48 HT_ HW_ hHeld ?_
         refine PU 34 49 HT_ ?_
         refine PU 35 50 HT_ ?_
         refine PU 36 51 HT_ ?_
         refine PU 37 52 HT_ ?_
         refine PU 38 53 HT_ ?_
         refine PU 39 54 HT_ ?_
         refine PU 40 55 HT_ ?_
         refine PU 41 56 HT_ ?_
         refine PU 44 59 HT_ ?_
         refine PU 45 60 HT_ ?_
         refine PU 46 61 HT_ ?_
         refine PU 47 62 HT_ ?_
         refine TU 42 57 HT_ HW_ hHeld ?_
         refine PU 43 58 HT_ ?_
         refine TU 48 63 HT_ HW_ hHeld ?_
         refine PU 49 64 HT_ ?_
         refine PU 50 65 HT_ ?_
         refine PU 51 66 HT_ ?_
         refine done_ (done_of HT_.out (by kernel_rfl)) ?_
         try go_wp2
         go_meet
         case rel => exact ⟨_, (((((rd_T70 l0 a4).f4).length : Int) != (((rd_T70 l1 a5).f4).length : Int))), SX, H', ⟨by first | omega | exact Nat.le_refl _⟩, ⟨BX HB.out⟩⟩
        ·rw [if_neg c16] at H
         have c16b0 : ((((rd_T70 l0 a4).f3).length : Int) == (((rd_T70 l1 a5).f3).length : Int)) = false := beq_eq_false_iff_ne.mpr c16
         have c16b1 : ((((rd_T70 l0 a4).f3).length : Int) != (((rd_T70 l1 a5).f3).length : Int)) = true := bne_iff_ne.mpr c16
         have c16b2 : (((rd_T70 l0 a4).f3).length == ((rd_T70 l1 a5).f3).length) = false := by first | simpa using c16 | (simp at c16 ⊢; omega)
         have H' := Aside0.mk H
         clear H
         try go_wp2
         have n0_ := Aside0.mk (below_drew1 HB.out)
         clear HB
         have HB := n0_
         clear n0_
         have p276 : 0 ≤ (a4 : Int) := of_decide_eq_true AX
         have q276 : a4 < (l0.length : Int) := of_decide_eq_true AX
         obtain ⟨ad276, A276_3, c276_3, A276_4, c276_4, e276, hx276_0, hx276_1, hx276_2, hx276_3, hx276_4, hl276_3, hi276_3, hl276_4, hi276_4⟩ := at_T70 HR0.out a4 p276 q276
         have hw276_4 := hx276_4
         have hw276_3 := hx276_3
         have hw276_2 := hx276_2
         have hw276_1 := hx276_1
         have hw276_0 := hx276_0
         cases e276
         replace hx276_0 := (HB.out.cell (World.block_lt_of_cell? w _ hx276_0)).trans hx276_0
         replace hx276_1 := (HB.out.cell (World.block_lt_of_cell? w _ hx276_1)).trans hx276_1
         replace hx276_2 := (HB.out.cell (World.block_lt_of_cell? w _ hx276_2)).trans hx276_2
         replace hx276_3 := (HB.out.cell (World.block_lt_of_cell? w _ hx276_3)).trans hx276_3
         replace hx276_4 := (HB.out.cell (World.block_lt_of_cell? w _ hx276_4)).trans hx276_4
         have HR276_3 := Aside0.mk hi276_3
         have HC276_3 := Aside0.mk hl276_3
         clear hi276_3 hl276_3
         have HR276_4 := Aside0.mk hi276_4
         have HC276_4 := Aside0.mk hl276_4
         clear hi276_4 hl276_4
         replace p276 := eq_true p276
         replace q276 := eq_true q276
         have p277 : 0 ≤ (a5 : Int) := of_decide_eq_true AX
         have q277 : a5 < (l1.length : Int) := of_decide_eq_true AX
         obtain ⟨ad277, A277_3, c277_3, A277_4, c277_4, e277, hx277_0, hx277_1, hx277_2, hx277_3, hx277_4, hl277_3, hi277_3, hl277_4, hi277_4⟩ := at_T70 HR1.out a5 p277 q277
         have hw277_4 := hx277_4
         have hw277_3 := hx277_3
         have hw277_2 := hx277_2
         have hw277_1 := hx277_1
         have hw277_0 := hx277_0
         cases e277
         replace hx277_0 := (HB.out.cell (World.block_lt_of_cell? w _ hx277_0)).trans hx277_0
         replace hx277_1 := (HB.out.cell (World.block_lt_of_cell? w _ hx277_1)).trans hx277_1
         replace hx277_2 := (HB.out.cell (World.block_lt_of_cell? w _ hx277_2)).trans hx277_2
         replace hx277_3 := (HB.out.cell (World.block_lt_of_cell? w _ hx277_3)).trans hx277_3
         replace hx277_4 := (HB.out.cell (World.block_lt_of_cell? w _ hx277_4)).trans hx277_4
         have HR277_3 := Aside0.mk hi277_3
         have HC277_3 := Aside0.mk hl277_3
         clear hi277_3 hl277_3
         have HR277_4 := Aside0.mk hi277_4
         have HC277_4 := Aside0.mk hl277_4
         clear hi277_4 hl277_4
         replace p277 := eq_true p277
         replace q277 := eq_true q277
         have p280 : 0 ≤ (a4 : Int) := of_decide_eq_true AX
         have q280 : a4 < (l0.length : Int) := of_decide_eq_true AX
         obtain ⟨ad280, A280_3, c280_3, A280_4, c280_4, e280, hx280_0, hx280_1, hx280_2, hx280_3, hx280_4, hl280_3, hi280_3, hl280_4, hi280_4⟩ := at_T70 HR0.out a4 p280 q280
         have hw280_4 := hx280_4
         have hw280_3 := hx280_3
         have hw280_2 := hx280_2
         have hw280_1 := hx280_1
         have hw280_0 := hx280_0
         obtain rfl : ad276 = ad280 := (by injection e280)
         replace hx280_0 := (HB.out.cell (World.block_lt_of_cell? w _ hx280_0)).trans hx280_0
         replace hx280_1 := (HB.out.cell (World.block_lt_of_cell? w _ hx280_1)).trans hx280_1
         replace hx280_2 := (HB.out.cell (World.block_lt_of_cell? w _ hx280_2)).trans hx280_2
         replace hx280_3 := (HB.out.cell (World.block_lt_of_cell? w _ hx280_3)).trans hx280_3
         replace hx280_4 := (HB.out.cell (World.block_lt_of_cell? w _ hx280_4)).trans hx280_4
         have HR280_3 := Aside0.mk hi280_3
         have HC280_3 := Aside0.mk hl280_3
         clear hi280_3 hl280_3
         have HR280_4 := Aside0.mk hi280_4
         have HC280_4 := Aside0.mk hl280_4
         clear hi280_4 hl280_4
         replace p280 := eq_true p280
         replace q280 := eq_true q280
         have ea_ := Option.some.inj (hx276_3.symm.trans hx280_3)
         injection ea_ with ea_ en_ ec_
         subst ea_
         subst ec_
         clear en_
         have ea_ := Option.some.inj (hx276_4.symm.trans hx280_4)
         injection ea_ with ea_ en_ ec_
         subst ea_
         subst ec_
         clear en_
         have p281 : 0 ≤ (a5 : Int) := of_decide_eq_true AX
         have q281 : a5 < (l1.length : Int) := of_decide_eq_true AX
         obtain ⟨ad281, A281_3, c281_3, A281_4, c281_4, e281, hx281_0, hx281_1, hx281_2, hx281_3, hx281_4, hl281_3, hi281_3, hl281_4, hi281_4⟩ := at_T70 HR1.out a5 p281 q281
         have hw281_4 := hx281_4
         have hw281_3 := hx281_3
         have hw281_2 := hx281_2
         have hw281_1 := hx281_1
         have hw281_0 := hx281_0
         obtain rfl : ad277 = ad281 := (by injection e281)
         replace hx281_0 := (HB.out.cell (World.block_lt_of_cell? w _ hx281_0)).trans hx281_0
         replace hx281_1 := (HB.out.cell (World.block_lt_of_cell? w _ hx281_1)).trans hx281_1
         replace hx281_2 := (HB.out.cell (World.block_lt_of_cell? w _ hx281_2)).trans hx281_2
         replace hx281_3 := (HB.out.cell (World.block_lt_of_cell? w _ hx281_3)).trans hx281_3
         replace hx281_4 := (HB.out.cell (World.block_lt_of_cell? w _ hx281_4)).trans hx281_4
         have HR281_3 := Aside0.mk hi281_3
         have HC281_3 := Aside0.mk hl281_3
         clear hi281_3 hl281_3
         have HR281_4 := Aside0.mk hi281_4
         have HC281_4 := Aside0.mk hl281_4
         clear hi281_4 hl281_4
         replace p281 := eq_true p281
         replace q281 := eq_true q281
         have ea_ := Option.some.inj (hx277_3.symm.trans hx281_3)
         injection ea_ with ea_ en_ ec_
         subst ea_
         subst ec_
         clear en_
         have ea_ := Option.some.inj (hx277_4.symm.trans hx281_4)
         injection ea_ with ea_ en_ ec_
         subst ea_
         subst ec_
         clear en_
         refine start_ (n := 52) (S := fun w' => w'.cell? (ad276.add ((a4).toNat * 5)) = some (.int .i64 ((rd_T70 l0 a4).f0)) ∧ w'.cell? ⟨(ad276.add ((a4).toNat * 5)).block, (ad276.add ((a4).toNat * 5)).off + 1, none⟩ = some (.int .i64 ((rd_T70 l0 a4).f1)) ∧ w'.cell? ⟨(ad276.add ((a4).toNat * 5)).block, (ad276.add ((a4).toNat * 5)).off + 2, none⟩ = some (.string ((rd_T70 l0 a4).f2)) ∧ w'.cell? ⟨(ad276.add ((a4).toNat * 5)).block, (ad276.add ((a4).toNat * 5)).off + 3, none⟩ = some (.slice _ ((rd_T70 l0 a4).f3).length _) ∧ w'.cell? ⟨(ad276.add ((a4).toNat * 5)).block, (ad276.add ((a4).toNat * 5)).off + 4, none⟩ = some (.slice _ ((rd_T70 l0 a4).f4).length _) ∧ w'.cell? (ad277.add ((a5).toNat * 5)) = some (.int .i64 ((rd_T70 l1 a5).f0)) ∧ w'.cell? ⟨(ad277.add ((a5).toNat * 5)).block, (ad277.add ((a5).toNat * 5)).off + 1, none⟩ = some (.int .i64 ((rd_T70 l1 a5).f1)) ∧ w'.cell? ⟨(ad277.add ((a5).toNat * 5)).block, (ad277.add ((a5).toNat * 5)).off + 2, none⟩ = some (.string ((rd_T70 l1 a5).f2)) ∧ w'.cell? ⟨(ad277.add ((a5).toNat * 5)).block, (ad277.add ((a5).toNat * 5)).off + 3, none⟩ = some (.slice _ ((rd_T70 l1 a5).f3).length _) ∧ w'.cell? ⟨(ad277.add ((a5).toNat * 5)).block, (ad277.add ((a5).toNat * 5)).off + 4, none⟩ = some (.slice _ ((rd_T70 l1 a5).f4).length _) ∧ w'.cell? (ad276.add ((a4).toNat * 5)) = some (.int .i64 ((rd_T70 l0 a4).f0)) ∧ w'.cell? ⟨(ad276.add ((a4).toNat * 5)).block, (ad276.add ((a4).toNat * 5)).off + 1, none⟩ = some (.int .i64 ((rd_T70 l0 a4).f1)) ∧ w'.cell? ⟨(ad276.add ((a4).toNat * 5)).block, (ad276.add ((a4).toNat * 5)).off + 2, none⟩ = some (.string ((rd_T70 l0 a4).f2)) ∧ w'.cell? ⟨(ad276.add ((a4).toNat * 5)).block, (ad276.add ((a4).toNat * 5)).off + 3, none⟩ = some (.slice _ ((rd_T70 l0 a4).f3).length _) ∧ w'.cell? ⟨(ad276.add ((a4).toNat * 5)).block, (ad276.add ((a4).toNat * 5)).off + 4, none⟩ = some (.slice _ ((rd_T70 l0 a4).f4).length _) ∧ w'.cell? (ad277.add ((a5).toNat * 5)) = some (.int .i64 ((rd_T70 l1 a5).f0)) ∧ w'.cell? ⟨(ad277.add ((a5).toNat * 5)).block, (ad277.add ((a5).toNat * 5)).off + 1, none⟩ = some (.int .i64 ((rd_T70 l1 a5).f1)) ∧ w'.cell? ⟨(ad277.add ((a5).toNat * 5)).block, (ad277.add ((a5).toNat * 5)).off + 2, none⟩ = some (.string ((rd_T70 l1 a5).f2)) ∧ w'.cell? ⟨(ad277.add ((a5).toNat * 5)).block, (ad277.add ((a5).toNat * 5)).off + 3, none⟩ = some (.slice _ ((rd_T70 l1 a5).f3).length _) ∧ w'.cell? ⟨(ad277.add ((a5).toNat * 5)).block, (ad277.add ((a5).toNat * 5)).off + 4, none⟩ = some (.slice _ ((rd_T70 l1 a5).f4).length _)) (ds := []) #[false, false, false, false, false, false, false, false, false, false, false, false, false, false, false, false, false, false, false, false, false, false, false, false, false, false, false, false, false, false, false, false, false, false, false, false, false, false, false, false, false, false, false, false, false, false, false, false, false, false, false, false] (by kernel_rfl) rfl rfl ⟨((HB.out.cell (World.block_lt_of_cell? w _ hw276_0)).trans hw276_0), ((HB.out.cell (World.block_lt_of_cell? w _ hw276_1)).trans hw276_1), ((HB.out.cell (World.block_lt_of_cell? w _ hw276_2)).trans hw276_2), ((HB.out.cell (World.block_lt_of_cell? w _ hw276_3)).trans hw276_3), ((HB.out.cell (World.block_lt_of_cell? w _ hw276_4)).trans hw276_4), ((HB.out.cell (World.block_lt_of_cell? w _ hw277_0)).trans hw277_0), ((HB.out.cell (World.block_lt_of_cell? w _ hw277_1)).trans hw277_1), ((HB.out.cell (World.block_lt_of_cell? w _ hw277_2)).trans hw277_2), ((HB.out.cell (World.block_lt_of_cell? w _ hw277_3)).trans hw277_3), ((HB.out.cell (World.block_lt_of_cell? w _ hw277_4)).trans hw277_4), ((HB.out.cell (World.block_lt_of_cell? w _ hw280_0)).trans hw280_0), ((HB.out.cell (World.block_lt_of_cell? w _ hw280_1)).trans hw280_1), ((HB.out.cell (World.block_lt_of_cell? w _ hw280_2)).trans hw280_2), ((HB.out.cell (World.block_lt_of_cell? w _ hw280_3)).trans hw280_3), ((HB.out.cell (World.block_lt_of_cell? w _ hw280_4)).trans hw280_4), ((HB.out.cell (World.block_lt_of_cell? w _ hw281_0)).trans hw281_0), ((HB.out.cell (World.block_lt_of_cell? w _ hw281_1)).trans hw281_1), ((HB.out.cell (World.block_lt_of_cell? w _ hw281_2)).trans hw281_2), ((HB.out.cell (World.block_lt_of_cell? w _ hw281_3)).trans hw281_3), ((HB.out.cell (World.block_lt_of_cell? w _ hw281_4)).trans hw281_4)⟩ (fun hHeld => ?_); refine with_tabW treemergelaw31_equal.tab1 treemergelaw31_equal.bits1 (fun HT_ HW_ => ?_)
         generalize w.drew = w18 at HB HR276_3 HR276_4 HR277_3 HR277_4 HR280_3 HR280_4 HR281_3 HR281_4 hx276_0 hx276_1 hx276_2 hx276_3 hx276_4 hx277_0 hx277_1 hx277_2 hx277_3 hx277_4 hx280_0 hx280_1 hx280_2 hx280_3 hx280_4 hx281_0 hx281_1 hx281_2 hx281_3 hx281_4 hHeld ⊢
         refine PU 0 15 HT_ ?_
         refine PU 1 16 HT_ ?_
         refine PU 2 17 HT_ ?_
         refine PU 3 18 HT_ ?_
         refine PU 5 20 HT_ ?_
         refine PU 6 21 HT_ ?_
         refine PU 7 22 HT_ ?_
         refine PU 8 23 HT_ ?_
         refine TU 4 19 HT_ HW_ hHeld ?_
         refine TU 9 24 HT_ HW_ hHeld ?_
         refine PU 10 25 HT_ ?_
         refine PU 11 26 HT_ ?_
         refine PU 12 27 HT_ ?_
         refine PU 13 28 HT_ ?_
         refine PU 14 29 HT_ ?_
         refine PU 16 31 HT_ ?_
         refine PU 17 32 HT_ ?_
         refine PU 18 33 HT_ ?_
         refine one_ (i := 15) (N := some 30) #[true, true, true, true, true, true, true, true, true, true, true, true, true, true, true, true, true, true, true, false, false, false, false, false, false, false, false, false, false, false, false, false, false, false, false, false, false, false, false, false, false, false, false, false, false, false, false, false, false, false, false, false] rfl rfl (one_of HT_.out (by kernel_rfl)) (by decide) (fun K hK => ?_)
         refine goes_ Try.func60 (by kernel_rfl) rfl #[.slice (some ad276) l0.length c0, .slice A2 l2.length c2, .int .i64 a4] (by rfl) rfl rfl MX ?_
         with_reducible refine (treemergelaw31_up.calls _ _ l0 _ _ l2 a4 t278 _ ?side1 ?side2 ?side3 ?side4 A13.out).mono ?_
         (case side1 => exact CX (Kd.C_below HR0.out HB.out))
         (case side2 => exact HC0.out)
         (case side3 => exact CX (Kd.C_below HR2.out HB.out))
         (case side4 => exact HC2.out)
         rintro e w' ⟨rfl, ⟨nd, rfl⟩⟩
         refine ⟨_, rfl, ?_⟩
         refine hK.out _ _ ⟨((HB.out.cell (World.block_lt_of_cell? w _ hw276_0)).trans hw276_0), ((HB.out.cell (World.block_lt_of_cell? w _ hw276_1)).trans hw276_1), ((HB.out.cell (World.block_lt_of_cell? w _ hw276_2)).trans hw276_2), ((HB.out.cell (World.block_lt_of_cell? w _ hw276_3)).trans hw276_3), ((HB.out.cell (World.block_lt_of_cell? w _ hw276_4)).trans hw276_4), ((HB.out.cell (World.block_lt_of_cell? w _ hw277_0)).trans hw277_0), ((HB.out.cell (World.block_lt_of_cell? w _ hw277_1)).trans hw277_1), ((HB.out.cell (World.block_lt_of_cell? w _ hw277_2)).trans hw277_2), ((HB.out.cell (World.block_lt_of_cell? w _ hw277_3)).trans hw277_3), ((HB.out.cell (World.block_lt_of_cell? w _ hw277_4)).trans hw277_4), ((HB.out.cell (World.block_lt_of_cell? w _ hw280_0)).trans hw280_0), ((HB.out.cell (World.block_lt_of_cell? w _ hw280_1)).trans hw280_1), ((HB.out.cell (World.block_lt_of_cell? w _ hw280_2)).trans hw280_2), ((HB.out.cell (World.block_lt_of_cell? w _ hw280_3)).trans hw280_3), ((HB.out.cell (World.block_lt_of_cell? w _ hw280_4)).trans hw280_4), ((HB.out.cell (World.block_lt_of_cell? w _ hw281_0)).trans hw281_0), ((HB.out.cell (World.block_lt_of_cell? w _ hw281_1)).trans hw281_1), ((HB.out.cell (World.block_lt_of_cell? w _ hw281_2)).trans hw281_2), ((HB.out.cell (World.block_lt_of_cell? w _ hw281_3)).trans hw281_3), ((HB.out.cell (World.block_lt_of_cell? w _ hw281_4)).trans hw281_4)⟩ (fun hHeld => ?_)
         clear hK K
         refine norm_ (a' := ?_) ?_ ?_
         rotate_left
         ·show Act.put _ (some 30) _ = _
          simp only [Act.put, List.setIfInBounds_toArray, List.set_cons_zero, List.set_cons_succ, i64_w, i32_w]
          rfl
         refine one_ (i := 19) (N := some 34) #[true, true, true, true, true, true, true, true, true, true, true, true, true, true, true, true, true, true, true, true, false, false, false, false, false, false, false, false, false, false, false, false, false, false, false, false, false, false, false, false, false, false, false, false, false, false, false, false, false, false, false, false] rfl rfl (one_of HT_.out (by kernel_rfl)) (by decide) (fun K hK => ?_)
         refine goes_ Try.func60 (by kernel_rfl) rfl #[.slice (some ad277) l1.length c1, .slice A3 l3.length c3, .int .i64 a5] (by rfl) rfl rfl MX ?_
         with_reducible refine (treemergelaw31_up.calls _ _ l1 _ _ l3 a5 t279 _ ?side1 ?side2 ?side3 ?side4 A14.out).mono ?_
         (case side1 => exact CX (Kd.C_below HR1.out (BX HB.out)))
         (case side2 => exact HC1.out)
         (case side3 => exact CX (Kd.C_below HR3.out (BX HB.out)))
         (case side4 => exact HC3.out)
         rintro e w' ⟨rfl, ⟨nd, rfl⟩⟩
         refine ⟨_, rfl, ?_⟩
         refine hK.out _ _ ⟨((HB.out.cell (World.block_lt_of_cell? w _ hw276_0)).trans hw276_0), ((HB.out.cell (World.block_lt_of_cell? w _ hw276_1)).trans hw276_1), ((HB.out.cell (World.block_lt_of_cell? w _ hw276_2)).trans hw276_2), ((HB.out.cell (World.block_lt_of_cell? w _ hw276_3)).trans hw276_3), ((HB.out.cell (World.block_lt_of_cell? w _ hw276_4)).trans hw276_4), ((HB.out.cell (World.block_lt_of_cell? w _ hw277_0)).trans hw277_0), ((HB.out.cell (World.block_lt_of_cell? w _ hw277_1)).trans hw277_1), ((HB.out.cell (World.block_lt_of_cell? w _ hw277_2)).trans hw277_2), ((HB.out.cell (World.block_lt_of_cell? w _ hw277_3)).trans hw277_3), ((HB.out.cell (World.block_lt_of_cell? w _ hw277_4)).trans hw277_4), ((HB.out.cell (World.block_lt_of_cell? w _ hw280_0)).trans hw280_0), ((HB.out.cell (World.block_lt_of_cell? w _ hw280_1)).trans hw280_1), ((HB.out.cell (World.block_lt_of_cell? w _ hw280_2)).trans hw280_2), ((HB.out.cell (World.block_lt_of_cell? w _ hw280_3)).trans hw280_3), ((HB.out.cell (World.block_lt_of_cell? w _ hw280_4)).trans hw280_4), ((HB.out.cell (World.block_lt_of_cell? w _ hw281_0)).trans hw281_0), ((HB.out.cell (World.block_lt_of_cell? w _ hw281_1)).trans hw281_1), ((HB.out.cell (World.block_lt_of_cell? w _ hw281_2)).trans hw281_2), ((HB.out.cell (World.block_lt_of_cell? w _ hw281_3)).trans hw281_3), ((HB.out.cell (World.block_lt_of_cell? w _ hw281_4)).trans hw281_4)⟩ (fun hHeld => ?_)
         clear hK K
         refine norm_ (a' := ?_) ?_ ?_
         rotate_left
         ·show Act.put _ (some 34) _ = _
          simp only [Act.put, List.setIfInBounds_toArray, List.set_cons_zero, List.set_cons_succ, i64_w, i32_w]
          rfl
         refine PU 20 35 HT_ ?_
         refine PU 21 36 HT_ ?_
         refine PU 22 37 HT_ ?_
         refine PU 23 38 HT_ ?_
         refine PU 24 39 HT_ ?_
         refine PU 25 40 HT_ ?_
         refine PU 26 41 HT_ ?_
         refine PU 29 44 HT_ ?_
         refine PU 30 45 HT_ ?_
         refine PU 31 46 HT_ ?_
         refine PU 32 47 HT_ ?_
         refine TU 27 42 HT_ HW_ hHeld ?_
         refine PU 28 43 HT_ ?_
         refine TU 33 48 HT_ HW_ hHeld ?_
         refine PU 34 49 HT_ ?_
         refine PU 35 50 HT_ ?_
         refine PU 36 51 HT_ ?_
         refine PU 37 52 HT_ ?_
         refine PV 38 53 HT_ ?_
         refine PV 39 54 HT_ ?_
         refine PV 40 55 HT_ ?_
         refine PV 41 56 HT_ ?_
         refine PV 42 57 HT_ ?_
         refine PV 43 58 HT_ ?_
         refine PV 44 59 HT_ ?_
         refine PV 45 60 HT_ ?_
         refine PV 46 61 HT_ ?_
         refine PV 47 62 HT_ ?_
         refine PV 48 63 HT_ ?_
         refine PV 49 64 HT_ ?_
         refine PV 50 65 HT_ ?_
         refine PU 51 66 HT_ ?_
         refine done_ (done_of HT_.out (by kernel_rfl)) ?_
         try go_wp2
         go_meet
         case rel => exact ⟨_, (true), SX, H', ⟨by first | omega | exact Nat.le_refl _⟩, ⟨BX HB.out⟩⟩
       ·rw [if_neg c15] at H
        have c15b0 : (t278 == t279) = false := beq_eq_false_iff_ne.mpr c15
        have c15b1 : (t278 != t279) = true := bne_iff_ne.mpr c15
        have H' := Aside0.mk H
        clear H
        try go_wp2
        have n0_ := Aside0.mk (below_drew1 HB.out)
        clear HB
        have HB := n0_
        clear n0_
        have p276 : 0 ≤ (a4 : Int) := of_decide_eq_true AX
        have q276 : a4 < (l0.length : Int) := of_decide_eq_true AX
        obtain ⟨ad276, A276_3, c276_3, A276_4, c276_4, e276, hx276_0, hx276_1, hx276_2, hx276_3, hx276_4, hl276_3, hi276_3, hl276_4, hi276_4⟩ := at_T70 HR0.out a4 p276 q276
        have hw276_4 := hx276_4
        have hw276_3 := hx276_3
        have hw276_2 := hx276_2
        have hw276_1 := hx276_1
        have hw276_0 := hx276_0
        cases e276
        replace hx276_0 := (HB.out.cell (World.block_lt_of_cell? w _ hx276_0)).trans hx276_0
        replace hx276_1 := (HB.out.cell (World.block_lt_of_cell? w _ hx276_1)).trans hx276_1
        replace hx276_2 := (HB.out.cell (World.block_lt_of_cell? w _ hx276_2)).trans hx276_2
        replace hx276_3 := (HB.out.cell (World.block_lt_of_cell? w _ hx276_3)).trans hx276_3
        replace hx276_4 := (HB.out.cell (World.block_lt_of_cell? w _ hx276_4)).trans hx276_4
        have HR276_3 := Aside0.mk hi276_3
        have HC276_3 := Aside0.mk hl276_3
        clear hi276_3 hl276_3
        have HR276_4 := Aside0.mk hi276_4
        have HC276_4 := Aside0.mk hl276_4
        clear hi276_4 hl276_4
        replace p276 := eq_true p276
        replace q276 := eq_true q276
        have p277 : 0 ≤ (a5 : Int) := of_decide_eq_true AX
        have q277 : a5 < (l1.length : Int) := of_decide_eq_true AX
        obtain ⟨ad277, A277_3, c277_3, A277_4, c277_4, e277, hx277_0, hx277_1, hx277_2, hx277_3, hx277_4, hl277_3, hi277_3, hl277_4, hi277_4⟩ := at_T70 HR1.out a5 p277 q277
        have hw277_4 := hx277_4
        have hw277_3 := hx277_3
        have hw277_2 := hx277_2
        have hw277_1 := hx277_1
        have hw277_0 := hx277_0
        cases e277
        replace hx277_0 := (HB.out.cell (World.block_lt_of_cell? w _ hx277_0)).trans hx277_0
        replace hx277_1 := (HB.out.cell (World.block_lt_of_cell? w _ hx277_1)).trans hx277_1
        replace hx277_2 := (HB.out.cell (World.block_lt_of_cell? w _ hx277_2)).trans hx277_2
        replace hx277_3 := (HB.out.cell (World.block_lt_of_cell? w _ hx277_3)).trans hx277_3
        replace hx277_4 := (HB.out.cell (World.block_lt_of_cell? w _ hx277_4)).trans hx277_4
        have HR277_3 := Aside0.mk hi277_3
        have HC277_3 := Aside0.mk hl277_3
        clear hi277_3 hl277_3
        have HR277_4 := Aside0.mk hi277_4
        have HC277_4 := Aside0.mk hl277_4
        clear hi277_4 hl277_4
        replace p277 := eq_true p277
        replace q277 := eq_true q277
        refine start_ (n := 52) (S := fun w' => w'.cell? (ad276.add ((a4).toNat * 5)) = some (.int .i64 ((rd_T70 l0 a4).f0)) ∧ w'.cell? ⟨(ad276.add ((a4).toNat * 5)).block, (ad276.add ((a4).toNat * 5)).off + 1, none⟩ = some (.int .i64 ((rd_T70 l0 a4).f1)) ∧ w'.cell? ⟨(ad276.add ((a4).toNat * 5)).block, (ad276.add ((a4).toNat * 5)).off + 2, none⟩ = some (.string ((rd_T70 l0 a4).f2)) ∧ w'.cell? ⟨(ad276.add ((a4).toNat * 5)).block, (ad276.add ((a4).toNat * 5)).off + 3, none⟩ = some (.slice _ ((rd_T70 l0 a4).f3).length _) ∧ w'.cell? ⟨(ad276.add ((a4).toNat * 5)).block, (ad276.add ((a4).toNat * 5)).off + 4, none⟩ = some (.slice _ ((rd_T70 l0 a4).f4).length _) ∧ w'.cell? (ad277.add ((a5).toNat * 5)) = some (.int .i64 ((rd_T70 l1 a5).f0)) ∧ w'.cell? ⟨(ad277.add ((a5).toNat * 5)).block, (ad277.add ((a5).toNat * 5)).off + 1, none⟩ = some (.int .i64 ((rd_T70 l1 a5).f1)) ∧ w'.cell? ⟨(ad277.add ((a5).toNat * 5)).block, (ad277.add ((a5).toNat * 5)).off + 2, none⟩ = some (.string ((rd_T70 l1 a5).f2)) ∧ w'.cell? ⟨(ad277.add ((a5).toNat * 5)).block, (ad277.add ((a5).toNat * 5)).off + 3, none⟩ = some (.slice _ ((rd_T70 l1 a5).f3).length _) ∧ w'.cell? ⟨(ad277.add ((a5).toNat * 5)).block, (ad277.add ((a5).toNat * 5)).off + 4, none⟩ = some (.slice _ ((rd_T70 l1 a5).f4).length _)) (ds := []) #[false, false, false, false, false, false, false, false, false, false, false, false, false, false, false, false, false, false, false, false, false, false, false, false, false, false, false, false, false, false, false, false, false, false, false, false, false, false, false, false, false, false, false, false, false, false, false, false, false, false, false, false] (by kernel_rfl) rfl rfl ⟨((HB.out.cell (World.block_lt_of_cell? w _ hw276_0)).trans hw276_0), ((HB.out.cell (World.block_lt_of_cell? w _ hw276_1)).trans hw276_1), ((HB.out.cell (World.block_lt_of_cell? w _ hw276_2)).trans hw276_2), ((HB.out.cell (World.block_lt_of_cell? w _ hw276_3)).trans hw276_3), ((HB.out.cell (World.block_lt_of_cell? w _ hw276_4)).trans hw276_4), ((HB.out.cell (World.block_lt_of_cell? w _ hw277_0)).trans hw277_0), ((HB.out.cell (World.block_lt_of_cell? w _ hw277_1)).trans hw277_1), ((HB.out.cell (World.block_lt_of_cell? w _ hw277_2)).trans hw277_2), ((HB.out.cell (World.block_lt_of_cell? w _ hw277_3)).trans hw277_3), ((HB.out.cell (World.block_lt_of_cell? w _ hw277_4)).trans hw277_4)⟩ (fun hHeld => ?_); refine with_tabW treemergelaw31_equal.tab1 treemergelaw31_equal.bits1 (fun HT_ HW_ => ?_)
        generalize w.drew = w19 at HB HR276_3 HR276_4 HR277_3 HR277_4 hx276_0 hx276_1 hx276_2 hx276_3 hx276_4 hx277_0 hx277_1 hx277_2 hx277_3 hx277_4 hHeld ⊢
        refine PU 0 15 HT_ ?_
        refine PU 1 16 HT_ ?_
        refine PU 2 17 HT_ ?_
        refine PU 3 18 HT_ ?_
        refine PU 5 20 HT_ ?_
        refine PU 6 21 HT_ ?_
        refine PU 7 22 HT_ ?_
        refine PU 8 23 HT_ ?_
        refine TU 4 19 HT_ HW_ hHeld ?_
        refine TU 9 24 HT_ HW_ hHeld ?_
        refine PU 10 25 HT_ ?_
        refine PU 11 26 HT_ ?_
        refine PU 12 27 HT_ ?_
        refine PU 13 28 HT_ ?_
        refine PU 14 29 HT_ ?_
        refine PU 16 31 HT_ ?_
        refine PU 17 32 HT_ ?_
        refine PU 18 33 HT_ ?_
        refine one_ (i := 15) (N := some 30) #[true, true, true, true, true, true, true, true, true, true, true, true, true, true, true, true, true, true, true, false, false, false, false, false, false, false, false, false, false, false, false, false, false, false, false, false, false, false, false, false, false, false, false, false, false, false, false, false, false, false, false, false] rfl rfl (one_of HT_.out (by kernel_rfl)) (by decide) (fun K hK => ?_)
        refine goes_ Try.func60 (by kernel_rfl) rfl #[.slice (some ad276) l0.length c0, .slice A2 l2.length c2, .int .i64 a4] (by rfl) rfl rfl MX ?_
        with_reducible refine (treemergelaw31_up.calls _ _ l0 _ _ l2 a4 t278 _ ?side1 ?side2 ?side3 ?side4 A13.out).mono ?_
        (case side1 => exact CX (Kd.C_below HR0.out HB.out))
        (case side2 => exact HC0.out)
        (case side3 => exact CX (Kd.C_below HR2.out HB.out))
        (case side4 => exact HC2.out)
        rintro e w' ⟨rfl, ⟨nd, rfl⟩⟩
        refine ⟨_, rfl, ?_⟩
        refine hK.out _ _ ⟨((HB.out.cell (World.block_lt_of_cell? w _ hw276_0)).trans hw276_0), ((HB.out.cell (World.block_lt_of_cell? w _ hw276_1)).trans hw276_1), ((HB.out.cell (World.block_lt_of_cell? w _ hw276_2)).trans hw276_2), ((HB.out.cell (World.block_lt_of_cell? w _ hw276_3)).trans hw276_3), ((HB.out.cell (World.block_lt_of_cell? w _ hw276_4)).trans hw276_4), ((HB.out.cell (World.block_lt_of_cell? w _ hw277_0)).trans hw277_0), ((HB.out.cell (World.block_lt_of_cell? w _ hw277_1)).trans hw277_1), ((HB.out.cell (World.block_lt_of_cell? w _ hw277_2)).trans hw277_2), ((HB.out.cell (World.block_lt_of_cell? w _ hw277_3)).trans hw277_3), ((HB.out.cell (World.block_lt_of_cell? w _ hw277_4)).trans hw277_4)⟩ (fun hHeld => ?_)
        clear hK K
        refine norm_ (a' := ?_) ?_ ?_
        rotate_left
        ·show Act.put _ (some 30) _ = _
         simp only [Act.put, List.setIfInBounds_toArray, List.set_cons_zero, List.set_cons_succ, i64_w, i32_w]
         rfl
        refine one_ (i := 19) (N := some 34) #[true, true, true, true, true, true, true, true, true, true, true, true, true, true, true, true, true, true, true, true, false, false, false, false, false, false, false, false, false, false, false, false, false, false, false, false, false, false, false, false, false, false, false, false, false, false, false, false, false, false, false, false] rfl rfl (one_of HT_.out (by kernel_rfl)) (by decide) (fun K hK => ?_)
        refine goes_ Try.func60 (by kernel_rfl) rfl #[.slice (some ad277) l1.length c1, .slice A3 l3.length c3, .int .i64 a5] (by rfl) rfl rfl MX ?_
        with_reducible refine (treemergelaw31_up.calls _ _ l1 _ _ l3 a5 t279 _ ?side1 ?side2 ?side3 ?side4 A14.out).mono ?_
        (case side1 => exact CX (Kd.C_below HR1.out (BX HB.out)))
        (case side2 => exact HC1.out)
        (case side3 => exact CX (Kd.C_below HR3.out (BX HB.out)))
        (case side4 => exact HC3.out)
        rintro e w' ⟨rfl, ⟨nd, rfl⟩⟩
        refine ⟨_, rfl, ?_⟩
        refine hK.out _ _ ⟨((HB.out.cell (World.block_lt_of_cell? w _ hw276_0)).trans hw276_0), ((HB.out.cell (World.block_lt_of_cell? w _ hw276_1)).trans hw276_1), ((HB.out.cell (World.block_lt_of_cell? w _ hw276_2)).trans hw276_2), ((HB.out.cell (World.block_lt_of_cell? w _ hw276_3)).trans hw276_3), ((HB.out.cell (World.block_lt_of_cell? w _ hw276_4)).trans hw276_4), ((HB.out.cell (World.block_lt_of_cell? w _ hw277_0)).trans hw277_0), ((HB.out.cell (World.block_lt_of_cell? w _ hw277_1)).trans hw277_1), ((HB.out.cell (World.block_lt_of_cell? w _ hw277_2)).trans hw277_2), ((HB.out.cell (World.block_lt_of_cell? w _ hw277_3)).trans hw277_3), ((HB.out.cell (World.block_lt_of_cell? w _ hw277_4)).trans hw277_4)⟩ (fun hHeld => ?_)
        clear hK K
        refine norm_ (a' := ?_) ?_ ?_
        rotate_left
        ·show Act.put _ (some 34) _ = _
         simp only [Act.put, List.setIfInBounds_toArray, List.set_cons_zero, List.set_cons_succ, i64_w, i32_w]
         rfl
        refine PU 20 35 HT_ ?_
        refine PU 21 36 HT_ ?_
        refine PU 22 37 HT_ ?_
        refine PV 23 38 HT_ ?_
        refine PV 24 39 HT_ ?_
        refine PV 25 40 HT_ ?_
        refine PV 26 41 HT_ ?_
        refine PV 27 42 HT_ ?_
        refine PV 28 43 HT_ ?_
        refine PV 29 44 HT_ ?_
        refine PV 30 45 HT_ ?_
        refine PV 31 46 HT_ ?_
        refine PV 32 47 HT_ ?_
        refine PV 33 48 HT_ ?_
        refine PV 34 49 HT_ ?_
        refine PV 35 50 HT_ ?_
        refine PU 36 51 HT_ ?_
        refine PU 37 52 HT_ ?_
        refine PV 38 53 HT_ ?_
        refine PV 39 54 HT_ ?_
        refine PV 40 55 HT_ ?_
        refine PV 41 56 HT_ ?_
        refine PV 42 57 HT_ ?_
        refine PV 43 58 HT_ ?_
        refine PV 44 59 HT_ ?_
        refine PV 45 60 HT_ ?_
        refine PV 46 61 HT_ ?_
        refine PV 47 62 HT_ ?_
        refine PV 48 63 HT_ ?_
        refine PV 49 64 HT_ ?_
        refine PV 50 65 HT_ ?_
        refine PU 51 66 HT_ ?_
        refine done_ (done_of HT_.out (by kernel_rfl)) ?_
        try go_wp2
        go_meet
        case rel => exact ⟨_, (true), SX, H', ⟨by first | omega | exact Nat.le_refl _⟩, ⟨BX HB.out⟩⟩
      ·rw [if_neg c12] at H
       have c12b0 : (((rd_T70 l0 a4).f2).toList == ((rd_T70 l1 a5).f2).toList) = false := beq_eq_false_iff_ne.mpr c12
       have c12b1 : (((rd_T70 l0 a4).f2).toList != ((rd_T70 l1 a5).f2).toList) = true := bne_iff_ne.mpr c12
       have H' := Aside0.mk H
       clear H
       try go_wp2
       have n0_ := Aside0.mk (below_drew1 HB.out)
       clear HB
       have HB := n0_
       clear n0_
       have p276 : 0 ≤ (a4 : Int) := of_decide_eq_true AX
       have q276 : a4 < (l0.length : Int) := of_decide_eq_true AX
       obtain ⟨ad276, A276_3, c276_3, A276_4, c276_4, e276, hx276_0, hx276_1, hx276_2, hx276_3, hx276_4, hl276_3, hi276_3, hl276_4, hi276_4⟩ := at_T70 HR0.out a4 p276 q276
       have hw276_4 := hx276_4
       have hw276_3 := hx276_3
       have hw276_2 := hx276_2
       have hw276_1 := hx276_1
       have hw276_0 := hx276_0
       cases e276
       replace hx276_0 := (HB.out.cell (World.block_lt_of_cell? w _ hx276_0)).trans hx276_0
       replace hx276_1 := (HB.out.cell (World.block_lt_of_cell? w _ hx276_1)).trans hx276_1
       replace hx276_2 := (HB.out.cell (World.block_lt_of_cell? w _ hx276_2)).trans hx276_2
       replace hx276_3 := (HB.out.cell (World.block_lt_of_cell? w _ hx276_3)).trans hx276_3
       replace hx276_4 := (HB.out.cell (World.block_lt_of_cell? w _ hx276_4)).trans hx276_4
       have HR276_3 := Aside0.mk hi276_3
       have HC276_3 := Aside0.mk hl276_3
       clear hi276_3 hl276_3
       have HR276_4 := Aside0.mk hi276_4
       have HC276_4 := Aside0.mk hl276_4
       clear hi276_4 hl276_4
       replace p276 := eq_true p276
       replace q276 := eq_true q276
       have p277 : 0 ≤ (a5 : Int) := of_decide_eq_true AX
       have q277 : a5 < (l1.length : Int) := of_decide_eq_true AX
       obtain ⟨ad277, A277_3, c277_3, A277_4, c277_4, e277, hx277_0, hx277_1, hx277_2, hx277_3, hx277_4, hl277_3, hi277_3, hl277_4, hi277_4⟩ := at_T70 HR1.out a5 p277 q277
       have hw277_4 := hx277_4
       have hw277_3 := hx277_3
       have hw277_2 := hx277_2
       have hw277_1 := hx277_1
       have hw277_0 := hx277_0
       cases e277
       replace hx277_0 := (HB.out.cell (World.block_lt_of_cell? w _ hx277_0)).trans hx277_0
       replace hx277_1 := (HB.out.cell (World.block_lt_of_cell? w _ hx277_1)).trans hx277_1
       replace hx277_2 := (HB.out.cell (World.block_lt_of_cell? w _ hx277_2)).trans hx277_2
       replace hx277_3 := (HB.out.cell (World.block_lt_of_cell? w _ hx277_3)).trans hx277_3
       replace hx277_4 := (HB.out.cell (World.block_lt_of_cell? w _ hx277_4)).trans hx277_4
       have HR277_3 := Aside0.mk hi277_3
       have HC277_3 := Aside0.mk hl277_3
       clear hi277_3 hl277_3
       have HR277_4 := Aside0.mk hi277_4
       have HC277_4 := Aside0.mk hl277_4
       clear hi277_4 hl277_4
       replace p277 := eq_true p277
       replace q277 := eq_true q277
       refine start_ (n := 52) (S := fun w' => w'.cell? (ad276.add ((a4).toNat * 5)) = some (.int .i64 ((rd_T70 l0 a4).f0)) ∧ w'.cell? ⟨(ad276.add ((a4).toNat * 5)).block, (ad276.add ((a4).toNat * 5)).off + 1, none⟩ = some (.int .i64 ((rd_T70 l0 a4).f1)) ∧ w'.cell? ⟨(ad276.add ((a4).toNat * 5)).block, (ad276.add ((a4).toNat * 5)).off + 2, none⟩ = some (.string ((rd_T70 l0 a4).f2)) ∧ w'.cell? ⟨(ad276.add ((a4).toNat * 5)).block, (ad276.add ((a4).toNat * 5)).off + 3, none⟩ = some (.slice _ ((rd_T70 l0 a4).f3).length _) ∧ w'.cell? ⟨(ad276.add ((a4).toNat * 5)).block, (ad276.add ((a4).toNat * 5)).off + 4, none⟩ = some (.slice _ ((rd_T70 l0 a4).f4).length _) ∧ w'.cell? (ad277.add ((a5).toNat * 5)) = some (.int .i64 ((rd_T70 l1 a5).f0)) ∧ w'.cell? ⟨(ad277.add ((a5).toNat * 5)).block, (ad277.add ((a5).toNat * 5)).off + 1, none⟩ = some (.int .i64 ((rd_T70 l1 a5).f1)) ∧ w'.cell? ⟨(ad277.add ((a5).toNat * 5)).block, (ad277.add ((a5).toNat * 5)).off + 2, none⟩ = some (.string ((rd_T70 l1 a5).f2)) ∧ w'.cell? ⟨(ad277.add ((a5).toNat * 5)).block, (ad277.add ((a5).toNat * 5)).off + 3, none⟩ = some (.slice _ ((rd_T70 l1 a5).f3).length _) ∧ w'.cell? ⟨(ad277.add ((a5).toNat * 5)).block, (ad277.add ((a5).toNat * 5)).off + 4, none⟩ = some (.slice _ ((rd_T70 l1 a5).f4).length _)) (ds := []) #[false, false, false, false, false, false, false, false, false, false, false, false, false, false, false, false, false, false, false, false, false, false, false, false, false, false, false, false, false, false, false, false, false, false, false, false, false, false, false, false, false, false, false, false, false, false, false, false, false, false, false, false] (by kernel_rfl) rfl rfl ⟨((HB.out.cell (World.block_lt_of_cell? w _ hw276_0)).trans hw276_0), ((HB.out.cell (World.block_lt_of_cell? w _ hw276_1)).trans hw276_1), ((HB.out.cell (World.block_lt_of_cell? w _ hw276_2)).trans hw276_2), ((HB.out.cell (World.block_lt_of_cell? w _ hw276_3)).trans hw276_3), ((HB.out.cell (World.block_lt_of_cell? w _ hw276_4)).trans hw276_4), ((HB.out.cell (World.block_lt_of_cell? w _ hw277_0)).trans hw277_0), ((HB.out.cell (World.block_lt_of_cell? w _ hw277_1)).trans hw277_1), ((HB.out.cell (World.block_lt_of_cell? w _ hw277_2)).trans hw277_2), ((HB.out.cell (World.block_lt_of_cell? w _ hw277_3)).trans hw277_3), ((HB.out.cell (World.block_lt_of_cell? w _ hw277_4)).trans hw277_4)⟩ (fun hHeld => ?_); refine with_tabW treemergelaw31_equal.tab1 treemergelaw31_equal.bits1 (fun HT_ HW_ => ?_)
       generalize w.drew = w20 at HB HR276_3 HR276_4 HR277_3 HR277_4 hx276_0 hx276_1 hx276_2 hx276_3 hx276_4 hx277_0 hx277_1 hx277_2 hx277_3 hx277_4 hHeld ⊢
       refine PU 0 15 HT_ ?_
       refine PU 1 16 HT_ ?_
       refine PU 2 17 HT_ ?_
       refine PU 3 18 HT_ ?_
       refine PU 5 20 HT_ ?_
       refine PU 6 21 HT_ ?_
       refine PU 7 22 HT_ ?_
       refine PU 8 23 HT_ ?_
       refine TU 4 19 HT_ HW_ hHeld ?_
       refine TU 9 24 HT_ HW_ hHeld ?_
       refine PU 10 25 HT_ ?_
       refine PU 11 26 HT_ ?_
       refine PV 12 27 HT_ ?_
       refine PV 13 28 HT_ ?_
       refine PV 14 29 HT_ ?_
       refine PV 15 30 HT_ ?_
       refine PV 16 31 HT_ ?_
       refine PV 17 32 HT_ ?_
       refine PV 18 33 HT_ ?_
       refine PV 19 34 HT_ ?_
       refine PV 20 35 HT_ ?_
       refine PU 21 36 HT_ ?_
       refine PU 22 37 HT_ ?_
       refine PV 23 38 HT_ ?_
       refine PV 24 39 HT_ ?_
       refine PV 25 40 HT_ ?_
       refine PV 26 41 HT_ ?_
       refine PV 27 42 HT_ ?_
       refine PV 28 43 HT_ ?_
       refine PV 29 44 HT_ ?_
       refine PV 30 45 HT_ ?_
       refine PV 31 46 HT_ ?_
       refine PV 32 47 HT_ ?_
       refine PV 33 48 HT_ ?_
       refine PV 34 49 HT_ ?_
       refine PV 35 50 HT_ ?_
       refine PU 36 51 HT_ ?_
       refine PU 37 52 HT_ ?_
       refine PV 38 53 HT_ ?_
       refine PV 39 54 HT_ ?_
       refine PV 40 55 HT_ ?_
       refine PV 41 56 HT_ ?_
       refine PV 42 57 HT_ ?_
       refine PV 43 58 HT_ ?_
       refine PV 44 59 HT_ ?_
       refine PV 45 60 HT_ ?_
       refine PV 46 61 HT_ ?_
       refine PV 47 62 HT_ ?_
       refine PV 48 63 HT_ ?_
       refine PV 49 64 HT_ ?_
       refine PV 50 65 HT_ ?_
       refine PU 51 66 HT_ ?_
       refine done_ (done_of HT_.out (by kernel_rfl)) ?_
       try go_wp2
       go_meet
       case rel => exact ⟨_, (true), SX, H', ⟨by first | omega | exact Nat.le_refl _⟩, ⟨BX HB.out⟩⟩
     ·rw [if_neg c11] at H
      exact absurd H (by simp)
    ·rw [if_neg c10] at H
     exact absurd H (by simp)
   ·rw [if_neg c9] at H
    exact absurd H (by simp)
  ·rw [if_neg c8] at H
   exact absurd H (by simp)
 case rest =>
  clear HC7
  try clear c1
  try clear c2
  try clear p2
  try clear q2
  try clear hx2
  try clear c3
  try clear c6
  try clear c8
  try clear c9
  try clear c10
  try clear c11
  try clear c12
  try clear c12b0
  try clear c12b1
  try clear hx276_0
  try clear hx276_1
  try clear hx276_2
  try clear hx276_3
  try clear hx276_4
  try clear hx277_0
  try clear hx277_1
  try clear hx277_2
  try clear hx277_3
  try clear hx277_4
  try clear p276
  try clear p277
  try clear q276
  try clear q277
  obtain ⟨kq, x66_6, rfl, HA, HJ6, HB⟩ := hcut
  cases kq with
  | zero => exact absurd HA.out (by simp [treemergelaw31_equal.j0])
  | succ kj6 =>
   have H := HA.out
   clear HA
   simp only [treemergelaw31_equal.j0] at H
   by_cases c21 : x66_6 = true
   ·subst c21
    have H1 : (some false) = some r := by rw [if_pos rfl] at H; exact H
    clear H
    have H := H1
    clear H1
    obtain rfl := Option.some.inj H
    go_wp2
    go_ret
    exact ⟨by first | rfl | (simp [errW_none, errW_some] <;> rfl) | (simp [*, errW_none, errW_some] <;> rfl), BX HB.out⟩
   ·replace c21 := Bool.eq_false_iff.mpr c21
    subst c21
    have H1 : (treemergelaw31_equal.l0 kj6 l0 l1 l2 l3 a4 a5 0) = some r := by rw [if_neg (show ¬ (false = true) by decide)] at H; exact H
    clear H
    have H := H1
    clear H1
    have H' := Aside0.mk H
    clear H
    go_wp2
    go_loopg [13] kj6 (fun kq v13 w' => ∃ (x13_2 : Int), v13 = .int .i64 x13_2 ∧ Aside0 (treemergelaw31_equal.l0 kq l0 l1 l2 l3 a4 a5 x13_2 = some r) ∧ Aside0 (kq ≤ kj6) ∧ Aside0 (Below w.heap.size w w'))
    case atStart => exact ⟨(0), SX, H', ⟨Nat.le_refl _⟩, ⟨BX HB.out⟩⟩
    case round =>
     clear H'
     try clear c1
     try clear c2
     try clear p2
     try clear q2
     try clear hx2
     try clear c3
     try clear c6
     try clear c8
     try clear c9
     try clear c10
     try clear c11
     try clear c12
     try clear c12b0
     try clear c12b1
     try clear c21
     try clear hx276_0
     try clear hx276_1
     try clear hx276_2
     try clear hx276_3
     try clear hx276_4
     try clear hx277_0
     try clear hx277_1
     try clear hx277_2
     try clear hx277_3
     try clear hx277_4
     try clear p2
     try clear p276
     try clear p277
     try clear q2
     try clear q276
     try clear q277
     obtain ⟨x13_2, rfl, HA, HK2, HB⟩ := hrel
     cases gk with
     | zero => exact absurd HA.out (by simp [treemergelaw31_equal.l0])
     | succ k2 =>
      have H := HA.out
      clear HA
      simp only [treemergelaw31_equal.l0] at H
      by_cases c22 : 0 ≤ a4
      ·rw [if_pos c22] at H
       have c22b0 : decide (0 ≤ a4) = true := decide_eq_true c22
       clear c22
       by_cases c23 : a4 < (l0.length : Int)
       ·rw [if_pos c23] at H
        have c23b0 : decide (a4 < (l0.length : Int)) = true := decide_eq_true c23
        clear c23
        by_cases c24 : x13_2 < (((rd_T70 l0 a4).f3).length : Int)
        ·rw [if_pos c24] at H
         have c24b0 : decide (x13_2 < (((rd_T70 l0 a4).f3).length : Int)) = true := decide_eq_true c24
         clear c24
         by_cases c25 : 0 ≤ x13_2
         ·rw [if_pos c25] at H
          have c25b0 : decide (0 ≤ x13_2) = true := decide_eq_true c25
          clear c25
          by_cases c26 : 0 ≤ a5
          ·rw [if_pos c26] at H
           have c26b0 : decide (0 ≤ a5) = true := decide_eq_true c26
           clear c26
           by_cases c27 : a5 < (l1.length : Int)
           ·rw [if_pos c27] at H
            have c27b0 : decide (a5 < (l1.length : Int)) = true := decide_eq_true c27
            clear c27
            by_cases c28 : x13_2 < (((rd_T70 l1 a5).f3).length : Int)
            ·rw [if_pos c28] at H
             have c28b0 : decide (x13_2 < (((rd_T70 l1 a5).f3).length : Int)) = true := decide_eq_true c28
             clear c28
             by_cases c29 : (rdOf ByteArray.empty ((rd_T70 l0 a4).f3) x13_2).toList = (rdOf ByteArray.empty ((rd_T70 l1 a5).f3) x13_2).toList
             ·rw [if_pos c29] at H
              have c29b0 : ((rdOf ByteArray.empty ((rd_T70 l0 a4).f3) x13_2).toList == (rdOf ByteArray.empty ((rd_T70 l1 a5).f3) x13_2).toList) = true := beq_iff_eq.mpr c29
              have c29b1 : ((rdOf ByteArray.empty ((rd_T70 l0 a4).f3) x13_2).toList != (rdOf ByteArray.empty ((rd_T70 l1 a5).f3) x13_2).toList) = false := bne_eq_false_iff_eq.mpr c29
              clear c29
              have H' := Aside0.mk H
              clear H
              have p284 : 0 ≤ (a4 : Int) := of_decide_eq_true AX
              have q284 : a4 < (l0.length : Int) := of_decide_eq_true AX
              obtain ⟨ad284, A284_3, c284_3, A284_4, c284_4, e284, hx284_0, hx284_1, hx284_2, hx284_3, hx284_4, hl284_3, hi284_3, hl284_4, hi284_4⟩ := at_T70 HR0.out a4 p284 q284
              cases e284
              replace hx284_0 := (HB.out.cell (World.block_lt_of_cell? w _ hx284_0)).trans hx284_0
              replace hx284_1 := (HB.out.cell (World.block_lt_of_cell? w _ hx284_1)).trans hx284_1
              replace hx284_2 := (HB.out.cell (World.block_lt_of_cell? w _ hx284_2)).trans hx284_2
              replace hx284_3 := (HB.out.cell (World.block_lt_of_cell? w _ hx284_3)).trans hx284_3
              replace hx284_4 := (HB.out.cell (World.block_lt_of_cell? w _ hx284_4)).trans hx284_4
              have HR284_3 := Aside0.mk hi284_3
              have HC284_3 := Aside0.mk hl284_3
              clear hi284_3 hl284_3
              have HR284_4 := Aside0.mk hi284_4
              have HC284_4 := Aside0.mk hl284_4
              clear hi284_4 hl284_4
              replace p284 := eq_true p284
              replace q284 := eq_true q284
              try go_wp2
              have n0_ := Aside0.mk (below_drew1 HB.out)
              clear HB
              have HB := n0_
              clear n0_
              have p285 : 0 ≤ (a4 : Int) := of_decide_eq_true AX
              have q285 : a4 < (l0.length : Int) := of_decide_eq_true AX
              obtain ⟨ad285, A285_3, c285_3, A285_4, c285_4, e285, hx285_0, hx285_1, hx285_2, hx285_3, hx285_4, hl285_3, hi285_3, hl285_4, hi285_4⟩ := at_T70 HR0.out a4 p285 q285
              have hw285_4 := hx285_4
              have hw285_3 := hx285_3
              have hw285_2 := hx285_2
              have hw285_1 := hx285_1
              have hw285_0 := hx285_0
              obtain rfl : ad284 = ad285 := (by injection e285)
              replace hx285_0 := (HB.out.cell (World.block_lt_of_cell? w _ hx285_0)).trans hx285_0
              replace hx285_1 := (HB.out.cell (World.block_lt_of_cell? w _ hx285_1)).trans hx285_1
              replace hx285_2 := (HB.out.cell (World.block_lt_of_cell? w _ hx285_2)).trans hx285_2
              replace hx285_3 := (HB.out.cell (World.block_lt_of_cell? w _ hx285_3)).trans hx285_3
              replace hx285_4 := (HB.out.cell (World.block_lt_of_cell? w _ hx285_4)).trans hx285_4
              have HR285_3 := Aside0.mk hi285_3
              have HC285_3 := Aside0.mk hl285_3
              clear hi285_3 hl285_3
              have HR285_4 := Aside0.mk hi285_4
              have HC285_4 := Aside0.mk hl285_4
              clear hi285_4 hl285_4
              replace p285 := eq_true p285
              replace q285 := eq_true q285
              have p286 : 0 ≤ (x13_2 : Int) := of_decide_eq_true AX
              have q286 : x13_2 < (((rd_T70 l0 a4).f3).length : Int) := of_decide_eq_true AX
              obtain ⟨ad286, e286, hx286_0⟩ := Kd.at_string HR285_3.out x13_2 p286 q286
              have hw286_0 := hx286_0
              cases e286
              replace hx286_0 := (HB.out.cell (World.block_lt_of_cell? w _ hx286_0)).trans hx286_0
              replace p286 := eq_true p286
              replace q286 := eq_true q286
              have p287 : 0 ≤ (a5 : Int) := of_decide_eq_true AX
              have q287 : a5 < (l1.length : Int) := of_decide_eq_true AX
              obtain ⟨ad287, A287_3, c287_3, A287_4, c287_4, e287, hx287_0, hx287_1, hx287_2, hx287_3, hx287_4, hl287_3, hi287_3, hl287_4, hi287_4⟩ := at_T70 HR1.out a5 p287 q287
              have hw287_4 := hx287_4
              have hw287_3 := hx287_3
              have hw287_2 := hx287_2
              have hw287_1 := hx287_1
              have hw287_0 := hx287_0
              cases e287
              replace hx287_0 := (HB.out.cell (World.block_lt_of_cell? w _ hx287_0)).trans hx287_0
              replace hx287_1 := (HB.out.cell (World.block_lt_of_cell? w _ hx287_1)).trans hx287_1
              replace hx287_2 := (HB.out.cell (World.block_lt_of_cell? w _ hx287_2)).trans hx287_2
              replace hx287_3 := (HB.out.cell (World.block_lt_of_cell? w _ hx287_3)).trans hx287_3
              replace hx287_4 := (HB.out.cell (World.block_lt_of_cell? w _ hx287_4)).trans hx287_4
              have HR287_3 := Aside0.mk hi287_3
              have HC287_3 := Aside0.mk hl287_3
              clear hi287_3 hl287_3
              have HR287_4 := Aside0.mk hi287_4
              have HC287_4 := Aside0.mk hl287_4
              clear hi287_4 hl287_4
              replace p287 := eq_true p287
              replace q287 := eq_true q287
              have p288 : 0 ≤ (x13_2 : Int) := of_decide_eq_true AX
              have q288 : x13_2 < (((rd_T70 l1 a5).f3).length : Int) := of_decide_eq_true AX
              obtain ⟨ad288, e288, hx288_0⟩ := Kd.at_string HR287_3.out x13_2 p288 q288
              have hw288_0 := hx288_0
              cases e288
              replace hx288_0 := (HB.out.cell (World.block_lt_of_cell? w _ hx288_0)).trans hx288_0
              replace p288 := eq_true p288
              replace q288 := eq_true q288
              refine start_ (n := 17) (S := fun w' => w'.cell? (ad284.add ((a4).toNat * 5)) = some (.int .i64 ((rd_T70 l0 a4).f0)) ∧ w'.cell? ⟨(ad284.add ((a4).toNat * 5)).block, (ad284.add ((a4).toNat * 5)).off + 1, none⟩ = some (.int .i64 ((rd_T70 l0 a4).f1)) ∧ w'.cell? ⟨(ad284.add ((a4).toNat * 5)).block, (ad284.add ((a4).toNat * 5)).off + 2, none⟩ = some (.string ((rd_T70 l0 a4).f2)) ∧ w'.cell? ⟨(ad284.add ((a4).toNat * 5)).block, (ad284.add ((a4).toNat * 5)).off + 3, none⟩ = some (.slice _ ((rd_T70 l0 a4).f3).length _) ∧ w'.cell? ⟨(ad284.add ((a4).toNat * 5)).block, (ad284.add ((a4).toNat * 5)).off + 4, none⟩ = some (.slice _ ((rd_T70 l0 a4).f4).length _) ∧ w'.cell? (ad286.add (x13_2).toNat) = some (.string (rdOf ByteArray.empty ((rd_T70 l0 a4).f3) x13_2)) ∧ w'.cell? (ad287.add ((a5).toNat * 5)) = some (.int .i64 ((rd_T70 l1 a5).f0)) ∧ w'.cell? ⟨(ad287.add ((a5).toNat * 5)).block, (ad287.add ((a5).toNat * 5)).off + 1, none⟩ = some (.int .i64 ((rd_T70 l1 a5).f1)) ∧ w'.cell? ⟨(ad287.add ((a5).toNat * 5)).block, (ad287.add ((a5).toNat * 5)).off + 2, none⟩ = some (.string ((rd_T70 l1 a5).f2)) ∧ w'.cell? ⟨(ad287.add ((a5).toNat * 5)).block, (ad287.add ((a5).toNat * 5)).off + 3, none⟩ = some (.slice _ ((rd_T70 l1 a5).f3).length _) ∧ w'.cell? ⟨(ad287.add ((a5).toNat * 5)).block, (ad287.add ((a5).toNat * 5)).off + 4, none⟩ = some (.slice _ ((rd_T70 l1 a5).f4).length _) ∧ w'.cell? (ad288.add (x13_2).toNat) = some (.string (rdOf ByteArray.empty ((rd_T70 l1 a5).f3) x13_2))) (ds := []) #[false, false, false, false, false, false, false, false, false, false, false, false, false, false, false, false, false] (by kernel_rfl) rfl rfl ⟨((HB.out.cell (World.block_lt_of_cell? w _ hw285_0)).trans hw285_0), ((HB.out.cell (World.block_lt_of_cell? w _ hw285_1)).trans hw285_1), ((HB.out.cell (World.block_lt_of_cell? w _ hw285_2)).trans hw285_2), ((HB.out.cell (World.block_lt_of_cell? w _ hw285_3)).trans hw285_3), ((HB.out.cell (World.block_lt_of_cell? w _ hw285_4)).trans hw285_4), ((HB.out.cell (World.block_lt_of_cell? w _ hw286_0)).trans hw286_0), ((HB.out.cell (World.block_lt_of_cell? w _ hw287_0)).trans hw287_0), ((HB.out.cell (World.block_lt_of_cell? w _ hw287_1)).trans hw287_1), ((HB.out.cell (World.block_lt_of_cell? w _ hw287_2)).trans hw287_2), ((HB.out.cell (World.block_lt_of_cell? w _ hw287_3)).trans hw287_3), ((HB.out.cell (World.block_lt_of_cell? w _ hw287_4)).trans hw287_4), ((HB.out.cell (World.block_lt_of_cell? w _ hw288_0)).trans hw288_0)⟩ (fun hHeld => ?_); refine with_tabW treemergelaw31_equal.tab6 treemergelaw31_equal.bits6 (fun HT_ HW_ => ?_)
              generalize wr.drew = w30 at HB HR285_3 HR285_4 HR287_3 HR287_4 hx285_0 hx285_1 hx285_2 hx285_3 hx285_4 hx286_0 hx287_0 hx287_1 hx287_2 hx287_3 hx287_4 hx288_0 hHeld ⊢
              refine PU 0 77 HT_ ?_
              refine PU 1 78 HT_ ?_
              refine PU 2 79 HT_ ?_
              refine PU 3 80 HT_ ?_
              refine PU 5 82 HT_ ?_
              refine PU 8 85 HT_ ?_
              refine PU 9 86 HT_ ?_
              refine PU 10 87 HT_ ?_
              refine PU 11 88 HT_ ?_
              refine PU 13 90 HT_ ?_
              refine TU 4 81 HT_ HW_ hHeld ?_
              refine PU 6 83 HT_ ?_
              refine TU 7 84 HT_ HW_ hHeld ?_
              refine TU 12 89 HT_ HW_ hHeld ?_
              refine PU 14 91 HT_ ?_
              refine TU 15 92 HT_ HW_ hHeld ?_
              refine PU 16 93 HT_ ?_
              refine done_ (done_of HT_.out (by kernel_rfl)) ?_
              try go_wp2
              go_roundg k2
              case measure => have := HJ6.out; have := HK2.out; omega
              case rel => exact ⟨(wrap64 (x13_2 + 1)), SX, H', ⟨by have := HJ6.out; have := HK2.out; omega⟩, ⟨BX HB.out⟩⟩
             ·rw [if_neg c29] at H
              have c29b0 : ((rdOf ByteArray.empty ((rd_T70 l0 a4).f3) x13_2).toList == (rdOf ByteArray.empty ((rd_T70 l1 a5).f3) x13_2).toList) = false := beq_eq_false_iff_ne.mpr c29
              have c29b1 : ((rdOf ByteArray.empty ((rd_T70 l0 a4).f3) x13_2).toList != (rdOf ByteArray.empty ((rd_T70 l1 a5).f3) x13_2).toList) = true := bne_iff_ne.mpr c29
              obtain rfl := Option.some.inj H
              have p284 : 0 ≤ (a4 : Int) := of_decide_eq_true AX
              have q284 : a4 < (l0.length : Int) := of_decide_eq_true AX
              obtain ⟨ad284, A284_3, c284_3, A284_4, c284_4, e284, hx284_0, hx284_1, hx284_2, hx284_3, hx284_4, hl284_3, hi284_3, hl284_4, hi284_4⟩ := at_T70 HR0.out a4 p284 q284
              cases e284
              replace hx284_0 := (HB.out.cell (World.block_lt_of_cell? w _ hx284_0)).trans hx284_0
              replace hx284_1 := (HB.out.cell (World.block_lt_of_cell? w _ hx284_1)).trans hx284_1
              replace hx284_2 := (HB.out.cell (World.block_lt_of_cell? w _ hx284_2)).trans hx284_2
              replace hx284_3 := (HB.out.cell (World.block_lt_of_cell? w _ hx284_3)).trans hx284_3
              replace hx284_4 := (HB.out.cell (World.block_lt_of_cell? w _ hx284_4)).trans hx284_4
              have HR284_3 := Aside0.mk hi284_3
              have HC284_3 := Aside0.mk hl284_3
              clear hi284_3 hl284_3
              have HR284_4 := Aside0.mk hi284_4
              have HC284_4 := Aside0.mk hl284_4
              clear hi284_4 hl284_4
              replace p284 := eq_true p284
              replace q284 := eq_true q284
              try go_wp2
              have n0_ := Aside0.mk (below_drew1 HB.out)
              clear HB
              have HB := n0_
              clear n0_
              have p285 : 0 ≤ (a4 : Int) := of_decide_eq_true AX
              have q285 : a4 < (l0.length : Int) := of_decide_eq_true AX
              obtain ⟨ad285, A285_3, c285_3, A285_4, c285_4, e285, hx285_0, hx285_1, hx285_2, hx285_3, hx285_4, hl285_3, hi285_3, hl285_4, hi285_4⟩ := at_T70 HR0.out a4 p285 q285
              have hw285_4 := hx285_4
              have hw285_3 := hx285_3
              have hw285_2 := hx285_2
              have hw285_1 := hx285_1
              have hw285_0 := hx285_0
              obtain rfl : ad284 = ad285 := (by injection e285)
              replace hx285_0 := (HB.out.cell (World.block_lt_of_cell? w _ hx285_0)).trans hx285_0
              replace hx285_1 := (HB.out.cell (World.block_lt_of_cell? w _ hx285_1)).trans hx285_1
              replace hx285_2 := (HB.out.cell (World.block_lt_of_cell? w _ hx285_2)).trans hx285_2
              replace hx285_3 := (HB.out.cell (World.block_lt_of_cell? w _ hx285_3)).trans hx285_3
              replace hx285_4 := (HB.out.cell (World.block_lt_of_cell? w _ hx285_4)).trans hx285_4
              have HR285_3 := Aside0.mk hi285_3
              have HC285_3 := Aside0.mk hl285_3
              clear hi285_3 hl285_3
              have HR285_4 := Aside0.mk hi285_4
              have HC285_4 := Aside0.mk hl285_4
              clear hi285_4 hl285_4
              replace p285 := eq_true p285
              replace q285 := eq_true q285
              have p286 : 0 ≤ (x13_2 : Int) := of_decide_eq_true AX
              have q286 : x13_2 < (((rd_T70 l0 a4).f3).length : Int) := of_decide_eq_true AX
              obtain ⟨ad286, e286, hx286_0⟩ := Kd.at_string HR285_3.out x13_2 p286 q286
              have hw286_0 := hx286_0
              cases e286
              replace hx286_0 := (HB.out.cell (World.block_lt_of_cell? w _ hx286_0)).trans hx286_0
              replace p286 := eq_true p286
              replace q286 := eq_true q286
              have p287 : 0 ≤ (a5 : Int) := of_decide_eq_true AX
              have q287 : a5 < (l1.length : Int) := of_decide_eq_true AX
              obtain ⟨ad287, A287_3, c287_3, A287_4, c287_4, e287, hx287_0, hx287_1, hx287_2, hx287_3, hx287_4, hl287_3, hi287_3, hl287_4, hi287_4⟩ := at_T70 HR1.out a5 p287 q287
              have hw287_4 := hx287_4
              have hw287_3 := hx287_3
              have hw287_2 := hx287_2
              have hw287_1 := hx287_1
              have hw287_0 := hx287_0
              cases e287
              replace hx287_0 := (HB.out.cell (World.block_lt_of_cell? w _ hx287_0)).trans hx287_0
              replace hx287_1 := (HB.out.cell (World.block_lt_of_cell? w _ hx287_1)).trans hx287_1
              replace hx287_2 := (HB.out.cell (World.block_lt_of_cell? w _ hx287_2)).trans hx287_2
              replace hx287_3 := (HB.out.cell (World.block_lt_of_cell? w _ hx287_3)).trans hx287_3
              replace hx287_4 := (HB.out.cell (World.block_lt_of_cell? w _ hx287_4)).trans hx287_4
              have HR287_3 := Aside0.mk hi287_3
              have HC287_3 := Aside0.mk hl287_3
              clear hi287_3 hl287_3
              have HR287_4 := Aside0.mk hi287_4
              have HC287_4 := Aside0.mk hl287_4
              clear hi287_4 hl287_4
              replace p287 := eq_true p287
              replace q287 := eq_true q287
              have p288 : 0 ≤ (x13_2 : Int) := of_decide_eq_true AX
              have q288 : x13_2 < (((rd_T70 l1 a5).f3).length : Int) := of_decide_eq_true AX
              obtain ⟨ad288, e288, hx288_0⟩ := Kd.at_string HR287_3.out x13_2 p288 q288
              have hw288_0 := hx288_0
              cases e288
              replace hx288_0 := (HB.out.cell (World.block_lt_of_cell? w _ hx288_0)).trans hx288_0
              replace p288 := eq_true p288
              replace q288 := eq_true q288
              refine start_ (n := 17) (S := fun w' => w'.cell? (ad284.add ((a4).toNat * 5)) = some (.int .i64 ((rd_T70 l0 a4).f0)) ∧ w'.cell? ⟨(ad284.add ((a4).toNat * 5)).block, (ad284.add ((a4).toNat * 5)).off + 1, none⟩ = some (.int .i64 ((rd_T70 l0 a4).f1)) ∧ w'.cell? ⟨(ad284.add ((a4).toNat * 5)).block, (ad284.add ((a4).toNat * 5)).off + 2, none⟩ = some (.string ((rd_T70 l0 a4).f2)) ∧ w'.cell? ⟨(ad284.add ((a4).toNat * 5)).block, (ad284.add ((a4).toNat * 5)).off + 3, none⟩ = some (.slice _ ((rd_T70 l0 a4).f3).length _) ∧ w'.cell? ⟨(ad284.add ((a4).toNat * 5)).block, (ad284.add ((a4).toNat * 5)).off + 4, none⟩ = some (.slice _ ((rd_T70 l0 a4).f4).length _) ∧ w'.cell? (ad286.add (x13_2).toNat) = some (.string (rdOf ByteArray.empty ((rd_T70 l0 a4).f3) x13_2)) ∧ w'.cell? (ad287.add ((a5).toNat * 5)) = some (.int .i64 ((rd_T70 l1 a5).f0)) ∧ w'.cell? ⟨(ad287.add ((a5).toNat * 5)).block, (ad287.add ((a5).toNat * 5)).off + 1, none⟩ = some (.int .i64 ((rd_T70 l1 a5).f1)) ∧ w'.cell? ⟨(ad287.add ((a5).toNat * 5)).block, (ad287.add ((a5).toNat * 5)).off + 2, none⟩ = some (.string ((rd_T70 l1 a5).f2)) ∧ w'.cell? ⟨(ad287.add ((a5).toNat * 5)).block, (ad287.add ((a5).toNat * 5)).off + 3, none⟩ = some (.slice _ ((rd_T70 l1 a5).f3).length _) ∧ w'.cell? ⟨(ad287.add ((a5).toNat * 5)).block, (ad287.add ((a5).toNat * 5)).off + 4, none⟩ = some (.slice _ ((rd_T70 l1 a5).f4).length _) ∧ w'.cell? (ad288.add (x13_2).toNat) = some (.string (rdOf ByteArray.empty ((rd_T70 l1 a5).f3) x13_2))) (ds := []) #[false, false, false, false, false, false, false, false, false, false, false, false, false, false, false, false, false] (by kernel_rfl) rfl rfl ⟨((HB.out.cell (World.block_lt_of_cell? w _ hw285_0)).trans hw285_0), ((HB.out.cell (World.block_lt_of_cell? w _ hw285_1)).trans hw285_1), ((HB.out.cell (World.block_lt_of_cell? w _ hw285_2)).trans hw285_2), ((HB.out.cell (World.block_lt_of_cell? w _ hw285_3)).trans hw285_3), ((HB.out.cell (World.block_lt_of_cell? w _ hw285_4)).trans hw285_4), ((HB.out.cell (World.block_lt_of_cell? w _ hw286_0)).trans hw286_0), ((HB.out.cell (World.block_lt_of_cell? w _ hw287_0)).trans hw287_0), ((HB.out.cell (World.block_lt_of_cell? w _ hw287_1)).trans hw287_1), ((HB.out.cell (World.block_lt_of_cell? w _ hw287_2)).trans hw287_2), ((HB.out.cell (World.block_lt_of_cell? w _ hw287_3)).trans hw287_3), ((HB.out.cell (World.block_lt_of_cell? w _ hw287_4)).trans hw287_4), ((HB.out.cell (World.block_lt_of_cell? w _ hw288_0)).trans hw288_0)⟩ (fun hHeld => ?_); refine with_tabW treemergelaw31_equal.tab6 treemergelaw31_equal.bits6 (fun HT_ HW_ => ?_)
              generalize wr.drew = w31 at HB HR285_3 HR285_4 HR287_3 HR287_4 hx285_0 hx285_1 hx285_2 hx285_3 hx285_4 hx286_0 hx287_0 hx287_1 hx287_2 hx287_3 hx287_4 hx288_0 hHeld ⊢
              refine PU 0 77 HT_ ?_
              refine PU 1 78 HT_ ?_
              refine PU 2 79 HT_ ?_
              refine PU 3 80 HT_ ?_
              refine PU 5 82 HT_ ?_
              refine PU 8 85 HT_ ?_
              refine PU 9 86 HT_ ?_
              refine PU 10 87 HT_ ?_
              refine PU 11 88 HT_ ?_
              refine PU 13 90 HT_ ?_
              refine TU 4 81 HT_ HW_ hHeld ?_
              refine PU 6 83 HT_ ?_
              refine TU 7 84 HT_ HW_ hHeld ?_
              refine TU 12 89 HT_ HW_ hHeld ?_
              refine PU 14 91 HT_ ?_
              refine TU 15 92 HT_ HW_ hHeld ?_
              refine PU 16 93 HT_ ?_
              refine done_ (done_of HT_.out (by kernel_rfl)) ?_
              try go_wp2
              go_ret
              exact ⟨by first | rfl | (simp [errW_none, errW_some] <;> rfl) | (simp [*, errW_none, errW_some] <;> rfl), BX HB.out⟩
            ·rw [if_neg c28] at H
             exact absurd H (by simp)
           ·rw [if_neg c27] at H
            exact absurd H (by simp)
          ·rw [if_neg c26] at H
           exact absurd H (by simp)
         ·rw [if_neg c25] at H
          exact absurd H (by simp)
        ·rw [if_neg c24] at H
         have c24b0 : decide (x13_2 < (((rd_T70 l0 a4).f3).length : Int)) = false := decide_eq_false c24
         clear c24
         have H' := Aside0.mk H
         clear H
         have p284 : 0 ≤ (a4 : Int) := of_decide_eq_true AX
         have q284 : a4 < (l0.length : Int) := of_decide_eq_true AX
         obtain ⟨ad284, A284_3, c284_3, A284_4, c284_4, e284, hx284_0, hx284_1, hx284_2, hx284_3, hx284_4, hl284_3, hi284_3, hl284_4, hi284_4⟩ := at_T70 HR0.out a4 p284 q284
         cases e284
         replace hx284_0 := (HB.out.cell (World.block_lt_of_cell? w _ hx284_0)).trans hx284_0
         replace hx284_1 := (HB.out.cell (World.block_lt_of_cell? w _ hx284_1)).trans hx284_1
         replace hx284_2 := (HB.out.cell (World.block_lt_of_cell? w _ hx284_2)).trans hx284_2
         replace hx284_3 := (HB.out.cell (World.block_lt_of_cell? w _ hx284_3)).trans hx284_3
         replace hx284_4 := (HB.out.cell (World.block_lt_of_cell? w _ hx284_4)).trans hx284_4
         have HR284_3 := Aside0.mk hi284_3
         have HC284_3 := Aside0.mk hl284_3
         clear hi284_3 hl284_3
         have HR284_4 := Aside0.mk hi284_4
         have HC284_4 := Aside0.mk hl284_4
         clear hi284_4 hl284_4
         replace p284 := eq_true p284
         replace q284 := eq_true q284
         go_wp2
         go_loopg [14] k2 (fun kq v14 w' => ∃ (x14_3 : Int), v14 = .int .i64 x14_3 ∧ Aside0 (treemergelaw31_equal.l1 kq l0 l1 l2 l3 a4 a5 x14_3 = some r) ∧ Aside0 (kq ≤ k2) ∧ Aside0 (Below w.heap.size w w'))
         case atStart => exact ⟨(0), SX, H', ⟨Nat.le_refl _⟩, ⟨BX HB.out⟩⟩
         case round =>
          clear H'
          try clear c1
          try clear c2
          try clear p2
          try clear q2
          try clear hx2
          try clear c3
          try clear c6
          try clear p6
          try clear c8
          try clear c9
          try clear c10
          try clear c11
          try clear c12
          try clear c12b0
          try clear c12b1
          try clear c21
          try clear c22
          try clear c22b0
          try clear c23
          try clear c23b0
          try clear c24
          try clear c24b0
          try clear c25
          try clear c25b0
          try clear c26
          try clear c26b0
          try clear c27
          try clear c27b0
          try clear p27
          try clear q27
          try clear hx27
          try clear c28
          try clear c28b0
          try clear p28
          try clear q28
          try clear hx28
          try clear c29
          try clear c29b0
          try clear c29b1
          try clear hx276_0
          try clear hx276_1
          try clear hx276_2
          try clear hx276_3
          try clear hx276_4
          try clear hx277_0
          try clear hx277_1
          try clear hx277_2
          try clear hx277_3
          try clear hx277_4
          try clear hx284_0
          try clear hx284_1
          try clear hx284_2
          try clear hx284_3
          try clear hx284_4
          try clear hx285_0
          try clear hx285_1
          try clear hx285_2
          try clear hx285_3
          try clear hx285_4
          try clear hx286_0
          try clear hx287_0
          try clear hx287_1
          try clear hx287_2
          try clear hx287_3
          try clear hx287_4
          try clear hx288_0
          try clear p2
          try clear p276
          try clear p277
          try clear p284
          try clear p285
          try clear p286
          try clear p287
          try clear p288
          try clear q2
          try clear q276
          try clear q277
          try clear q284
          try clear q285
          try clear q286
          try clear q287
          try clear q288
          obtain ⟨x14_3, rfl, HA, HK3, HB⟩ := hrel
          cases gk with
          | zero => exact absurd HA.out (by simp [treemergelaw31_equal.l1])
          | succ k3 =>
           have H := HA.out
           clear HA
           simp only [treemergelaw31_equal.l1] at H
           by_cases c32 : 0 ≤ a4
           ·rw [if_pos c32] at H
            have c32b0 : decide (0 ≤ a4) = true := decide_eq_true c32
            clear c32
            by_cases c33 : a4 < (l0.length : Int)
            ·rw [if_pos c33] at H
             have c33b0 : decide (a4 < (l0.length : Int)) = true := decide_eq_true c33
             clear c33
             by_cases c34 : x14_3 < (((rd_T70 l0 a4).f4).length : Int)
             ·rw [if_pos c34] at H
              have c34b0 : decide (x14_3 < (((rd_T70 l0 a4).f4).length : Int)) = true := decide_eq_true c34
              clear c34
              by_cases c35 : 0 ≤ x14_3
              ·rw [if_pos c35] at H
               have c35b0 : decide (0 ≤ x14_3) = true := decide_eq_true c35
               clear c35
               by_cases c36 : 0 ≤ (rd ((rd_T70 l0 a4).f4) x14_3)
               ·rw [if_pos c36] at H
                have c36b0 : decide (0 ≤ (rd ((rd_T70 l0 a4).f4) x14_3)) = true := decide_eq_true c36
                clear c36
                by_cases c37 : (rd ((rd_T70 l0 a4).f4) x14_3) < (l2.length : Int)
                ·rw [if_pos c37] at H
                 have c37b0 : decide ((rd ((rd_T70 l0 a4).f4) x14_3) < (l2.length : Int)) = true := decide_eq_true c37
                 clear c37
                 by_cases c38 : 0 ≤ a5
                 ·rw [if_pos c38] at H
                  have c38b0 : decide (0 ≤ a5) = true := decide_eq_true c38
                  clear c38
                  by_cases c39 : a5 < (l1.length : Int)
                  ·rw [if_pos c39] at H
                   have c39b0 : decide (a5 < (l1.length : Int)) = true := decide_eq_true c39
                   clear c39
                   by_cases c40 : x14_3 < (((rd_T70 l1 a5).f4).length : Int)
                   ·rw [if_pos c40] at H
                    have c40b0 : decide (x14_3 < (((rd_T70 l1 a5).f4).length : Int)) = true := decide_eq_true c40
                    clear c40
                    by_cases c41 : 0 ≤ (rd ((rd_T70 l1 a5).f4) x14_3)
                    ·rw [if_pos c41] at H
                     have c41b0 : decide (0 ≤ (rd ((rd_T70 l1 a5).f4) x14_3)) = true := decide_eq_true c41
                     clear c41
                     by_cases c42 : (rd ((rd_T70 l1 a5).f4) x14_3) < (l3.length : Int)
                     ·rw [if_pos c42] at H
                      have c42b0 : decide ((rd ((rd_T70 l1 a5).f4) x14_3) < (l3.length : Int)) = true := decide_eq_true c42
                      clear c42
                      by_cases c43 : (rd l2 (rd ((rd_T70 l0 a4).f4) x14_3)) = (rd l3 (rd ((rd_T70 l1 a5).f4) x14_3))
                      ·rw [if_pos c43] at H
                       have c43b0 : ((rd l2 (rd ((rd_T70 l0 a4).f4) x14_3)) == (rd l3 (rd ((rd_T70 l1 a5).f4) x14_3))) = true := beq_iff_eq.mpr c43
                       have c43b1 : ((rd l2 (rd ((rd_T70 l0 a4).f4) x14_3)) != (rd l3 (rd ((rd_T70 l1 a5).f4) x14_3))) = false := bne_eq_false_iff_eq.mpr c43
                       clear c43
                       have H' := Aside0.mk H
                       clear H
                       have p289 : 0 ≤ (a4 : Int) := of_decide_eq_true AX
                       have q289 : a4 < (l0.length : Int) := of_decide_eq_true AX
                       obtain ⟨ad289, A289_3, c289_3, A289_4, c289_4, e289, hx289_0, hx289_1, hx289_2, hx289_3, hx289_4, hl289_3, hi289_3, hl289_4, hi289_4⟩ := at_T70 HR0.out a4 p289 q289
                       obtain rfl : ad284 = ad289 := (by injection e289)
                       replace hx289_0 := (HB.out.cell (World.block_lt_of_cell? w _ hx289_0)).trans hx289_0
                       replace hx289_1 := (HB.out.cell (World.block_lt_of_cell? w _ hx289_1)).trans hx289_1
                       replace hx289_2 := (HB.out.cell (World.block_lt_of_cell? w _ hx289_2)).trans hx289_2
                       replace hx289_3 := (HB.out.cell (World.block_lt_of_cell? w _ hx289_3)).trans hx289_3
                       replace hx289_4 := (HB.out.cell (World.block_lt_of_cell? w _ hx289_4)).trans hx289_4
                       have HR289_3 := Aside0.mk hi289_3
                       have HC289_3 := Aside0.mk hl289_3
                       clear hi289_3 hl289_3
                       have HR289_4 := Aside0.mk hi289_4
                       have HC289_4 := Aside0.mk hl289_4
                       clear hi289_4 hl289_4
                       replace p289 := eq_true p289
                       replace q289 := eq_true q289
                       try go_wp2
                       have n0_ := Aside0.mk (below_drew1 HB.out)
                       clear HB
                       have HB := n0_
                       clear n0_
                       have p290 : 0 ≤ (a4 : Int) := of_decide_eq_true AX
                       have q290 : a4 < (l0.length : Int) := of_decide_eq_true AX
                       obtain ⟨ad290, A290_3, c290_3, A290_4, c290_4, e290, hx290_0, hx290_1, hx290_2, hx290_3, hx290_4, hl290_3, hi290_3, hl290_4, hi290_4⟩ := at_T70 HR0.out a4 p290 q290
                       have hw290_4 := hx290_4
                       have hw290_3 := hx290_3
                       have hw290_2 := hx290_2
                       have hw290_1 := hx290_1
                       have hw290_0 := hx290_0
                       obtain rfl : ad284 = ad290 := (by injection e290)
                       replace hx290_0 := (HB.out.cell (World.block_lt_of_cell? w _ hx290_0)).trans hx290_0
                       replace hx290_1 := (HB.out.cell (World.block_lt_of_cell? w _ hx290_1)).trans hx290_1
                       replace hx290_2 := (HB.out.cell (World.block_lt_of_cell? w _ hx290_2)).trans hx290_2
                       replace hx290_3 := (HB.out.cell (World.block_lt_of_cell? w _ hx290_3)).trans hx290_3
                       replace hx290_4 := (HB.out.cell (World.block_lt_of_cell? w _ hx290_4)).trans hx290_4
                       have HR290_3 := Aside0.mk hi290_3
                       have HC290_3 := Aside0.mk hl290_3
                       clear hi290_3 hl290_3
                       have HR290_4 := Aside0.mk hi290_4
                       have HC290_4 := Aside0.mk hl290_4
                       clear hi290_4 hl290_4
                       replace p290 := eq_true p290
                       replace q290 := eq_true q290
                       have p291 : 0 ≤ (x14_3 : Int) := of_decide_eq_true AX
                       have q291 : x14_3 < (((rd_T70 l0 a4).f4).length : Int) := of_decide_eq_true AX
                       obtain ⟨ad291, e291, hx291_0⟩ := Kd.at_int HR290_4.out x14_3 p291 q291
                       have hw291_0 := hx291_0
                       cases e291
                       replace hx291_0 := (HB.out.cell (World.block_lt_of_cell? w _ hx291_0)).trans hx291_0
                       replace p291 := eq_true p291
                       replace q291 := eq_true q291
                       have p292 : 0 ≤ ((rd ((rd_T70 l0 a4).f4) x14_3) : Int) := of_decide_eq_true AX
                       have q292 : (rd ((rd_T70 l0 a4).f4) x14_3) < (l2.length : Int) := of_decide_eq_true AX
                       obtain ⟨ad292, e292, hx292_0⟩ := Kd.at_int HR2.out (rd ((rd_T70 l0 a4).f4) x14_3) p292 q292
                       have hw292_0 := hx292_0
                       cases e292
                       replace hx292_0 := (HB.out.cell (World.block_lt_of_cell? w _ hx292_0)).trans hx292_0
                       replace p292 := eq_true p292
                       replace q292 := eq_true q292
                       have p293 : 0 ≤ (a5 : Int) := of_decide_eq_true AX
                       have q293 : a5 < (l1.length : Int) := of_decide_eq_true AX
                       obtain ⟨ad293, A293_3, c293_3, A293_4, c293_4, e293, hx293_0, hx293_1, hx293_2, hx293_3, hx293_4, hl293_3, hi293_3, hl293_4, hi293_4⟩ := at_T70 HR1.out a5 p293 q293
                       have hw293_4 := hx293_4
                       have hw293_3 := hx293_3
                       have hw293_2 := hx293_2
                       have hw293_1 := hx293_1
                       have hw293_0 := hx293_0
                       cases e293
                       replace hx293_0 := (HB.out.cell (World.block_lt_of_cell? w _ hx293_0)).trans hx293_0
                       replace hx293_1 := (HB.out.cell (World.block_lt_of_cell? w _ hx293_1)).trans hx293_1
                       replace hx293_2 := (HB.out.cell (World.block_lt_of_cell? w _ hx293_2)).trans hx293_2
                       replace hx293_3 := (HB.out.cell (World.block_lt_of_cell? w _ hx293_3)).trans hx293_3
                       replace hx293_4 := (HB.out.cell (World.block_lt_of_cell? w _ hx293_4)).trans hx293_4
                       have HR293_3 := Aside0.mk hi293_3
                       have HC293_3 := Aside0.mk hl293_3
                       clear hi293_3 hl293_3
                       have HR293_4 := Aside0.mk hi293_4
                       have HC293_4 := Aside0.mk hl293_4
                       clear hi293_4 hl293_4
                       replace p293 := eq_true p293
                       replace q293 := eq_true q293
                       have p294 : 0 ≤ (x14_3 : Int) := of_decide_eq_true AX
                       have q294 : x14_3 < (((rd_T70 l1 a5).f4).length : Int) := of_decide_eq_true AX
                       obtain ⟨ad294, e294, hx294_0⟩ := Kd.at_int HR293_4.out x14_3 p294 q294
                       have hw294_0 := hx294_0
                       cases e294
                       replace hx294_0 := (HB.out.cell (World.block_lt_of_cell? w _ hx294_0)).trans hx294_0
                       replace p294 := eq_true p294
                       replace q294 := eq_true q294
                       have p295 : 0 ≤ ((rd ((rd_T70 l1 a5).f4) x14_3) : Int) := of_decide_eq_true AX
                       have q295 : (rd ((rd_T70 l1 a5).f4) x14_3) < (l3.length : Int) := of_decide_eq_true AX
                       obtain ⟨ad295, e295, hx295_0⟩ := Kd.at_int HR3.out (rd ((rd_T70 l1 a5).f4) x14_3) p295 q295
                       have hw295_0 := hx295_0
                       cases e295
                       replace hx295_0 := (HB.out.cell (World.block_lt_of_cell? w _ hx295_0)).trans hx295_0
                       replace p295 := eq_true p295
                       replace q295 := eq_true q295
                       refine start_ (n := 23) (S := fun w' => w'.cell? (ad284.add ((a4).toNat * 5)) = some (.int .i64 ((rd_T70 l0 a4).f0)) ∧ w'.cell? ⟨(ad284.add ((a4).toNat * 5)).block, (ad284.add ((a4).toNat * 5)).off + 1, none⟩ = some (.int .i64 ((rd_T70 l0 a4).f1)) ∧ w'.cell? ⟨(ad284.add ((a4).toNat * 5)).block, (ad284.add ((a4).toNat * 5)).off + 2, none⟩ = some (.string ((rd_T70 l0 a4).f2)) ∧ w'.cell? ⟨(ad284.add ((a4).toNat * 5)).block, (ad284.add ((a4).toNat * 5)).off + 3, none⟩ = some (.slice _ ((rd_T70 l0 a4).f3).length _) ∧ w'.cell? ⟨(ad284.add ((a4).toNat * 5)).block, (ad284.add ((a4).toNat * 5)).off + 4, none⟩ = some (.slice _ ((rd_T70 l0 a4).f4).length _) ∧ w'.cell? (ad291.add (x14_3).toNat) = some (.int .i64 (rd ((rd_T70 l0 a4).f4) x14_3)) ∧ w'.cell? (ad292.add ((rd ((rd_T70 l0 a4).f4) x14_3)).toNat) = some (.int .i64 (rd l2 (rd ((rd_T70 l0 a4).f4) x14_3))) ∧ w'.cell? (ad293.add ((a5).toNat * 5)) = some (.int .i64 ((rd_T70 l1 a5).f0)) ∧ w'.cell? ⟨(ad293.add ((a5).toNat * 5)).block, (ad293.add ((a5).toNat * 5)).off + 1, none⟩ = some (.int .i64 ((rd_T70 l1 a5).f1)) ∧ w'.cell? ⟨(ad293.add ((a5).toNat * 5)).block, (ad293.add ((a5).toNat * 5)).off + 2, none⟩ = some (.string ((rd_T70 l1 a5).f2)) ∧ w'.cell? ⟨(ad293.add ((a5).toNat * 5)).block, (ad293.add ((a5).toNat * 5)).off + 3, none⟩ = some (.slice _ ((rd_T70 l1 a5).f3).length _) ∧ w'.cell? ⟨(ad293.add ((a5).toNat * 5)).block, (ad293.add ((a5).toNat * 5)).off + 4, none⟩ = some (.slice _ ((rd_T70 l1 a5).f4).length _) ∧ w'.cell? (ad294.add (x14_3).toNat) = some (.int .i64 (rd ((rd_T70 l1 a5).f4) x14_3)) ∧ w'.cell? (ad295.add ((rd ((rd_T70 l1 a5).f4) x14_3)).toNat) = some (.int .i64 (rd l3 (rd ((rd_T70 l1 a5).f4) x14_3)))) (ds := []) #[false, false, false, false, false, false, false, false, false, false, false, false, false, false, false, false, false, false, false, false, false, false, false] (by kernel_rfl) rfl rfl ⟨((HB.out.cell (World.block_lt_of_cell? w _ hw290_0)).trans hw290_0), ((HB.out.cell (World.block_lt_of_cell? w _ hw290_1)).trans hw290_1), ((HB.out.cell (World.block_lt_of_cell? w _ hw290_2)).trans hw290_2), ((HB.out.cell (World.block_lt_of_cell? w _ hw290_3)).trans hw290_3), ((HB.out.cell (World.block_lt_of_cell? w _ hw290_4)).trans hw290_4), ((HB.out.cell (World.block_lt_of_cell? w _ hw291_0)).trans hw291_0), ((HB.out.cell (World.block_lt_of_cell? w _ hw292_0)).trans hw292_0), ((HB.out.cell (World.block_lt_of_cell? w _ hw293_0)).trans hw293_0), ((HB.out.cell (World.block_lt_of_cell? w _ hw293_1)).trans hw293_1), ((HB.out.cell (World.block_lt_of_cell? w _ hw293_2)).trans hw293_2), ((HB.out.cell (World.block_lt_of_cell? w _ hw293_3)).trans hw293_3), ((HB.out.cell (World.block_lt_of_cell? w _ hw293_4)).trans hw293_4), ((HB.out.cell (World.block_lt_of_cell? w _ hw294_0)).trans hw294_0), ((HB.out.cell (World.block_lt_of_cell? w _ hw295_0)).trans hw295_0)⟩ (fun hHeld => ?_); refine with_tabW treemergelaw31_equal.tab11 treemergelaw31_equal.bits11 (fun HT_ HW_ => ?_)
                       generalize wr.drew = w44 at HB HR290_3 HR290_4 HR293_3 HR293_4 hx290_0 hx290_1 hx290_2 hx290_3 hx290_4 hx291_0 hx292_0 hx293_0 hx293_1 hx293_2 hx293_3 hx293_4 hx294_0 hx295_0 hHeld ⊢
                       refine PU 0 104 HT_ ?_
                       refine PU 1 105 HT_ ?_
                       refine PU 2 106 HT_ ?_
                       refine PU 3 107 HT_ ?_
                       refine PU 4 108 HT_ ?_
                       refine PU 6 110 HT_ ?_
                       refine PU 11 115 HT_ ?_
                       refine PU 12 116 HT_ ?_
                       refine PU 13 117 HT_ ?_
                       refine PU 14 118 HT_ ?_
                       refine PU 15 119 HT_ ?_
                       refine PU 17 121 HT_ ?_
                       refine TU 5 109 HT_ HW_ hHeld ?_
                       refine PU 7 111 HT_ ?_
                       refine TU 8 112 HT_ HW_ hHeld ?_
                       refine PU 9 113 HT_ ?_
                       refine TU 10 114 HT_ HW_ hHeld ?_
                       refine TU 16 120 HT_ HW_ hHeld ?_
                       refine PU 18 122 HT_ ?_
                       refine TU 19 123 HT_ HW_ hHeld ?_
                       refine PU 20 124 HT_ ?_
                       refine TU 21 125 HT_ HW_ hHeld ?_
                       refine PU 22 126 HT_ ?_
                       refine done_ (done_of HT_.out (by kernel_rfl)) ?_
                       try go_wp2
                       go_roundg k3
                       case measure => have := HJ6.out; have := HK2.out; have := HK3.out; omega
                       case rel => exact ⟨(wrap64 (x14_3 + 1)), SX, H', ⟨by have := HJ6.out; have := HK2.out; have := HK3.out; omega⟩, ⟨BX HB.out⟩⟩
                      ·rw [if_neg c43] at H
                       have c43b0 : ((rd l2 (rd ((rd_T70 l0 a4).f4) x14_3)) == (rd l3 (rd ((rd_T70 l1 a5).f4) x14_3))) = false := beq_eq_false_iff_ne.mpr c43
                       have c43b1 : ((rd l2 (rd ((rd_T70 l0 a4).f4) x14_3)) != (rd l3 (rd ((rd_T70 l1 a5).f4) x14_3))) = true := bne_iff_ne.mpr c43
                       obtain rfl := Option.some.inj H
                       have p289 : 0 ≤ (a4 : Int) := of_decide_eq_true AX
                       have q289 : a4 < (l0.length : Int) := of_decide_eq_true AX
                       obtain ⟨ad289, A289_3, c289_3, A289_4, c289_4, e289, hx289_0, hx289_1, hx289_2, hx289_3, hx289_4, hl289_3, hi289_3, hl289_4, hi289_4⟩ := at_T70 HR0.out a4 p289 q289
                       obtain rfl : ad284 = ad289 := (by injection e289)
                       replace hx289_0 := (HB.out.cell (World.block_lt_of_cell? w _ hx289_0)).trans hx289_0
                       replace hx289_1 := (HB.out.cell (World.block_lt_of_cell? w _ hx289_1)).trans hx289_1
                       replace hx289_2 := (HB.out.cell (World.block_lt_of_cell? w _ hx289_2)).trans hx289_2
                       replace hx289_3 := (HB.out.cell (World.block_lt_of_cell? w _ hx289_3)).trans hx289_3
                       replace hx289_4 := (HB.out.cell (World.block_lt_of_cell? w _ hx289_4)).trans hx289_4
                       have HR289_3 := Aside0.mk hi289_3
                       have HC289_3 := Aside0.mk hl289_3
                       clear hi289_3 hl289_3
                       have HR289_4 := Aside0.mk hi289_4
                       have HC289_4 := Aside0.mk hl289_4
                       clear hi289_4 hl289_4
                       replace p289 := eq_true p289
                       replace q289 := eq_true q289
                       try go_wp2
                       have n0_ := Aside0.mk (below_drew1 HB.out)
                       clear HB
                       have HB := n0_
                       clear n0_
                       have p290 : 0 ≤ (a4 : Int) := of_decide_eq_true AX
                       have q290 : a4 < (l0.length : Int) := of_decide_eq_true AX
                       obtain ⟨ad290, A290_3, c290_3, A290_4, c290_4, e290, hx290_0, hx290_1, hx290_2, hx290_3, hx290_4, hl290_3, hi290_3, hl290_4, hi290_4⟩ := at_T70 HR0.out a4 p290 q290
                       have hw290_4 := hx290_4
                       have hw290_3 := hx290_3
                       have hw290_2 := hx290_2
                       have hw290_1 := hx290_1
                       have hw290_0 := hx290_0
                       obtain rfl : ad284 = ad290 := (by injection e290)
                       replace hx290_0 := (HB.out.cell (World.block_lt_of_cell? w _ hx290_0)).trans hx290_0
                       replace hx290_1 := (HB.out.cell (World.block_lt_of_cell? w _ hx290_1)).trans hx290_1
                       replace hx290_2 := (HB.out.cell (World.block_lt_of_cell? w _ hx290_2)).trans hx290_2
                       replace hx290_3 := (HB.out.cell (World.block_lt_of_cell? w _ hx290_3)).trans hx290_3
                       replace hx290_4 := (HB.out.cell (World.block_lt_of_cell? w _ hx290_4)).trans hx290_4
                       have HR290_3 := Aside0.mk hi290_3
                       have HC290_3 := Aside0.mk hl290_3
                       clear hi290_3 hl290_3
                       have HR290_4 := Aside0.mk hi290_4
                       have HC290_4 := Aside0.mk hl290_4
                       clear hi290_4 hl290_4
                       replace p290 := eq_true p290
                       replace q290 := eq_true q290
                       have p291 : 0 ≤ (x14_3 : Int) := of_decide_eq_true AX
                       have q291 : x14_3 < (((rd_T70 l0 a4).f4).length : Int) := of_decide_eq_true AX
                       obtain ⟨ad291, e291, hx291_0⟩ := Kd.at_int HR290_4.out x14_3 p291 q291
                       have hw291_0 := hx291_0
                       cases e291
                       replace hx291_0 := (HB.out.cell (World.block_lt_of_cell? w _ hx291_0)).trans hx291_0
                       replace p291 := eq_true p291
                       replace q291 := eq_true q291
                       have p292 : 0 ≤ ((rd ((rd_T70 l0 a4).f4) x14_3) : Int) := of_decide_eq_true AX
                       have q292 : (rd ((rd_T70 l0 a4).f4) x14_3) < (l2.length : Int) := of_decide_eq_true AX
                       obtain ⟨ad292, e292, hx292_0⟩ := Kd.at_int HR2.out (rd ((rd_T70 l0 a4).f4) x14_3) p292 q292
                       have hw292_0 := hx292_0
                       cases e292
                       replace hx292_0 := (HB.out.cell (World.block_lt_of_cell? w _ hx292_0)).trans hx292_0
                       replace p292 := eq_true p292
                       replace q292 := eq_true q292
                       have p293 : 0 ≤ (a5 : Int) := of_decide_eq_true AX
                       have q293 : a5 < (l1.length : Int) := of_decide_eq_true AX
                       obtain ⟨ad293, A293_3, c293_3, A293_4, c293_4, e293, hx293_0, hx293_1, hx293_2, hx293_3, hx293_4, hl293_3, hi293_3, hl293_4, hi293_4⟩ := at_T70 HR1.out a5 p293 q293
                       have hw293_4 := hx293_4
                       have hw293_3 := hx293_3
                       have hw293_2 := hx293_2
                       have hw293_1 := hx293_1
                       have hw293_0 := hx293_0
                       cases e293
                       replace hx293_0 := (HB.out.cell (World.block_lt_of_cell? w _ hx293_0)).trans hx293_0
                       replace hx293_1 := (HB.out.cell (World.block_lt_of_cell? w _ hx293_1)).trans hx293_1
                       replace hx293_2 := (HB.out.cell (World.block_lt_of_cell? w _ hx293_2)).trans hx293_2
                       replace hx293_3 := (HB.out.cell (World.block_lt_of_cell? w _ hx293_3)).trans hx293_3
                       replace hx293_4 := (HB.out.cell (World.block_lt_of_cell? w _ hx293_4)).trans hx293_4
                       have HR293_3 := Aside0.mk hi293_3
                       have HC293_3 := Aside0.mk hl293_3
                       clear hi293_3 hl293_3
                       have HR293_4 := Aside0.mk hi293_4
                       have HC293_4 := Aside0.mk hl293_4
                       clear hi293_4 hl293_4
                       replace p293 := eq_true p293
                       replace q293 := eq_true q293
                       have p294 : 0 ≤ (x14_3 : Int) := of_decide_eq_true AX
                       have q294 : x14_3 < (((rd_T70 l1 a5).f4).length : Int) := of_decide_eq_true AX
                       obtain ⟨ad294, e294, hx294_0⟩ := Kd.at_int HR293_4.out x14_3 p294 q294
                       have hw294_0 := hx294_0
                       cases e294
                       replace hx294_0 := (HB.out.cell (World.block_lt_of_cell? w _ hx294_0)).trans hx294_0
                       replace p294 := eq_true p294
                       replace q294 := eq_true q294
                       have p295 : 0 ≤ ((rd ((rd_T70 l1 a5).f4) x14_3) : Int) := of_decide_eq_true AX
                       have q295 : (rd ((rd_T70 l1 a5).f4) x14_3) < (l3.length : Int) := of_decide_eq_true AX
                       obtain ⟨ad295, e295, hx295_0⟩ := Kd.at_int HR3.out (rd ((rd_T70 l1 a5).f4) x14_3) p295 q295
                       have hw295_0 := hx295_0
                       cases e295
                       replace hx295_0 := (HB.out.cell (World.block_lt_of_cell? w _ hx295_0)).trans hx295_0
                       replace p295 := eq_true p295
                       replace q295 := eq_true q295
                       refine start_ (n := 23) (S := fun w' => w'.cell? (ad284.add ((a4).toNat * 5)) = some (.int .i64 ((rd_T70 l0 a4).f0)) ∧ w'.cell? ⟨(ad284.add ((a4).toNat * 5)).block, (ad284.add ((a4).toNat * 5)).off + 1, none⟩ = some (.int .i64 ((rd_T70 l0 a4).f1)) ∧ w'.cell? ⟨(ad284.add ((a4).toNat * 5)).block, (ad284.add ((a4).toNat * 5)).off + 2, none⟩ = some (.string ((rd_T70 l0 a4).f2)) ∧ w'.cell? ⟨(ad284.add ((a4).toNat * 5)).block, (ad284.add ((a4).toNat * 5)).off + 3, none⟩ = some (.slice _ ((rd_T70 l0 a4).f3).length _) ∧ w'.cell? ⟨(ad284.add ((a4).toNat * 5)).block, (ad284.add ((a4).toNat * 5)).off + 4, none⟩ = some (.slice _ ((rd_T70 l0 a4).f4).length _) ∧ w'.cell? (ad291.add (x14_3).toNat) = some (.int .i64 (rd ((rd_T70 l0 a4).f4) x14_3)) ∧ w'.cell? (ad292.add ((rd ((rd_T70 l0 a4).f4) x14_3)).toNat) = some (.int .i64 (rd l2 (rd ((rd_T70 l0 a4).f4) x14_3))) ∧ w'.cell? (ad293.add ((a5).toNat * 5)) = some (.int .i64 ((rd_T70 l1 a5).f0)) ∧ w'.cell? ⟨(ad293.add ((a5).toNat * 5)).block, (ad293.add ((a5).toNat * 5)).off + 1, none⟩ = some (.int .i64 ((rd_T70 l1 a5).f1)) ∧ w'.cell? ⟨(ad293.add ((a5).toNat * 5)).block, (ad293.add ((a5).toNat * 5)).off + 2, none⟩ = some (.string ((rd_T70 l1 a5).f2)) ∧ w'.cell? ⟨(ad293.add ((a5).toNat * 5)).block, (ad293.add ((a5).toNat * 5)).off + 3, none⟩ = some (.slice _ ((rd_T70 l1 a5).f3).length _) ∧ w'.cell? ⟨(ad293.add ((a5).toNat * 5)).block, (ad293.add ((a5).toNat * 5)).off + 4, none⟩ = some (.slice _ ((rd_T70 l1 a5).f4).length _) ∧ w'.cell? (ad294.add (x14_3).toNat) = some (.int .i64 (rd ((rd_T70 l1 a5).f4) x14_3)) ∧ w'.cell? (ad295.add ((rd ((rd_T70 l1 a5).f4) x14_3)).toNat) = some (.int .i64 (rd l3 (rd ((rd_T70 l1 a5).f4) x14_3)))) (ds := []) #[false, false, false, false, false, false, false, false, false, false, false, false, false, false, false, false, false, false, false, false, false, false, false] (by kernel_rfl) rfl rfl ⟨((HB.out.cell (World.block_lt_of_cell? w _ hw290_0)).trans hw290_0), ((HB.out.cell (World.block_lt_of_cell? w _ hw290_1)).trans hw290_1), ((HB.out.cell (World.block_lt_of_cell? w _ hw290_2)).trans hw290_2), ((HB.out.cell (World.block_lt_of_cell? w _ hw290_3)).trans hw290_3), ((HB.out.cell (World.block_lt_of_cell? w _ hw290_4)).trans hw290_4), ((HB.out.cell (World.block_lt_of_cell? w _ hw291_0)).trans hw291_0), ((HB.out.cell (World.block_lt_of_cell? w _ hw292_0)).trans hw292_0), ((HB.out.cell (World.block_lt_of_cell? w _ hw293_0)).trans hw293_0), ((HB.out.cell (World.block_lt_of_cell? w _ hw293_1)).trans hw293_1), ((HB.out.cell (World.block_lt_of_cell? w _ hw293_2)).trans hw293_2), ((HB.out.cell (World.block_lt_of_cell? w _ hw293_3)).trans hw293_3), ((HB.out.cell (World.block_lt_of_cell? w _ hw293_4)).trans hw293_4), ((HB.out.cell (World.block_lt_of_cell? w _ hw294_0)).trans hw294_0), ((HB.out.cell (World.block_lt_of_cell? w _ hw295_0)).trans hw295_0)⟩ (fun hHeld => ?_); refine with_tabW treemergelaw31_equal.tab11 treemergelaw31_equal.bits11 (fun HT_ HW_ => ?_)
                       generalize wr.drew = w45 at HB HR290_3 HR290_4 HR293_3 HR293_4 hx290_0 hx290_1 hx290_2 hx290_3 hx290_4 hx291_0 hx292_0 hx293_0 hx293_1 hx293_2 hx293_3 hx293_4 hx294_0 hx295_0 hHeld ⊢
                       refine PU 0 104 HT_ ?_
                       refine PU 1 105 HT_ ?_
                       refine PU 2 106 HT_ ?_
                       refine PU 3 107 HT_ ?_
                       refine PU 4 108 HT_ ?_
                       refine PU 6 110 HT_ ?_
                       refine PU 11 115 HT_ ?_
                       refine PU 12 116 HT_ ?_
                       refine PU 13 117 HT_ ?_
                       refine PU 14 118 HT_ ?_
                       refine PU 15 119 HT_ ?_
                       refine PU 17 121 HT_ ?_
                       refine TU 5 109 HT_ HW_ hHeld ?_
                       refine PU 7 111 HT_ ?_
                       refine TU 8 112 HT_ HW_ hHeld ?_
                       refine PU 9 113 HT_ ?_
                       refine TU 10 114 HT_ HW_ hHeld ?_
                       refine TU 16 120 HT_ HW_ hHeld ?_
                       refine PU 18 122 HT_ ?_
                       refine TU 19 123 HT_ HW_ hHeld ?_
                       refine PU 20 124 HT_ ?_
                       refine TU 21 125 HT_ HW_ hHeld ?_
                       refine PU 22 126 HT_ ?_
                       refine done_ (done_of HT_.out (by kernel_rfl)) ?_
                       try go_wp2
                       go_ret
                       exact ⟨by first | rfl | (simp [errW_none, errW_some] <;> rfl) | (simp [*, errW_none, errW_some] <;> rfl), BX HB.out⟩
                     ·rw [if_neg c42] at H
                      exact absurd H (by simp)
                    ·rw [if_neg c41] at H
                     exact absurd H (by simp)
                   ·rw [if_neg c40] at H
                    exact absurd H (by simp)
                  ·rw [if_neg c39] at H
                   exact absurd H (by simp)
                 ·rw [if_neg c38] at H
                  exact absurd H (by simp)
                ·rw [if_neg c37] at H
                 exact absurd H (by simp)
               ·rw [if_neg c36] at H
                exact absurd H (by simp)
              ·rw [if_neg c35] at H
               exact absurd H (by simp)
             ·rw [if_neg c34] at H
              have c34b0 : decide (x14_3 < (((rd_T70 l0 a4).f4).length : Int)) = false := decide_eq_false c34
              clear c34
              obtain rfl := Option.some.inj H
              have p289 : 0 ≤ (a4 : Int) := of_decide_eq_true AX
              have q289 : a4 < (l0.length : Int) := of_decide_eq_true AX
              obtain ⟨ad289, A289_3, c289_3, A289_4, c289_4, e289, hx289_0, hx289_1, hx289_2, hx289_3, hx289_4, hl289_3, hi289_3, hl289_4, hi289_4⟩ := at_T70 HR0.out a4 p289 q289
              obtain rfl : ad284 = ad289 := (by injection e289)
              replace hx289_0 := (HB.out.cell (World.block_lt_of_cell? w _ hx289_0)).trans hx289_0
              replace hx289_1 := (HB.out.cell (World.block_lt_of_cell? w _ hx289_1)).trans hx289_1
              replace hx289_2 := (HB.out.cell (World.block_lt_of_cell? w _ hx289_2)).trans hx289_2
              replace hx289_3 := (HB.out.cell (World.block_lt_of_cell? w _ hx289_3)).trans hx289_3
              replace hx289_4 := (HB.out.cell (World.block_lt_of_cell? w _ hx289_4)).trans hx289_4
              have HR289_3 := Aside0.mk hi289_3
              have HC289_3 := Aside0.mk hl289_3
              clear hi289_3 hl289_3
              have HR289_4 := Aside0.mk hi289_4
              have HC289_4 := Aside0.mk hl289_4
              clear hi289_4 hl289_4
              replace p289 := eq_true p289
              replace q289 := eq_true q289
              go_wp2
              go_ret
              exact ⟨by first | rfl | (simp [errW_none, errW_some] <;> rfl) | (simp [*, errW_none, errW_some] <;> rfl), BX HB.out⟩
            ·rw [if_neg c33] at H
             exact absurd H (by simp)
           ·rw [if_neg c32] at H
            exact absurd H (by simp)
       ·rw [if_neg c23] at H
        exact absurd H (by simp)
      ·rw [if_neg c22] at H
       exact absurd H (by simp)

end Go.Proofs.Ytcfjdehpbckomaa.Q
