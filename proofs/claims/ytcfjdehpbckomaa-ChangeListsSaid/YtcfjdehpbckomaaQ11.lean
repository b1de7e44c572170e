-- Written by a program of this session (mk.py) out of the translation; Lean checks it.
import Derived.Test.YtcfjdehpbckomaaQ0
import Derived.Test.YtcfjdehpbckomaaQ8
import Derived.Test.YtcfjdehpbckomaaQ9
import Derived.Test.YtcfjdehpbckomaaQ10
namespace Go.Proofs.Ytcfjdehpbckomaa.Q
open Go.RowKit Go.Proofs.YtcfjdehpbckomaaW.PrintWords Go.Proofs.YtcfjdehpbckomaaW.PrintLast Go.Proofs.YtcfjdehpbckomaaW.PrintMore
attribute [local go_sem] max2_int min2_int max_two min_two max_three min_three max_four min_four   -- for this text's walks alone
set_option linter.unusedVariables false
set_option linter.unusedSimpArgs false

/-! ### treemergeref31_List: function 11 -/
mutual
def treemergeref31_List.j0 : Nat → List Int → List Int → List (S70) → List (S70) → Bool → Option ((List (S48)) × Int)
 | 0, _, _, _, _, _ => none
 | k + 1, x2, x3, x10, x11, x31 => if x31 = true then (some (([] : List (S48)), 15)) else (treemergeref31_List.l0 k x2 x3 x10 x11 ([] : List (S48)) 0)
def treemergeref31_List.l0 : Nat → List Int → List Int → List (S70) → List (S70) → List (S48) → Int → Option ((List (S48)) × Int)
 | 0, _, _, _, _, _, _ => none
 | k + 1, x2, x3, x10, x11, x12, x13 => if x13 < (x10.length : Int) then (if 0 ≤ x13 then (if x13 < (x2.length : Int) then ((treemergeref31_find.f k x3 (rd x2 x13)).bind fun t328 => (if t328 < 0 then ((treemergeref31_Insert.f k x12 (rd x2 x13) 2).bind fun t330 => (treemergeref31_List.l0 k x2 x3 x10 x11 t330 (wrap64 (x13 + 1)))) else ((treemergeref31_parent.f x10 x2 x13).bind fun t333 => ((treemergeref31_parent.f x11 x3 t328).bind fun t334 => (if t333 = t334 then (treemergeref31_List.j2 k x2 x3 x10 x11 x12 x13 t328) else ((treemergeref31_Insert.f k x12 (rd x2 x13) 3).bind fun t336 => (treemergeref31_List.j2 k x2 x3 x10 x11 t336 x13 t328))))))) else (none)) else (none)) else (treemergeref31_List.l1 k x2 x3 x11 x12 0)
def treemergeref31_List.j2 : Nat → List Int → List Int → List (S70) → List (S70) → List (S48) → Int → Int → Option ((List (S48)) × Int)
 | 0, _, _, _, _, _, _, _ => none
 | k + 1, x2, x3, x10, x11, x12, x13, x14 => if 0 ≤ x13 then (if x13 < (x10.length : Int) then (if 0 ≤ x14 then (if x14 < (x11.length : Int) then (if ((rd_T70 x10 x13).f2).toList = ((rd_T70 x11 x14).f2).toList then (treemergeref31_List.j3 k x2 x3 x10 x11 x12 x13 x14) else (if x13 < (x2.length : Int) then ((treemergeref31_Insert.f k x12 (rd x2 x13) 4).bind fun t342 => (treemergeref31_List.j3 k x2 x3 x10 x11 t342 x13 x14)) else (none))) else (none)) else (none)) else (none)) else (none)
def treemergeref31_List.j3 : Nat → List Int → List Int → List (S70) → List (S70) → List (S48) → Int → Int → Option ((List (S48)) × Int)
 | 0, _, _, _, _, _, _, _ => none
 | k + 1, x2, x3, x10, x11, x12, x13, x14 => if 0 ≤ x13 then (if x13 < (x10.length : Int) then (if 0 ≤ x14 then (if x14 < (x11.length : Int) then ((treemergeref31_sameGaps.f k ((rd_T70 x10 x13).f3) ((rd_T70 x11 x14).f3)).bind fun t347 => (if t347 = true then (treemergeref31_List.j4 k x2 x3 x10 x11 x12 x13 x14) else (if x13 < (x2.length : Int) then ((treemergeref31_Insert.f k x12 (rd x2 x13) 5).bind fun t349 => (treemergeref31_List.j4 k x2 x3 x10 x11 t349 x13 x14)) else (none)))) else (none)) else (none)) else (none)) else (none)
def treemergeref31_List.j4 : Nat → List Int → List Int → List (S70) → List (S70) → List (S48) → Int → Int → Option ((List (S48)) × Int)
 | 0, _, _, _, _, _, _, _ => none
 | k + 1, x2, x3, x10, x11, x12, x13, x14 => if 0 ≤ x13 then (if x13 < (x10.length : Int) then (if 0 ≤ x14 then (if x14 < (x11.length : Int) then ((treemergeref31_sameKids.f k ((rd_T70 x10 x13).f0) ((rd_T70 x10 x13).f1) ((rd_T70 x10 x13).f2) ((rd_T70 x10 x13).f3) ((rd_T70 x10 x13).f4) ((rd_T70 x11 x14).f0) ((rd_T70 x11 x14).f1) ((rd_T70 x11 x14).f2) ((rd_T70 x11 x14).f3) ((rd_T70 x11 x14).f4) x2 x3).bind fun t354 => (if t354 = true then (treemergeref31_List.l0 k x2 x3 x10 x11 x12 (wrap64 (x13 + 1))) else (if x13 < (x2.length : Int) then ((treemergeref31_Insert.f k x12 (rd x2 x13) 6).bind fun t356 => (treemergeref31_List.l0 k x2 x3 x10 x11 t356 (wrap64 (x13 + 1)))) else (none)))) else (none)) else (none)) else (none)) else (none)
def treemergeref31_List.l1 : Nat → List Int → List Int → List (S70) → List (S48) → Int → Option ((List (S48)) × Int)
 | 0, _, _, _, _, _ => none
 | k + 1, x2, x3, x11, x12, x15 => if x15 < (x11.length : Int) then (if 0 ≤ x15 then (if x15 < (x3.length : Int) then ((treemergeref31_find.f k x2 (rd x3 x15)).bind fun t360 => (if t360 < 0 then ((treemergeref31_Insert.f k x12 (rd x3 x15) 1).bind fun t362 => (treemergeref31_List.l1 k x2 x3 x11 t362 (wrap64 (x15 + 1)))) else (treemergeref31_List.l1 k x2 x3 x11 x12 (wrap64 (x15 + 1))))) else (none)) else (none)) else (some (x12, 0))
end
def treemergeref31_List.f (k : Nat) (a0_0 : Int) (a0_1 : ByteArray) (l0_2 : List ByteArray) (l0_3 : List (S25)) (a1_0 : Int) (a1_1 : ByteArray) (l1_2 : List ByteArray) (l1_3 : List (S25)) (l2 : List Int) (l3 : List Int) : Option ((List (S48)) × Int) := (treemergeref06_Rows.f a0_0 a0_1 l0_2 l0_3).bind fun t319 => ((treemergeref06_Rows.f a1_0 a1_1 l1_2 l1_3).bind fun t322 => ((treemergeref31_Fits.f k l2 (t319.length : Int)).bind fun t325 => (if t325 = true then ((treemergeref31_Fits.f k l3 (t322.length : Int)).bind fun t326 => (treemergeref31_List.j0 k l2 l3 t319 t322 (!t326))) else (treemergeref31_List.j0 k l2 l3 t319 t322 true))))
theorem treemergeref31_List.mono_l : ∀ k, (∀ y0 y1 y2 y3 y4, LeO (treemergeref31_List.j0 k y0 y1 y2 y3 y4) (treemergeref31_List.j0 (k + 1) y0 y1 y2 y3 y4)) ∧ (∀ y0 y1 y2 y3 y4 y5, LeO (treemergeref31_List.l0 k y0 y1 y2 y3 y4 y5) (treemergeref31_List.l0 (k + 1) y0 y1 y2 y3 y4 y5)) ∧ (∀ y0 y1 y2 y3 y4 y5 y6, LeO (treemergeref31_List.j2 k y0 y1 y2 y3 y4 y5 y6) (treemergeref31_List.j2 (k + 1) y0 y1 y2 y3 y4 y5 y6)) ∧ (∀ y0 y1 y2 y3 y4 y5 y6, LeO (treemergeref31_List.j3 k y0 y1 y2 y3 y4 y5 y6) (treemergeref31_List.j3 (k + 1) y0 y1 y2 y3 y4 y5 y6)) ∧ (∀ y0 y1 y2 y3 y4 y5 y6, LeO (treemergeref31_List.j4 k y0 y1 y2 y3 y4 y5 y6) (treemergeref31_List.j4 (k + 1) y0 y1 y2 y3 y4 y5 y6)) ∧ (∀ y0 y1 y2 y3 y4, LeO (treemergeref31_List.l1 k y0 y1 y2 y3 y4) (treemergeref31_List.l1 (k + 1) y0 y1 y2 y3 y4))
 | 0 => ⟨fun _ _ _ _ _ r h => by simp [treemergeref31_List.j0] at h, fun _ _ _ _ _ _ r h => by simp [treemergeref31_List.l0] at h, fun _ _ _ _ _ _ _ r h => by simp [treemergeref31_List.j2] at h, fun _ _ _ _ _ _ _ r h => by simp [treemergeref31_List.j3] at h, fun _ _ _ _ _ _ _ r h => by simp [treemergeref31_List.j4] at h, fun _ _ _ _ _ r h => by simp [treemergeref31_List.l1] at h⟩
 | k + 1 => by
  obtain ⟨ih0, ih1, ih2, ih3, ih4, ih5⟩ := treemergeref31_List.mono_l k
  refine ⟨?_, ?_, ?_, ?_, ?_, ?_⟩
  ·intro y0 y1 y2 y3 y4
   unfold treemergeref31_List.j0
   repeat' first
   | (with_reducible exact ih0 _ _ _ _ _)
   | (with_reducible exact ih1 _ _ _ _ _ _)
   | (with_reducible exact ih2 _ _ _ _ _ _ _)
   | (with_reducible exact ih3 _ _ _ _ _ _ _)
   | (with_reducible exact ih4 _ _ _ _ _ _ _)
   | (with_reducible exact ih5 _ _ _ _ _)
   | (with_reducible exact treemergeref31_Fits.mono _ _ _)
   | (with_reducible exact treemergeref31_Insert.mono _ _ _ _)
   | (with_reducible exact treemergeref31_find.mono _ _ _)
   | (with_reducible exact treemergeref31_sameGaps.mono _ _ _)
   | (with_reducible exact treemergeref31_sameKids.mono _ _ _ _ _ _ _ _ _ _ _ _ _)
   | (with_reducible exact LeO.refl _)
   | (with_reducible exact LeO.none _)
   | (with_reducible refine LeO.ite ?_ ?_)
   | (with_reducible refine LeO.bind ?_ (fun _ => ?_))
  ·intro y0 y1 y2 y3 y4 y5
   unfold treemergeref31_List.l0
   repeat' first
   | (with_reducible exact ih0 _ _ _ _ _)
   | (with_reducible exact ih1 _ _ _ _ _ _)
   | (with_reducible exact ih2 _ _ _ _ _ _ _)
   | (with_reducible exact ih3 _ _ _ _ _ _ _)
   | (with_reducible exact ih4 _ _ _ _ _ _ _)
   | (with_reducible exact ih5 _ _ _ _ _)
   | (with_reducible exact treemergeref31_Fits.mono _ _ _)
   | (with_reducible exact treemergeref31_Insert.mono _ _ _ _)
   | (with_reducible exact treemergeref31_find.mono _ _ _)
   | (with_reducible exact treemergeref31_sameGaps.mono _ _ _)
   | (with_reducible exact treemergeref31_sameKids.mono _ _ _ _ _ _ _ _ _ _ _ _ _)
   | (with_reducible exact LeO.refl _)
   | (with_reducible exact LeO.none _)
   | (with_reducible refine LeO.ite ?_ ?_)
   | (with_reducible refine LeO.bind ?_ (fun _ => ?_))
  ·intro y0 y1 y2 y3 y4 y5 y6
   unfold treemergeref31_List.j2
   repeat' first
   | (with_reducible exact ih0 _ _ _ _ _)
   | (with_reducible exact ih1 _ _ _ _ _ _)
   | (with_reducible exact ih2 _ _ _ _ _ _ _)
   | (with_reducible exact ih3 _ _ _ _ _ _ _)
   | (with_reducible exact ih4 _ _ _ _ _ _ _)
   | (with_reducible exact ih5 _ _ _ _ _)
   | (with_reducible exact treemergeref31_Fits.mono _ _ _)
   | (with_reducible exact treemergeref31_Insert.mono _ _ _ _)
   | (with_reducible exact treemergeref31_find.mono _ _ _)
   | (with_reducible exact treemergeref31_sameGaps.mono _ _ _)
   | (with_reducible exact treemergeref31_sameKids.mono _ _ _ _ _ _ _ _ _ _ _ _ _)
   | (with_reducible exact LeO.refl _)
   | (with_reducible exact LeO.none _)
   | (with_reducible refine LeO.ite ?_ ?_)
   | (with_reducible refine LeO.bind ?_ (fun _ => ?_))
  ·intro y0 y1 y2 y3 y4 y5 y6
   unfold treemergeref31_List.j3
   repeat' first
   | (with_reducible exact ih0 _ _ _ _ _)
   | (with_reducible exact ih1 _ _ _ _ _ _)
   | (with_reducible exact ih2 _ _ _ _ _ _ _)
   | (with_reducible exact ih3 _ _ _ _ _ _ _)
   | (with_reducible exact ih4 _ _ _ _ _ _ _)
   | (with_reducible exact ih5 _ _ _ _ _)
   | (with_reducible exact treemergeref31_Fits.mono _ _ _)
   | (with_reducible exact treemergeref31_Insert.mono _ _ _ _)
   | (with_reducible exact treemergeref31_find.mono _ _ _)
   | (with_reducible exact treemergeref31_sameGaps.mono _ _ _)
   | (with_reducible exact treemergeref31_sameKids.mono _ _ _ _ _ _ _ _ _ _ _ _ _)
   | (with_reducible exact LeO.refl _)
   | (with_reducible exact LeO.none _)
   | (with_reducible refine LeO.ite ?_ ?_)
   | (with_reducible refine LeO.bind ?_ (fun _ => ?_))
  ·intro y0 y1 y2 y3 y4 y5 y6
   unfold treemergeref31_List.j4
   repeat' first
   | (with_reducible exact ih0 _ _ _ _ _)
   | (with_reducible exact ih1 _ _ _ _ _ _)
   | (with_reducible exact ih2 _ _ _ _ _ _ _)
   | (with_reducible exact ih3 _ _ _ _ _ _ _)
   | (with_reducible exact ih4 _ _ _ _ _ _ _)
   | (with_reducible exact ih5 _ _ _ _ _)
   | (with_reducible exact treemergeref31_Fits.mono _ _ _)
   | (with_reducible exact treemergeref31_Insert.mono _ _ _ _)
   | (with_reducible exact treemergeref31_find.mono _ _ _)
   | (with_reducible exact treemergeref31_sameGaps.mono _ _ _)
   | (with_reducible exact treemergeref31_sameKids.mono _ _ _ _ _ _ _ _ _ _ _ _ _)
   | (with_reducible exact LeO.refl _)
   | (with_reducible exact LeO.none _)
   | (with_reducible refine LeO.ite ?_ ?_)
   | (with_reducible refine LeO.bind ?_ (fun _ => ?_))
  ·intro y0 y1 y2 y3 y4
   unfold treemergeref31_List.l1
   repeat' first
   | (with_reducible exact ih0 _ _ _ _ _)
   | (with_reducible exact ih1 _ _ _ _ _ _)
   | (with_reducible exact ih2 _ _ _ _ _ _ _)
   | (with_reducible exact ih3 _ _ _ _ _ _ _)
   | (with_reducible exact ih4 _ _ _ _ _ _ _)
   | (with_reducible exact ih5 _ _ _ _ _)
   | (with_reducible exact treemergeref31_Fits.mono _ _ _)
   | (with_reducible exact treemergeref31_Insert.mono _ _ _ _)
   | (with_reducible exact treemergeref31_find.mono _ _ _)
   | (with_reducible exact treemergeref31_sameGaps.mono _ _ _)
   | (with_reducible exact treemergeref31_sameKids.mono _ _ _ _ _ _ _ _ _ _ _ _ _)
   | (with_reducible exact LeO.refl _)
   | (with_reducible exact LeO.none _)
   | (with_reducible refine LeO.ite ?_ ?_)
   | (with_reducible refine LeO.bind ?_ (fun _ => ?_))
theorem treemergeref31_List.mono : ∀ a0 a1 a2 a3 a4 a5 a6 a7 a8 a9 k, LeO (treemergeref31_List.f k a0 a1 a2 a3 a4 a5 a6 a7 a8 a9) (treemergeref31_List.f (k + 1) a0 a1 a2 a3 a4 a5 a6 a7 a8 a9) := by
 intro a0 a1 a2 a3 a4 a5 a6 a7 a8 a9 k
 obtain ⟨ih0, ih1, ih2, ih3, ih4, ih5⟩ := treemergeref31_List.mono_l k
 unfold treemergeref31_List.f
 repeat' first
   | (with_reducible exact ih0 _ _ _ _ _)
   | (with_reducible exact ih1 _ _ _ _ _ _)
   | (with_reducible exact ih2 _ _ _ _ _ _ _)
   | (with_reducible exact ih3 _ _ _ _ _ _ _)
   | (with_reducible exact ih4 _ _ _ _ _ _ _)
   | (with_reducible exact ih5 _ _ _ _ _)
   | (with_reducible exact treemergeref31_Fits.mono _ _ _)
   | (with_reducible exact treemergeref31_Insert.mono _ _ _ _)
   | (with_reducible exact treemergeref31_find.mono _ _ _)
   | (with_reducible exact treemergeref31_sameGaps.mono _ _ _)
   | (with_reducible exact treemergeref31_sameKids.mono _ _ _ _ _ _ _ _ _ _ _ _ _)
   | (with_reducible exact LeO.refl _)
   | (with_reducible exact LeO.none _)
   | (with_reducible refine LeO.ite ?_ ?_)
   | (with_reducible refine LeO.bind ?_ (fun _ => ?_))
def treemergeref31_List.T14 : Bool × List (List Nat × List Nat) := (true, [([], []), ([], []), ([0, 1], [0, 1]), ([2], [2]), ([3], [3]), ([], []), ([], []), ([5, 6], [5, 6]), ([7], [7]), ([8], [8]), ([4, 9], [4, 9])])
def treemergeref31_List.B14 : List Nat := [0, 0, 3, 7, 15, 0, 0, 96, 224, 480, 1023]
theorem treemergeref31_List.tab14 : rtab .any (opsOf Try.f11 14) = treemergeref31_List.T14 := by kernel_rfl
theorem treemergeref31_List.bits14 : waitsOk treemergeref31_List.T14.2 treemergeref31_List.B14 = true := by kernel_rfl
def treemergeref31_List.T16 : Bool × List (List Nat × List Nat) := (true, [([], []), ([], []), ([0, 1], [0, 1]), ([2], [2]), ([3], [3]), ([], []), ([], []), ([5, 6], [5, 6]), ([7], [7]), ([8], [8]), ([4, 9], [4, 9]), ([10], [10])])
def treemergeref31_List.B16 : List Nat := [0, 0, 3, 7, 15, 0, 0, 96, 224, 480, 1023, 2047]
theorem treemergeref31_List.tab16 : rtab .any (opsOf Try.f11 16) = treemergeref31_List.T16 := by kernel_rfl
theorem treemergeref31_List.bits16 : waitsOk treemergeref31_List.T16.2 treemergeref31_List.B16 = true := by kernel_rfl
def treemergeref31_List.T18 : Bool × List (List Nat × List Nat) := (true, [([], []), ([], []), ([0, 1], [0, 1]), ([2], [2]), ([], []), ([], []), ([4, 5], [4, 5]), ([6], [6]), ([], []), ([], []), ([3, 7, 8, 9], [3, 7, 8, 9]), ([10], [10])])
def treemergeref31_List.B18 : List Nat := [0, 0, 3, 7, 0, 0, 48, 112, 0, 0, 1023, 2047]
theorem treemergeref31_List.tab18 : rtab .any (opsOf Try.f11 18) = treemergeref31_List.T18 := by kernel_rfl
theorem treemergeref31_List.bits18 : waitsOk treemergeref31_List.T18.2 treemergeref31_List.B18 = true := by kernel_rfl
set_option maxHeartbeats 8000000 in
set_option maxRecDepth 100000 in
theorem treemergeref31_List.calls (k : Nat) (a0_0 : Int) (a0_1 : ByteArray) (A0_2 : Option Addr) (c0_2 : Nat) (l0_2 : List ByteArray) (A0_3 : Option Addr) (c0_3 : Nat) (l0_3 : List (S25)) (a1_0 : Int) (a1_1 : ByteArray) (A1_2 : Option Addr) (c1_2 : Nat) (l1_2 : List ByteArray) (A1_3 : Option Addr) (c1_3 : Nat) (l1_3 : List (S25)) (A2 : Option Addr) (c2 : Nat) (l2 : List Int) (A3 : Option Addr) (c3 : Nat) (l3 : List Int) (r1 : List (S48)) (r2 : Int) (w : World) (hr0_2 : Kd.C Kd.string w A0_2 l0_2.length l0_2) (hc0_2 : l0_2.length ≤ c0_2) (hr0_3 : Kd.C k25 w A0_3 l0_3.length l0_3) (hc0_3 : l0_3.length ≤ c0_3) (hr1_2 : Kd.C Kd.string w A1_2 l1_2.length l1_2) (hc1_2 : l1_2.length ≤ c1_2) (hr1_3 : Kd.C k25 w A1_3 l1_3.length l1_3) (hc1_3 : l1_3.length ≤ c1_3) (hr2 : Kd.C (Kd.int .i64) w A2 l2.length l2) (hc2 : l2.length ≤ c2) (hr3 : Kd.C (Kd.int .i64) w A3 l3.length l3) (hc3 : l3.length ≤ c3) (h : treemergeref31_List.f k a0_0 a0_1 l0_2 l0_3 a1_0 a1_1 l1_2 l1_3 l2 l3 = some (r1, r2)) :
  Calls Try.prog 11 #[.agg #[.int .i64 a0_0, .string a0_1, .slice A0_2 l0_2.length c0_2, .slice A0_3 l0_3.length c0_3], .agg #[.int .i64 a1_0, .string a1_1, .slice A1_2 l1_2.length c1_2, .slice A1_3 l1_3.length c1_3], .slice A2 l2.length c2, .slice A3 l3.length c3] w fun e w' => ∃ v0_ : Value, e = .returned (.tuple #[v0_, .int .i64 r2]) ∧ Kd.R k48 48 w' w.heap.size (fun _ => True) v0_ r1 ∧ Below w.heap.size w w' := by
 have hu25 := Try.underlying25
 have hu48 := Try.underlying48
 have hu70 := Try.underlying70
 have HR0_2 := Aside0.mk hr0_2
 have HC0_2 := Aside0.mk hc0_2
 clear hr0_2 hc0_2
 have HR0_3 := Aside0.mk hr0_3
 have HC0_3 := Aside0.mk hc0_3
 clear hr0_3 hc0_3
 have HR1_2 := Aside0.mk hr1_2
 have HC1_2 := Aside0.mk hc1_2
 clear hr1_2 hc1_2
 have HR1_3 := Aside0.mk hr1_3
 have HC1_3 := Aside0.mk hc1_3
 clear hr1_3 hc1_3
 have HR2 := Aside0.mk hr2
 have HC2 := Aside0.mk hc2
 clear hr2 hc2
 have HR3 := Aside0.mk hr3
 have HC3 := Aside0.mk hc3
 clear hr3 hc3
 have HB := Aside0.mk (Below.refl w.heap.size w)
 have H : ((treemergeref06_Rows.f a0_0 a0_1 l0_2 l0_3).bind fun t319 => ((treemergeref06_Rows.f a1_0 a1_1 l1_2 l1_3).bind fun t322 => ((treemergeref31_Fits.f k l2 (t319.length : Int)).bind fun t325 => (if t325 = true then ((treemergeref31_Fits.f k l3 (t322.length : Int)).bind fun t326 => (treemergeref31_List.j0 k l2 l3 t319 t322 (!t326))) else (treemergeref31_List.j0 k l2 l3 t319 t322 true))))) = some (r1, r2) := h
 clear h
 replace H := Option.bind_eq_some_iff.mp H
 obtain ⟨t319, A50, H⟩ := H
 have A5 := Aside0.mk A50
 clear A50
 replace H := Option.bind_eq_some_iff.mp H
 obtain ⟨t322, A60, H⟩ := H
 have A6 := Aside0.mk A60
 clear A60
 have HC7 := Aside0.mk H
 clear H
 go_enter Try.func11, Try.ntmps11
 go_upto_region 3 with (first | ((with_reducible refine gate_dst (N := 4) rfl ?_); (try (refine gate_guard (by rfl) ?_; dsimp only)); refine box_event ?hg (N := 4) ?hd (cs := #[.int .i64 a0_0, .string a0_1, .slice A0_2 l0_2.length c0_2, .slice A0_3 l0_3.length c0_3]) (t := 25) ?hr ?_; (case hd => rfl); (case hg => rfl); (case hr => first | (go_simp; done) | (go_simp; rfl) | (obtain ⟨_, _, rfl⟩ := Kd.R_slice (Aside0.out (by assumption : Aside0 (Kd.R _ _ _ _ _ _ _))); go_simp; done)); intro gb317 hg w8 hbox hb; have n0_ := Aside0.mk (below_step (BX HB.out) hb); have n1_ := Aside0.mk (hbox); have n2_ := Aside0.mk ((by rw [hg]; exact (below_size (BX HB.out)) : w.heap.size ≤ gb317)); have n3_ := Aside0.mk ((by rw [hg]; exact (below_size (BX HB.out)) : w.heap.size ≤ gb317)); clear HB; have HB := n0_; have BK317 := n1_; have GW317 := n2_; have GE317 := n3_; clear n0_ n1_ n2_ n3_; clear hb hbox hg) | ((with_reducible refine gate_dst (N := 5) rfl ?_); (try (refine gate_guard (by rfl) ?_; dsimp only)); refine box_event ?hg (N := 5) ?hd (cs := #[.int .i64 a1_0, .string a1_1, .slice A1_2 l1_2.length c1_2, .slice A1_3 l1_3.length c1_3]) (t := 25) ?hr ?_; (case hd => rfl); (case hg => rfl); (case hr => first | (go_simp; done) | (go_simp; rfl) | (obtain ⟨_, _, rfl⟩ := Kd.R_slice (Aside0.out (by assumption : Aside0 (Kd.R _ _ _ _ _ _ _))); go_simp; done)); intro gb318 hg w9 hbox hb; have n0_ := Aside0.mk (blk_below (g := gb317) (o := .cells #[.int .i64 a0_0, .string a0_1, .slice A0_2 l0_2.length c0_2, .slice A0_3 l0_3.length c0_3] 25 (0, 0)) (by (with_reducible repeat (first | refine blk_drewN ?_ _ | refine blk_drew ?_ | refine blk_alloc ?_ _)); exact BK317.out) hb); have n1_ := Aside0.mk (below_step (by repeat (first | (with_reducible first | exact HB.out | apply below_alloc | apply pw_below_drewN | apply below_drew1 | refine below_set ?_ GE317.out) | exact HB.out)) hb); have n2_ := Aside0.mk (hbox); have n3_ := Aside0.mk ((by rw [hg]; exact (below_size (by repeat (first | (with_reducible first | exact HB.out | apply below_alloc | apply pw_below_drewN | apply below_drew1 | refine below_set ?_ GE317.out) | exact HB.out))) : w.heap.size ≤ gb318)); have n4_ := Aside0.mk ((by rw [hg]; exact (below_size (by repeat (first | (with_reducible first | exact HB.out | apply below_alloc | apply pw_below_drewN | apply below_drew1 | refine below_set ?_ GE317.out) | exact HB.out))) : w.heap.size ≤ gb318)); have n5_ := Aside0.mk ((by rw [hg]; exact Nat.ne_of_lt (blk_lt (g := gb317) (o := .cells #[.int .i64 a0_0, .string a0_1, .slice A0_2 l0_2.length c0_2, .slice A0_3 l0_3.length c0_3] 25 (0, 0)) (by (with_reducible repeat (first | refine blk_drewN ?_ _ | refine blk_drew ?_ | refine blk_alloc ?_ _)); exact BK317.out)) : gb317 ≠ gb318)); have n6_ := Aside0.mk ((by rw [hg]; exact Nat.ne_of_gt (blk_lt (g := gb317) (o := .cells #[.int .i64 a0_0, .string a0_1, .slice A0_2 l0_2.length c0_2, .slice A0_3 l0_3.length c0_3] 25 (0, 0)) (by (with_reducible repeat (first | refine blk_drewN ?_ _ | refine blk_drew ?_ | refine blk_alloc ?_ _)); exact BK317.out)) : gb318 ≠ gb317)); clear BK317; clear HB; have BK317 := n0_; have HB := n1_; have BK318 := n2_; have GW318 := n3_; have GE318 := n4_; have NB317_318 := n5_; have NB318_317 := n6_; clear n0_ n1_ n2_ n3_ n4_ n5_ n6_; clear hb hbox hg; have hnb10 := NB317_318.out; have hnc10 := NB318_317.out; have hcz11_0 : w9.cell? ⟨gb317, 0, none⟩ = some (.int .i64 a0_0) := (blk_cell BK317.out 0).trans rfl; have hcz11_1 : w9.cell? ⟨gb317, 1, none⟩ = some (.string a0_1) := (blk_cell BK317.out 1).trans rfl; have hcz11_2 : w9.cell? ⟨gb317, 2, none⟩ = some (.slice A0_2 l0_2.length c0_2) := (blk_cell BK317.out 2).trans rfl; have hcz11_3 : w9.cell? ⟨gb317, 3, none⟩ = some (.slice A0_3 l0_3.length c0_3) := (blk_cell BK317.out 3).trans rfl; have hfz11_0 := blk_frozen BK317.out 0; have hfz11_1 := blk_frozen BK317.out 1; have hfz11_2 := blk_frozen BK317.out 2; have hfz11_3 := blk_frozen BK317.out 3) | ((with_reducible refine gate_callee (f := 30) rfl ?_); refine goesL_ (some 17) rfl rfl Try.func30 (by kernel_rfl) rfl #[.agg #[.int .i64 a0_0, .string a0_1, .slice A0_2 l0_2.length c0_2, .slice A0_3 l0_3.length c0_3]] rfl MX ?_; (with_reducible refine (treemergeref06_Rows.calls a0_0 a0_1 (fun k_ => k_ < w.heap.size) _ _ l0_2 (fun k_ => k_ < w.heap.size) _ _ l0_3 t319 _ ?side1 ?side2 A5.out).mono ?_); (case side1 => exact Kd.V_mk HC0_2.out (Kd.F_below (Kd.C_F Kd.heap_string HR0_2.out) (by repeat (first | (with_reducible first | exact HB.out | apply below_alloc | apply pw_below_drewN | apply below_drew1 | refine below_set ?_ GE317.out | refine below_set ?_ GE318.out) | exact HB.out)))); (case side2 => exact Kd.V_mk HC0_3.out (Kd.F_below (Kd.C_F k25_heap HR0_3.out) (by repeat (first | (with_reducible first | exact HB.out | apply below_alloc | apply pw_below_drewN | apply below_drew1 | refine below_set ?_ GE317.out | refine below_set ?_ GE318.out) | exact HB.out)))); rintro e w12 ⟨v320, rfl, ho0, hb⟩; refine ⟨_, rfl, ?_⟩; have n0_ := Aside0.mk (Kd.N_lower (Kd.N_mono (ok' := fun k_ => k_ ≠ gb317 ∧ k_ ≠ gb318) ho0 (fun k_ hk_ => ⟨Or.elim hk_ (fun hs_ => Or.elim hs_ (fun hs_ => fun e_ => Nat.not_le.2 hs_ (by rw [e_]; exact GW317.out)) (fun hs_ => fun e_ => Nat.not_le.2 hs_ (by rw [e_]; exact GW317.out))) (fun hn_ => (Kd.freshB (g := gb317) (o := .cells #[.int .i64 a0_0, .string a0_1, .slice A0_2 l0_2.length c0_2, .slice A0_3 l0_3.length c0_3] 25 (0, 0)) (by (with_reducible repeat (first | refine blk_drewN ?_ _ | refine blk_drew ?_ | refine blk_alloc ?_ _)); exact BK317.out) k_ hn_)), Or.elim hk_ (fun hs_ => Or.elim hs_ (fun hs_ => fun e_ => Nat.not_le.2 hs_ (by rw [e_]; exact GW318.out)) (fun hs_ => fun e_ => Nat.not_le.2 hs_ (by rw [e_]; exact GW318.out))) (fun hn_ => (Kd.freshB (g := gb318) (o := .cells #[.int .i64 a1_0, .string a1_1, .slice A1_2 l1_2.length c1_2, .slice A1_3 l1_3.length c1_3] 25 (0, 0)) (by (with_reducible repeat (first | refine blk_drewN ?_ _ | refine blk_drew ?_ | refine blk_alloc ?_ _)); exact BK318.out) k_ hn_))⟩)) (below_size (by repeat (first | (with_reducible first | exact HB.out | apply below_alloc | apply pw_below_drewN | apply below_drew1 | refine below_set ?_ GE317.out | refine below_set ?_ GE318.out) | exact HB.out)))); have n1_ := Aside0.mk (blk_below (g := gb317) (o := .cells #[.int .i64 a0_0, .string a0_1, .slice A0_2 l0_2.length c0_2, .slice A0_3 l0_3.length c0_3] 25 (0, 0)) (by (with_reducible repeat (first | refine blk_drewN ?_ _ | refine blk_drew ?_ | refine blk_alloc ?_ _)); exact BK317.out) hb); have n2_ := Aside0.mk (blk_below (g := gb318) (o := .cells #[.int .i64 a1_0, .string a1_1, .slice A1_2 l1_2.length c1_2, .slice A1_3 l1_3.length c1_3] 25 (0, 0)) (by (with_reducible repeat (first | refine blk_drewN ?_ _ | refine blk_drew ?_ | refine blk_alloc ?_ _)); exact BK318.out) hb); have n3_ := Aside0.mk (below_step (by repeat (first | (with_reducible first | exact HB.out | apply below_alloc | apply pw_below_drewN | apply below_drew1 | refine below_set ?_ GE317.out | refine below_set ?_ GE318.out) | exact HB.out)) hb); clear BK317; clear BK318; clear HB; have HO321 := n0_; have BK317 := n1_; have BK318 := n2_; have HB := n3_; clear n0_ n1_ n2_ n3_; (try clear hb); (try clear hb2); (try clear hk); (try clear hi); (try clear ho0); have hcz13_0 : w12.cell? ⟨gb318, 0, none⟩ = some (.int .i64 a1_0) := (blk_cell BK318.out 0).trans rfl; have hcz13_1 : w12.cell? ⟨gb318, 1, none⟩ = some (.string a1_1) := (blk_cell BK318.out 1).trans rfl; have hcz13_2 : w12.cell? ⟨gb318, 2, none⟩ = some (.slice A1_2 l1_2.length c1_2) := (blk_cell BK318.out 2).trans rfl; have hcz13_3 : w12.cell? ⟨gb318, 3, none⟩ = some (.slice A1_3 l1_3.length c1_3) := (blk_cell BK318.out 3).trans rfl; have hfz13_0 := blk_frozen BK318.out 0; have hfz13_1 := blk_frozen BK318.out 1; have hfz13_2 := blk_frozen BK318.out 2; have hfz13_3 := blk_frozen BK318.out 3) | ((with_reducible refine gate_callee (f := 30) rfl ?_); refine goesL_ (some 19) rfl rfl Try.func30 (by kernel_rfl) rfl #[.agg #[.int .i64 a1_0, .string a1_1, .slice A1_2 l1_2.length c1_2, .slice A1_3 l1_3.length c1_3]] rfl MX ?_; (with_reducible refine (treemergeref06_Rows.calls a1_0 a1_1 (fun k_ => k_ < w.heap.size) _ _ l1_2 (fun k_ => k_ < w.heap.size) _ _ l1_3 t322 _ ?side1 ?side2 A6.out).mono ?_); (case side1 => exact Kd.V_mk HC1_2.out (Kd.F_below (Kd.C_F Kd.heap_string HR1_2.out) (by repeat (first | (with_reducible first | exact HB.out | apply below_alloc | apply pw_below_drewN | apply below_drew1 | refine below_set ?_ GE317.out | refine below_set ?_ GE318.out) | exact HB.out)))); (case side2 => exact Kd.V_mk HC1_3.out (Kd.F_below (Kd.C_F k25_heap HR1_3.out) (by repeat (first | (with_reducible first | exact HB.out | apply below_alloc | apply pw_below_drewN | apply below_drew1 | refine below_set ?_ GE317.out | refine below_set ?_ GE318.out) | exact HB.out)))); rintro e w14 ⟨v323, rfl, ho0, hb⟩; refine ⟨_, rfl, ?_⟩; have n0_ := Aside0.mk (Kd.N_elder' (by (with_reducible repeat (first | apply Kd.N_alloc | apply Kd.N_drewN | apply Kd.N_drew)); exact HO321.out) (Kd.N_base ho0) hb); have n1_ := Aside0.mk (Kd.N_lower (Kd.N_mono (ok' := fun k_ => some k_ ≠ (v320 : Value).ownBlock ∧ k_ ≠ gb317 ∧ k_ ≠ gb318) ho0 (fun k_ hk_ => ⟨Or.elim hk_ (fun hs_ => Or.elim hs_ (fun hs_ => fun e_ => Nat.not_le.2 hs_ (Kd.N_base HO321.out k_ e_.symm)) (fun hs_ => fun e_ => Nat.not_le.2 hs_ (Kd.N_base HO321.out k_ e_.symm))) (fun hn_ => (Kd.fresh' (Kd.N_lt (by (with_reducible repeat (first | apply Kd.N_alloc | apply Kd.N_drewN | apply Kd.N_drew)); exact HO321.out)) k_ hn_)), Or.elim hk_ (fun hs_ => Or.elim hs_ (fun hs_ => fun e_ => Nat.not_le.2 hs_ (by rw [e_]; exact GW317.out)) (fun hs_ => fun e_ => Nat.not_le.2 hs_ (by rw [e_]; exact GW317.out))) (fun hn_ => (Kd.freshB (g := gb317) (o := .cells #[.int .i64 a0_0, .string a0_1, .slice A0_2 l0_2.length c0_2, .slice A0_3 l0_3.length c0_3] 25 (0, 0)) (by (with_reducible repeat (first | refine blk_drewN ?_ _ | refine blk_drew ?_ | refine blk_alloc ?_ _)); exact BK317.out) k_ hn_)), Or.elim hk_ (fun hs_ => Or.elim hs_ (fun hs_ => fun e_ => Nat.not_le.2 hs_ (by rw [e_]; exact GW318.out)) (fun hs_ => fun e_ => Nat.not_le.2 hs_ (by rw [e_]; exact GW318.out))) (fun hn_ => (Kd.freshB (g := gb318) (o := .cells #[.int .i64 a1_0, .string a1_1, .slice A1_2 l1_2.length c1_2, .slice A1_3 l1_3.length c1_3] 25 (0, 0)) (by (with_reducible repeat (first | refine blk_drewN ?_ _ | refine blk_drew ?_ | refine blk_alloc ?_ _)); exact BK318.out) k_ hn_))⟩)) (below_size (by repeat (first | (with_reducible first | exact HB.out | apply below_alloc | apply pw_below_drewN | apply below_drew1 | refine below_set ?_ GE317.out | refine below_set ?_ GE318.out) | exact HB.out)))); have n2_ := Aside0.mk (blk_below (g := gb317) (o := .cells #[.int .i64 a0_0, .string a0_1, .slice A0_2 l0_2.length c0_2, .slice A0_3 l0_3.length c0_3] 25 (0, 0)) (by (with_reducible repeat (first | refine blk_drewN ?_ _ | refine blk_drew ?_ | refine blk_alloc ?_ _)); exact BK317.out) hb); have n3_ := Aside0.mk (blk_below (g := gb318) (o := .cells #[.int .i64 a1_0, .string a1_1, .slice A1_2 l1_2.length c1_2, .slice A1_3 l1_3.length c1_3] 25 (0, 0)) (by (with_reducible repeat (first | refine blk_drewN ?_ _ | refine blk_drew ?_ | refine blk_alloc ?_ _)); exact BK318.out) hb); have n4_ := Aside0.mk (below_step (by repeat (first | (with_reducible first | exact HB.out | apply below_alloc | apply pw_below_drewN | apply below_drew1 | refine below_set ?_ GE317.out | refine below_set ?_ GE318.out) | exact HB.out)) hb); clear HO321; clear BK317; clear BK318; clear HB; have HO321 := n0_; have HO324 := n1_; have BK317 := n2_; have BK318 := n3_; have HB := n4_; clear n0_ n1_ n2_ n3_ n4_; (try clear hb); (try clear hb2); (try clear hk); (try clear hi); (try clear ho0)))
 (try simp only [Act.put, List.setIfInBounds_toArray, List.set_cons_zero, List.set_cons_succ])
 go_cut [31] (fun v31 wc => ∃ (kq : Nat) (x31_6 : Bool), v31 = .bool x31_6 ∧ Aside0 (treemergeref31_List.j0 kq l2 l3 t319 t322 x31_6 = some (r1, r2)) ∧ Aside0 (kq ≤ k) ∧ Aside0 (Kd.N k70 70 wc w.heap.size (fun k_ => some k_ ≠ (v323 : Value).ownBlock ∧ k_ ≠ gb317 ∧ k_ ≠ gb318) v320 t319) ∧ Aside0 (Kd.N k70 70 wc w.heap.size (fun k_ => some k_ ≠ (v320 : Value).ownBlock ∧ k_ ≠ gb317 ∧ k_ ≠ gb318) v323 t322) ∧ Aside0 (wc.heap[gb317]? = some (.cells #[.int .i64 a0_0, .string a0_1, (.slice A0_2 l0_2.length c0_2), (.slice A0_3 l0_3.length c0_3)] 25 (0, 0))) ∧ Aside0 (wc.heap[gb318]? = some (.cells #[.int .i64 a1_0, .string a1_1, (.slice A1_2 l1_2.length c1_2), (.slice A1_3 l1_3.length c1_3)] 25 (0, 0))) ∧ Aside0 (Below w.heap.size w wc))
 case first =>
  have H := HC7.out
  clear HC7
  replace H := Option.bind_eq_some_iff.mp H
  obtain ⟨t325, A150, H⟩ := H
  have A15 := Aside0.mk A150
  clear A150
  by_cases c16 : t325 = true
  ·subst c16
   have H1 : ((treemergeref31_Fits.f k l3 (t322.length : Int)).bind fun t326 => (treemergeref31_List.j0 k l2 l3 t319 t322 (!t326))) = some (r1, r2) := by rw [if_pos rfl] at H; exact H
   clear H
   have H := H1
   clear H1
   replace H := Option.bind_eq_some_iff.mp H
   obtain ⟨t326, A170, H⟩ := H
   have A17 := Aside0.mk A170
   clear A170
   have H' := Aside0.mk H
   clear H
   obtain ⟨Ao18, co18, eo18⟩ := Kd.N_slice HO321.out
   subst eo18
   go_wp2_with (first | ((with_reducible refine gate_callee (f := 31) rfl ?_); refine goesL_ (some 23) rfl rfl Try.func31 (by kernel_rfl) rfl #[.slice A2 l2.length c2, .int .i64 (t319.length : Int)] rfl MX ?_; (with_reducible refine (treemergeref31_Fits.calls k _ _ l2 (t319.length : Int) true _ ?side1 ?side2 A15.out).mono ?_); (case side1 => exact CX (Kd.C_below HR2.out HB.out)); (case side2 => exact HC2.out); rintro e w' ⟨rfl, ⟨nd, rfl⟩⟩; refine ⟨_, rfl, ?_⟩; obtain ⟨Ao19, co19, eo19⟩ := Kd.N_slice HO324.out; subst eo19) | (go_at_call 31; (with_reducible refine (treemergeref31_Fits.calls k _ _ l3 (t322.length : Int) t326 _ ?side1 ?side2 A17.out).mono ?_); (case side1 => repeat (first | exact (Kd.C_below HR3.out (by repeat (first | (with_reducible first | exact HB.out | apply below_alloc | apply pw_below_drewN | apply below_drew1 | refine below_set ?_ GE317.out | refine below_set ?_ GE318.out) | exact HB.out))) | (with_reducible refine Kd.C_alloc ?_ _) | (with_reducible refine Kd.C_drewN ?_ _) | (with_reducible refine Kd.C_drew ?_))); (case side2 => exact HC3.out); rintro e w' ⟨rfl, ⟨nd, rfl⟩⟩))
   go_meet
   case rel => exact ⟨_, (!t326), SX, H', ⟨by first | omega | exact Nat.le_refl _⟩, ⟨by (with_reducible repeat (first | apply Kd.N_alloc | apply Kd.N_drewN | apply Kd.N_drew)); exact Kd.N_mono HO321.out (fun _ hk => ⟨hk.2, ⟨hk.1.1, hk.1.2⟩⟩)⟩, ⟨by (with_reducible repeat (first | apply Kd.N_alloc | apply Kd.N_drewN | apply Kd.N_drew)); exact HO324.out⟩, ⟨by (with_reducible repeat (first | refine blk_drewN ?_ _ | refine blk_drew ?_ | refine blk_alloc ?_ _)); exact BK317.out⟩, ⟨by (with_reducible repeat (first | refine blk_drewN ?_ _ | refine blk_drew ?_ | refine blk_alloc ?_ _)); exact BK318.out⟩, ⟨by repeat (first | (with_reducible first | exact HB.out | apply below_alloc | apply pw_below_drewN | apply below_drew1 | refine below_set ?_ GE317.out | refine below_set ?_ GE318.out) | exact HB.out)⟩⟩
  ·replace c16 := Bool.eq_false_iff.mpr c16
   subst c16
   have H1 : (treemergeref31_List.j0 k l2 l3 t319 t322 true) = some (r1, r2) := by rw [if_neg (show ¬ (false = true) by decide)] at H; exact H
   clear H
   have H := H1
   clear H1
   have H' := Aside0.mk H
   clear H
   obtain ⟨Ao20, co20, eo20⟩ := Kd.N_slice HO321.out
   subst eo20
   go_wp2_with (first | ((with_reducible refine gate_callee (f := 31) rfl ?_); refine goesL_ (some 23) rfl rfl Try.func31 (by kernel_rfl) rfl #[.slice A2 l2.length c2, .int .i64 (t319.length : Int)] rfl MX ?_; (with_reducible refine (treemergeref31_Fits.calls k _ _ l2 (t319.length : Int) false _ ?side1 ?side2 A15.out).mono ?_); (case side1 => exact CX (Kd.C_below HR2.out HB.out)); (case side2 => exact HC2.out); rintro e w' ⟨rfl, ⟨nd, rfl⟩⟩; refine ⟨_, rfl, ?_⟩))
   go_meet
   case rel => exact ⟨_, (true), SX, H', ⟨by first | omega | exact Nat.le_refl _⟩, ⟨by (with_reducible repeat (first | apply Kd.N_alloc | apply Kd.N_drewN | apply Kd.N_drew)); exact Kd.N_mono HO321.out (fun _ hk => ⟨hk.2, ⟨hk.1.1, hk.1.2⟩⟩)⟩, ⟨by (with_reducible repeat (first | apply Kd.N_alloc | apply Kd.N_drewN | apply Kd.N_drew)); exact HO324.out⟩, ⟨by (with_reducible repeat (first | refine blk_drewN ?_ _ | refine blk_drew ?_ | refine blk_alloc ?_ _)); exact BK317.out⟩, ⟨by (with_reducible repeat (first | refine blk_drewN ?_ _ | refine blk_drew ?_ | refine blk_alloc ?_ _)); exact BK318.out⟩, ⟨by repeat (first | (with_reducible first | exact HB.out | apply below_alloc | apply pw_below_drewN | apply below_drew1 | refine below_set ?_ GE317.out | refine below_set ?_ GE318.out) | exact HB.out)⟩⟩
 case rest =>
  clear HC7
  try clear c1
  try clear c2
  try clear p2
  try clear c3
  try clear c10
  try clear c11
  try clear c16
  try clear hcz11_0
  try clear hcz11_1
  try clear hcz11_2
  try clear hcz11_3
  try clear hcz13_0
  try clear hcz13_1
  try clear hcz13_2
  try clear hcz13_3
  try clear hfz11_0
  try clear hfz11_1
  try clear hfz11_2
  try clear hfz11_3
  try clear hfz13_0
  try clear hfz13_1
  try clear hfz13_2
  try clear hfz13_3
  obtain ⟨kq, x31_6, rfl, HA, HJ6, HO_10, HO_11, BK317, BK318, HB⟩ := hcut
  cases kq with
  | zero => exact absurd HA.out (by simp [treemergeref31_List.j0])
  | succ kj6 =>
   have H := HA.out
   clear HA
   simp only [treemergeref31_List.j0] at H
   by_cases c21 : x31_6 = true
   ·subst c21
    have H1 : (some (([] : List (S48)), 15)) = some (r1, r2) := by rw [if_pos rfl] at H; exact H
    clear H
    have H := H1
    clear H1
    simp only [Option.some.injEq, Prod.mk.injEq] at H
    obtain ⟨rfl, rfl⟩ := H
    go_wp2
    go_ret2
    exact ⟨_, by first | rfl | (simp [errW_none, errW_some] <;> rfl) | (simp [*, errW_none, errW_some] <;> rfl), NX, by repeat (first | (with_reducible first | exact HB.out | apply below_alloc | apply pw_below_drewN | apply below_drew1 | refine below_set ?_ GE317.out | refine below_set ?_ GE318.out) | exact HB.out)⟩
   ·replace c21 := Bool.eq_false_iff.mpr c21
    subst c21
    have H1 : (treemergeref31_List.l0 kj6 l2 l3 t319 t322 ([] : List (S48)) 0) = some (r1, r2) := by rw [if_neg (show ¬ (false = true) by decide)] at H; exact H
    clear H
    have H := H1
    clear H1
    have H' := Aside0.mk H
    clear H
    go_wp2
    go_loopg [12, 13] kj6 (fun kq v12 v13 w' => ∃ (x12_2 : List (S48)) (x13_2 : Int), v13 = .int .i64 x13_2 ∧ Aside0 (treemergeref31_List.l0 kq l2 l3 t319 t322 x12_2 x13_2 = some (r1, r2)) ∧ Aside0 (kq ≤ kj6) ∧ Aside0 (Kd.N k70 70 w' w.heap.size (fun k_ => some k_ ≠ (v323 : Value).ownBlock ∧ some k_ ≠ (v12 : Value).ownBlock ∧ k_ ≠ gb317 ∧ k_ ≠ gb318) v320 t319) ∧ Aside0 (Kd.N k70 70 w' w.heap.size (fun k_ => some k_ ≠ (v320 : Value).ownBlock ∧ some k_ ≠ (v12 : Value).ownBlock ∧ k_ ≠ gb317 ∧ k_ ≠ gb318) v323 t322) ∧ Aside0 (Kd.R k48 48 w' w.heap.size (fun _ => True) v12 x12_2) ∧ Aside0 (w'.heap[gb317]? = some (.cells #[.int .i64 a0_0, .string a0_1, (.slice A0_2 l0_2.length c0_2), (.slice A0_3 l0_3.length c0_3)] 25 (0, 0))) ∧ Aside0 (w'.heap[gb318]? = some (.cells #[.int .i64 a1_0, .string a1_1, (.slice A1_2 l1_2.length c1_2), (.slice A1_3 l1_3.length c1_3)] 25 (0, 0))) ∧ Aside0 (Below w.heap.size w w'))
    case atStart => exact ⟨(([] : List (S48))), (0), SX, H', ⟨Nat.le_refl _⟩, ⟨by (with_reducible repeat (first | apply Kd.N_alloc | apply Kd.N_drewN | apply Kd.N_drew)); exact Kd.N_mono HO_10.out (fun _ hk => ⟨hk.1, ⟨(by simp [Value.ownBlock]), ⟨hk.2.1, hk.2.2⟩⟩⟩)⟩, ⟨by (with_reducible repeat (first | apply Kd.N_alloc | apply Kd.N_drewN | apply Kd.N_drew)); exact Kd.N_mono HO_11.out (fun _ hk => ⟨hk.1, ⟨(by simp [Value.ownBlock]), ⟨hk.2.1, hk.2.2⟩⟩⟩)⟩, ⟨NX⟩, ⟨by (with_reducible repeat (first | refine blk_drewN ?_ _ | refine blk_drew ?_ | refine blk_alloc ?_ _)); exact BK317.out⟩, ⟨by (with_reducible repeat (first | refine blk_drewN ?_ _ | refine blk_drew ?_ | refine blk_alloc ?_ _)); exact BK318.out⟩, ⟨by repeat (first | (with_reducible first | exact HB.out | apply below_alloc | apply pw_below_drewN | apply below_drew1 | refine below_set ?_ GE317.out | refine below_set ?_ GE318.out) | exact HB.out)⟩⟩
    case round =>
     clear H'
     try clear c1
     try clear c2
     try clear p2
     try clear c3
     try clear c10
     try clear c11
     try clear c16
     try clear c21
     try clear hcz11_0
     try clear hcz11_1
     try clear hcz11_2
     try clear hcz11_3
     try clear hcz13_0
     try clear hcz13_1
     try clear hcz13_2
     try clear hcz13_3
     try clear hfz11_0
     try clear hfz11_1
     try clear hfz11_2
     try clear hfz11_3
     try clear hfz13_0
     try clear hfz13_1
     try clear hfz13_2
     try clear hfz13_3
     try clear p2
     obtain ⟨x12_2, x13_2, rfl, HA, HK2, HO_10, HO_11, HO_12, BK317, BK318, HB⟩ := hrel
     cases gk with
     | zero => exact absurd HA.out (by simp [treemergeref31_List.l0])
     | succ k2 =>
      have H := HA.out
      clear HA
      simp only [treemergeref31_List.l0] at H
      by_cases c22 : x13_2 < (t319.length : Int)
      ·rw [if_pos c22] at H
       have c22b0 : decide (x13_2 < (t319.length : Int)) = true := decide_eq_true c22
       clear c22
       by_cases c23 : 0 ≤ x13_2
       ·rw [if_pos c23] at H
        have c23b0 : decide (0 ≤ x13_2) = true := decide_eq_true c23
        clear c23
        by_cases c24 : x13_2 < (l2.length : Int)
        ·rw [if_pos c24] at H
         have c24b0 : decide (x13_2 < (l2.length : Int)) = true := decide_eq_true c24
         clear c24
         replace H := Option.bind_eq_some_iff.mp H
         obtain ⟨t328, A250, H⟩ := H
         have A25 := Aside0.mk A250
         clear A250
         by_cases c26 : t328 < 0
         ·rw [if_pos c26] at H
          have c26b0 : decide (t328 < 0) = true := decide_eq_true c26
          clear c26
          replace H := Option.bind_eq_some_iff.mp H
          obtain ⟨t330, A270, H⟩ := H
          have A27 := Aside0.mk A270
          clear A270
          have H' := Aside0.mk H
          clear H
          obtain ⟨Ao28, co28, eo28⟩ := Kd.N_slice HO_10.out
          subst eo28
          have p327 : 0 ≤ (x13_2 : Int) := of_decide_eq_true AX
          have q327 : x13_2 < (l2.length : Int) := of_decide_eq_true AX
          obtain ⟨ad327, e327, hx327_0⟩ := Kd.at_int HR2.out x13_2 p327 q327
          cases e327
          replace hx327_0 := (HB.out.cell (World.block_lt_of_cell? w _ hx327_0)).trans hx327_0
          replace p327 := eq_true p327
          replace q327 := eq_true q327
          go_wp2_with (first | ((with_reducible refine gate_callee (f := 32) rfl ?_); refine goesL_ (some 43) rfl rfl Try.func32 (by kernel_rfl) rfl #[.slice A3 l3.length c3, .int .i64 (rd l2 x13_2)] rfl MX ?_; (with_reducible refine (treemergeref31_find.calls k2 _ _ l3 (rd l2 x13_2) t328 _ ?side1 ?side2 A25.out).mono ?_); (case side1 => exact CX (Kd.C_below HR3.out HB.out)); (case side2 => exact HC3.out); rintro e w' ⟨rfl, ⟨nd, rfl⟩⟩; refine ⟨_, rfl, ?_⟩; have p329 : 0 ≤ (x13_2 : Int) := of_decide_eq_true AX; have q329 : x13_2 < (l2.length : Int) := of_decide_eq_true AX; obtain ⟨ad329, e329, hx329_0⟩ := Kd.at_int HR2.out x13_2 p329 q329; obtain rfl : ad327 = ad329 := (by injection e329); replace hx329_0 := (HB.out.cell (World.block_lt_of_cell? w _ hx329_0)).trans hx329_0; replace p329 := eq_true p329; replace q329 := eq_true q329; obtain ⟨Ao29, co29, eo29⟩ := Kd.R_slice HO_12.out; subst eo29) | ((with_reducible refine gate_callee (f := 33) rfl ?_); refine goesL_ (some 52) rfl rfl Try.func33 (by kernel_rfl) rfl #[.slice Ao29 x12_2.length co29, .agg #[.int .i64 (rd l2 x13_2), .int .i64 2]] rfl MX ?_; (with_reducible refine (treemergeref31_Insert.calls k2 _ _ x12_2 (rd l2 x13_2) 2 t330 _ ?side1 ?side2 A27.out).mono ?_); (case side1 => exact CX ((Kd.R_reads' HO_12.out).2.2)); (case side2 => exact (Kd.R_reads' HO_12.out).2.1); rintro e w30 ⟨v331, rfl, ho0, hb⟩; refine ⟨_, rfl, ?_⟩; have n0_ := Aside0.mk (Kd.N_elder' (by (with_reducible repeat (first | apply Kd.N_alloc | apply Kd.N_drewN | apply Kd.N_drew)); exact HO_10.out) (Kd.R_base ho0) hb); have n1_ := Aside0.mk (Kd.N_elder' (by (with_reducible repeat (first | apply Kd.N_alloc | apply Kd.N_drewN | apply Kd.N_drew)); exact HO_11.out) (Kd.R_base ho0) hb); have n2_ := Aside0.mk (Kd.R_elder' (RX HO_12.out) (Kd.R_base ho0) hb); have n3_ := Aside0.mk (Kd.R_lower (Kd.R_new' ho0 (Kd.R_lt (RX HO_12.out))) (below_size (by repeat (first | (with_reducible first | exact HB.out | apply below_alloc | apply pw_below_drewN | apply below_drew1 | refine below_set ?_ GE317.out | refine below_set ?_ GE318.out) | exact HB.out)))); have n4_ := Aside0.mk (blk_below (g := gb317) (o := .cells #[.int .i64 a0_0, .string a0_1, .slice A0_2 l0_2.length c0_2, .slice A0_3 l0_3.length c0_3] 25 (0, 0)) (by (with_reducible repeat (first | refine blk_drewN ?_ _ | refine blk_drew ?_ | refine blk_alloc ?_ _)); exact BK317.out) hb); have n5_ := Aside0.mk (blk_below (g := gb318) (o := .cells #[.int .i64 a1_0, .string a1_1, .slice A1_2 l1_2.length c1_2, .slice A1_3 l1_3.length c1_3] 25 (0, 0)) (by (with_reducible repeat (first | refine blk_drewN ?_ _ | refine blk_drew ?_ | refine blk_alloc ?_ _)); exact BK318.out) hb); have n6_ := Aside0.mk (below_step (by repeat (first | (with_reducible first | exact HB.out | apply below_alloc | apply pw_below_drewN | apply below_drew1 | refine below_set ?_ GE317.out | refine below_set ?_ GE318.out) | exact HB.out)) hb); clear HO_10; clear HO_11; clear HO_12; clear BK317; clear BK318; clear HB; have HO_10 := n0_; have HO_11 := n1_; have HO_12 := n2_; have HO332 := n3_; have BK317 := n4_; have BK318 := n5_; have HB := n6_; clear n0_ n1_ n2_ n3_ n4_ n5_ n6_; (try clear hb); (try clear hb2); (try clear hk); (try clear hi); (try clear ho0)))
          go_roundg k2
          case measure => have := HJ6.out; have := HK2.out; omega
          case rel => exact ⟨(t330), (wrap64 (x13_2 + 1)), SX, H', ⟨by have := HJ6.out; have := HK2.out; omega⟩, ⟨by (with_reducible repeat (first | apply Kd.N_alloc | apply Kd.N_drewN | apply Kd.N_drew)); exact Kd.N_mono HO_10.out (fun _ hk => ⟨hk.1.1, ⟨hk.2, ⟨hk.1.2.2.1, hk.1.2.2.2⟩⟩⟩)⟩, ⟨by (with_reducible repeat (first | apply Kd.N_alloc | apply Kd.N_drewN | apply Kd.N_drew)); exact Kd.N_mono HO_11.out (fun _ hk => ⟨hk.1.1, ⟨hk.2, ⟨hk.1.2.2.1, hk.1.2.2.2⟩⟩⟩)⟩, ⟨by (with_reducible repeat (first | apply Kd.R_alloc | apply Kd.R_drewN | apply Kd.R_drew)); exact Kd.R_mono HO332.out (fun _ hk => trivial)⟩, ⟨by (with_reducible repeat (first | refine blk_drewN ?_ _ | refine blk_drew ?_ | refine blk_alloc ?_ _)); exact BK317.out⟩, ⟨by (with_reducible repeat (first | refine blk_drewN ?_ _ | refine blk_drew ?_ | refine blk_alloc ?_ _)); exact BK318.out⟩, ⟨by repeat (first | (with_reducible first | exact HB.out | apply below_alloc | apply pw_below_drewN | apply below_drew1 | refine below_set ?_ GE317.out | refine below_set ?_ GE318.out) | exact HB.out)⟩⟩
         ·rw [if_neg c26] at H
          have c26b0 : decide (t328 < 0) = false := decide_eq_false c26
          clear c26
          replace H := Option.bind_eq_some_iff.mp H
          obtain ⟨t333, A310, H⟩ := H
          have A31 := Aside0.mk A310
          clear A310
          replace H := Option.bind_eq_some_iff.mp H
          obtain ⟨t334, A320, H⟩ := H
          have A32 := Aside0.mk A320
          clear A320
          have HC33 := Aside0.mk H
          clear H
          obtain ⟨Ao34, co34, eo34⟩ := Kd.N_slice HO_10.out
          subst eo34
          have p327 : 0 ≤ (x13_2 : Int) := of_decide_eq_true AX
          have q327 : x13_2 < (l2.length : Int) := of_decide_eq_true AX
          obtain ⟨ad327, e327, hx327_0⟩ := Kd.at_int HR2.out x13_2 p327 q327
          cases e327
          replace hx327_0 := (HB.out.cell (World.block_lt_of_cell? w _ hx327_0)).trans hx327_0
          replace p327 := eq_true p327
          replace q327 := eq_true q327
          go_upto_if 61 with (first | ((with_reducible refine gate_callee (f := 32) rfl ?_); refine goesL_ (some 43) rfl rfl Try.func32 (by kernel_rfl) rfl #[.slice A3 l3.length c3, .int .i64 (rd l2 x13_2)] rfl MX ?_; (with_reducible refine (treemergeref31_find.calls k2 _ _ l3 (rd l2 x13_2) t328 _ ?side1 ?side2 A25.out).mono ?_); (case side1 => exact CX (Kd.C_below HR3.out HB.out)); (case side2 => exact HC3.out); rintro e w' ⟨rfl, ⟨nd, rfl⟩⟩; refine ⟨_, rfl, ?_⟩) | ((with_reducible refine gate_callee (f := 34) rfl ?_); refine goesL_ (some 56) rfl rfl Try.func34 (by kernel_rfl) rfl #[.slice Ao34 t319.length co34, .slice (some ad327) l2.length c2, .int .i64 x13_2] rfl MX ?_; (with_reducible refine (treemergeref31_parent.calls _ _ t319 _ _ l2 x13_2 t333 _ ?side1 ?side2 ?side3 ?side4 A31.out).mono ?_); (case side1 => exact CX ((Kd.N_reads' HO_10.out).2.2)); (case side2 => exact (Kd.N_reads' HO_10.out).2.1); (case side3 => repeat (first | exact (Kd.C_below HR2.out (by repeat (first | (with_reducible first | exact HB.out | apply below_alloc | apply pw_below_drewN | apply below_drew1 | refine below_set ?_ GE317.out | refine below_set ?_ GE318.out) | exact HB.out))) | (with_reducible refine Kd.C_alloc ?_ _) | (with_reducible refine Kd.C_drewN ?_ _) | (with_reducible refine Kd.C_drew ?_))); (case side4 => exact HC2.out); rintro e w' ⟨rfl, ⟨nd, rfl⟩⟩; refine ⟨_, rfl, ?_⟩; obtain ⟨Ao35, co35, eo35⟩ := Kd.N_slice HO_11.out; subst eo35) | ((with_reducible refine gate_callee (f := 34) rfl ?_); refine goesL_ (some 60) rfl rfl Try.func34 (by kernel_rfl) rfl #[.slice Ao35 t322.length co35, .slice A3 l3.length c3, .int .i64 t328] rfl MX ?_; (with_reducible refine (treemergeref31_parent.calls _ _ t322 _ _ l3 t328 t334 _ ?side1 ?side2 ?side3 ?side4 A32.out).mono ?_); (case side1 => exact CX ((Kd.N_reads' HO_11.out).2.2)); (case side2 => exact (Kd.N_reads' HO_11.out).2.1); (case side3 => repeat (first | exact (Kd.C_below HR3.out (by repeat (first | (with_reducible first | exact HB.out | apply below_alloc | apply pw_below_drewN | apply below_drew1 | refine below_set ?_ GE317.out | refine below_set ?_ GE318.out) | exact HB.out))) | (with_reducible refine Kd.C_alloc ?_ _) | (with_reducible refine Kd.C_drewN ?_ _) | (with_reducible refine Kd.C_drew ?_))); (case side4 => exact HC3.out); rintro e w' ⟨rfl, ⟨nd, rfl⟩⟩; refine ⟨_, rfl, ?_⟩))
          (try simp only [Act.put, List.setIfInBounds_toArray, List.set_cons_zero, List.set_cons_succ])
          go_cut [12] (fun v12 wc => ∃ (kq : Nat) (x12_32 : List (S48)), Aside0 (treemergeref31_List.j2 kq l2 l3 t319 t322 x12_32 x13_2 t328 = some (r1, r2)) ∧ Aside0 (kq ≤ k2) ∧ Aside0 (Kd.N k70 70 wc w.heap.size (fun k_ => some k_ ≠ ((.slice Ao35 t322.length co35) : Value).ownBlock ∧ some k_ ≠ (v12 : Value).ownBlock ∧ k_ ≠ gb317 ∧ k_ ≠ gb318) (.slice Ao34 t319.length co34) t319) ∧ Aside0 (Kd.N k70 70 wc w.heap.size (fun k_ => some k_ ≠ ((.slice Ao34 t319.length co34) : Value).ownBlock ∧ some k_ ≠ (v12 : Value).ownBlock ∧ k_ ≠ gb317 ∧ k_ ≠ gb318) (.slice Ao35 t322.length co35) t322) ∧ Aside0 (Kd.R k48 48 wc w.heap.size (fun _ => True) v12 x12_32) ∧ Aside0 (wc.heap[gb317]? = some (.cells #[.int .i64 a0_0, .string a0_1, (.slice A0_2 l0_2.length c0_2), (.slice A0_3 l0_3.length c0_3)] 25 (0, 0))) ∧ Aside0 (wc.heap[gb318]? = some (.cells #[.int .i64 a1_0, .string a1_1, (.slice A1_2 l1_2.length c1_2), (.slice A1_3 l1_3.length c1_3)] 25 (0, 0))) ∧ Aside0 (Below w.heap.size w wc))
          case first =>
           have H := HC33.out
           clear HC33
           by_cases c36 : t333 = t334
           ·rw [if_pos c36] at H
            have c36b0 : (t333 == t334) = true := beq_iff_eq.mpr c36
            have c36b1 : (t333 != t334) = false := bne_eq_false_iff_eq.mpr c36
            clear c36
            (first | rw [c36b0] | (simp only [i64_w, i32_w]; rw [c36b0]) | skip)
            have H' := Aside0.mk H
            clear H
            go_wp2
            go_meet
            case rel => exact ⟨_, (x12_2), H', ⟨by have := HJ6.out; have := HK2.out; first | omega | exact Nat.le_refl _⟩, ⟨by (with_reducible repeat (first | apply Kd.N_alloc | apply Kd.N_drewN | apply Kd.N_drew)); exact HO_10.out⟩, ⟨by (with_reducible repeat (first | apply Kd.N_alloc | apply Kd.N_drewN | apply Kd.N_drew)); exact HO_11.out⟩, ⟨RX HO_12.out⟩, ⟨by (with_reducible repeat (first | refine blk_drewN ?_ _ | refine blk_drew ?_ | refine blk_alloc ?_ _)); exact BK317.out⟩, ⟨by (with_reducible repeat (first | refine blk_drewN ?_ _ | refine blk_drew ?_ | refine blk_alloc ?_ _)); exact BK318.out⟩, ⟨by repeat (first | (with_reducible first | exact HB.out | apply below_alloc | apply pw_below_drewN | apply below_drew1 | refine below_set ?_ GE317.out | refine below_set ?_ GE318.out) | exact HB.out)⟩⟩
           ·rw [if_neg c36] at H
            have c36b0 : (t333 == t334) = false := beq_eq_false_iff_ne.mpr c36
            have c36b1 : (t333 != t334) = true := bne_iff_ne.mpr c36
            (first | rw [c36b0] | (simp only [i64_w, i32_w]; rw [c36b0]) | skip)
            replace H := Option.bind_eq_some_iff.mp H
            obtain ⟨t336, A370, H⟩ := H
            have A37 := Aside0.mk A370
            clear A370
            have H' := Aside0.mk H
            clear H
            have p335 : 0 ≤ (x13_2 : Int) := of_decide_eq_true AX
            have q335 : x13_2 < (l2.length : Int) := of_decide_eq_true AX
            obtain ⟨ad335, e335, hx335_0⟩ := Kd.at_int HR2.out x13_2 p335 q335
            obtain rfl : ad327 = ad335 := (by injection e335)
            replace hx335_0 := (HB.out.cell (World.block_lt_of_cell? w _ hx335_0)).trans hx335_0
            replace p335 := eq_true p335
            replace q335 := eq_true q335
            obtain ⟨Ao38, co38, eo38⟩ := Kd.R_slice HO_12.out
            subst eo38
            go_wp2_with (first | ((with_reducible refine gate_callee (f := 33) rfl ?_); refine goesL_ (some 68) rfl rfl Try.func33 (by kernel_rfl) rfl #[.slice Ao38 x12_2.length co38, .agg #[.int .i64 (rd l2 x13_2), .int .i64 3]] rfl MX ?_; (with_reducible refine (treemergeref31_Insert.calls k2 _ _ x12_2 (rd l2 x13_2) 3 t336 _ ?side1 ?side2 A37.out).mono ?_); (case side1 => exact CX ((Kd.R_reads' HO_12.out).2.2)); (case side2 => exact (Kd.R_reads' HO_12.out).2.1); rintro e w39 ⟨v337, rfl, ho0, hb⟩; refine ⟨_, rfl, ?_⟩; have n0_ := Aside0.mk (Kd.N_elder' (by (with_reducible repeat (first | apply Kd.N_alloc | apply Kd.N_drewN | apply Kd.N_drew)); exact HO_10.out) (Kd.R_base ho0) hb); have n1_ := Aside0.mk (Kd.N_elder' (by (with_reducible repeat (first | apply Kd.N_alloc | apply Kd.N_drewN | apply Kd.N_drew)); exact HO_11.out) (Kd.R_base ho0) hb); have n2_ := Aside0.mk (Kd.R_elder' (RX HO_12.out) (Kd.R_base ho0) hb); have n3_ := Aside0.mk (Kd.R_lower (Kd.R_new' ho0 (Kd.R_lt (RX HO_12.out))) (below_size (by repeat (first | (with_reducible first | exact HB.out | apply below_alloc | apply pw_below_drewN | apply below_drew1 | refine below_set ?_ GE317.out | refine below_set ?_ GE318.out) | exact HB.out)))); have n4_ := Aside0.mk (blk_below (g := gb317) (o := .cells #[.int .i64 a0_0, .string a0_1, .slice A0_2 l0_2.length c0_2, .slice A0_3 l0_3.length c0_3] 25 (0, 0)) (by (with_reducible repeat (first | refine blk_drewN ?_ _ | refine blk_drew ?_ | refine blk_alloc ?_ _)); exact BK317.out) hb); have n5_ := Aside0.mk (blk_below (g := gb318) (o := .cells #[.int .i64 a1_0, .string a1_1, .slice A1_2 l1_2.length c1_2, .slice A1_3 l1_3.length c1_3] 25 (0, 0)) (by (with_reducible repeat (first | refine blk_drewN ?_ _ | refine blk_drew ?_ | refine blk_alloc ?_ _)); exact BK318.out) hb); have n6_ := Aside0.mk (below_step (by repeat (first | (with_reducible first | exact HB.out | apply below_alloc | apply pw_below_drewN | apply below_drew1 | refine below_set ?_ GE317.out | refine below_set ?_ GE318.out) | exact HB.out)) hb); clear HO_10; clear HO_11; clear HO_12; clear BK317; clear BK318; clear HB; have HO_10 := n0_; have HO_11 := n1_; have HO_12 := n2_; have HO338 := n3_; have BK317 := n4_; have BK318 := n5_; have HB := n6_; clear n0_ n1_ n2_ n3_ n4_ n5_ n6_; (try clear hb); (try clear hb2); (try clear hk); (try clear hi); (try clear ho0)))
            go_meet
            case rel => exact ⟨_, (t336), H', ⟨by have := HJ6.out; have := HK2.out; first | omega | exact Nat.le_refl _⟩, ⟨by (with_reducible repeat (first | apply Kd.N_alloc | apply Kd.N_drewN | apply Kd.N_drew)); exact Kd.N_mono HO_10.out (fun _ hk => ⟨hk.1.1, ⟨hk.2, ⟨hk.1.2.2.1, hk.1.2.2.2⟩⟩⟩)⟩, ⟨by (with_reducible repeat (first | apply Kd.N_alloc | apply Kd.N_drewN | apply Kd.N_drew)); exact Kd.N_mono HO_11.out (fun _ hk => ⟨hk.1.1, ⟨hk.2, ⟨hk.1.2.2.1, hk.1.2.2.2⟩⟩⟩)⟩, ⟨by (with_reducible repeat (first | apply Kd.R_alloc | apply Kd.R_drewN | apply Kd.R_drew)); exact Kd.R_mono HO338.out (fun _ hk => trivial)⟩, ⟨by (with_reducible repeat (first | refine blk_drewN ?_ _ | refine blk_drew ?_ | refine blk_alloc ?_ _)); exact BK317.out⟩, ⟨by (with_reducible repeat (first | refine blk_drewN ?_ _ | refine blk_drew ?_ | refine blk_alloc ?_ _)); exact BK318.out⟩, ⟨by repeat (first | (with_reducible first | exact HB.out | apply below_alloc | apply pw_below_drewN | apply below_drew1 | refine below_set ?_ GE317.out | refine below_set ?_ GE318.out) | exact HB.out)⟩⟩
          case rest =>
           clear HC33
           try clear c1
           try clear c2
           try clear p2
           try clear c3
           try clear p3
           try clear q3
           try clear hx3
           try clear p6
           try clear c10
           try clear c11
           try clear c16
           try clear c21
           try clear c22
           try clear c22b0
           try clear c23
           try clear c23b0
           try clear c24
           try clear c24b0
           try clear c26
           try clear c26b0
           try clear c30
           try clear c31
           try clear c32
           try clear p32
           try clear q32
           try clear hx32
           try clear c33
           try clear p33
           try clear q33
           try clear hx33
           try clear c34
           try clear c36
           try clear c36b0
           try clear c36b1
           try clear hcz11_0
           try clear hcz11_1
           try clear hcz11_2
           try clear hcz11_3
           try clear hcz13_0
           try clear hcz13_1
           try clear hcz13_2
           try clear hcz13_3
           try clear hfz11_0
           try clear hfz11_1
           try clear hfz11_2
           try clear hfz11_3
           try clear hfz13_0
           try clear hfz13_1
           try clear hfz13_2
           try clear hfz13_3
           try clear hx327_0
           try clear hx329_0
           try clear hx335_0
           try clear p2
           try clear p327
           try clear p329
           try clear p335
           try clear q327
           try clear q329
           try clear q335
           obtain ⟨kq, x12_32, HA, HJ32, HO_10, HO_11, HO_12, BK317, BK318, HB⟩ := hcut
           cases kq with
           | zero => exact absurd HA.out (by simp [treemergeref31_List.j2])
           | succ kj32 =>
            have H := HA.out
            clear HA
            simp only [treemergeref31_List.j2] at H
            by_cases c40 : 0 ≤ x13_2
            ·rw [if_pos c40] at H
             have c40b0 : decide (0 ≤ x13_2) = true := decide_eq_true c40
             clear c40
             by_cases c41 : x13_2 < (t319.length : Int)
             ·rw [if_pos c41] at H
              have c41b0 : decide (x13_2 < (t319.length : Int)) = true := decide_eq_true c41
              clear c41
              by_cases c42 : 0 ≤ t328
              ·rw [if_pos c42] at H
               have c42b0 : decide (0 ≤ t328) = true := decide_eq_true c42
               clear c42
               by_cases c43 : t328 < (t322.length : Int)
               ·rw [if_pos c43] at H
                have c43b0 : decide (t328 < (t322.length : Int)) = true := decide_eq_true c43
                clear c43
                have HC44 := Aside0.mk H
                clear H
                try go_wp2
                have n0_ := Aside0.mk (Kd.N_drew HO_10.out)
                have n1_ := Aside0.mk (Kd.N_drew HO_11.out)
                have n2_ := Aside0.mk (Kd.R_drew HO_12.out)
                have n3_ := Aside0.mk (blk_drew BK317.out)
                have n4_ := Aside0.mk (blk_drew BK318.out)
                have n5_ := Aside0.mk (below_drew1 HB.out)
                clear HO_10
                clear HO_11
                clear HO_12
                clear BK317
                clear BK318
                clear HB
                have HO_10 := n0_
                have HO_11 := n1_
                have HO_12 := n2_
                have BK317 := n3_
                have BK318 := n4_
                have HB := n5_
                clear n0_ n1_ n2_ n3_ n4_ n5_
                have p339 : 0 ≤ (x13_2 : Int) := of_decide_eq_true AX
                have q339 : x13_2 < (t319.length : Int) := of_decide_eq_true AX
                obtain ⟨ad339, A339_3, c339_3, A339_4, c339_4, e339, hx339_0, hx339_1, hx339_2, hx339_3, hx339_4, hl339_3, hi339_3, hl339_4, hi339_4⟩ := at_T70 (Kd.N_reads' HO_10.out).2.2 x13_2 p339 q339
                cases e339
                obtain ⟨ce339, hce339, hMe339, hcc339⟩ := Kd.N_get HO_10.out z70 x13_2 p339 (by first | exact q339 | exact of_decide_eq_true AX | (have e_ := (Kd.N_reads' HO_10.out).1; omega))
                obtain ⟨ua339_3, uc339_3, ua339_4, uc339_4, rfl, ul339_3, ge339_3, ul339_4, ge339_4⟩ := k70_openF hMe339
                have hv339_3 := hcc339 3 _ rfl
                rw [add_field _ _ 3 (by omega)] at hv339_3
                replace hv339_3 := Option.some.inj (hv339_3.symm.trans hx339_3)
                injection hv339_3 with hva_ hvn_ hvc_
                rw [hva_] at ge339_3
                rw [hvc_] at ul339_3
                have HL339_3 := Aside0.mk (show Kd.V Kd.string 9 _ w.heap.size _ _ ((rd_T70 t319 x13_2).f3) from Kd.V_mk ul339_3 ge339_3)
                clear hva_ hvn_ hvc_ ge339_3 ul339_3
                have hv339_4 := hcc339 4 _ rfl
                rw [add_field _ _ 4 (by omega)] at hv339_4
                replace hv339_4 := Option.some.inj (hv339_4.symm.trans hx339_4)
                injection hv339_4 with hva_ hvn_ hvc_
                rw [hva_] at ge339_4
                rw [hvc_] at ul339_4
                have HL339_4 := Aside0.mk (show Kd.V (Kd.int .i64) 3 _ w.heap.size _ _ ((rd_T70 t319 x13_2).f4) from Kd.V_mk ul339_4 ge339_4)
                clear hva_ hvn_ hvc_ ge339_4 ul339_4
                clear hcc339 hce339
                have HR339_3 := Aside0.mk hi339_3
                have HC339_3 := Aside0.mk hl339_3
                clear hi339_3 hl339_3
                have HR339_4 := Aside0.mk hi339_4
                have HC339_4 := Aside0.mk hl339_4
                clear hi339_4 hl339_4
                replace p339 := eq_true p339
                replace q339 := eq_true q339
                have p340 : 0 ≤ (t328 : Int) := of_decide_eq_true AX
                have q340 : t328 < (t322.length : Int) := of_decide_eq_true AX
                obtain ⟨ad340, A340_3, c340_3, A340_4, c340_4, e340, hx340_0, hx340_1, hx340_2, hx340_3, hx340_4, hl340_3, hi340_3, hl340_4, hi340_4⟩ := at_T70 (Kd.N_reads' HO_11.out).2.2 t328 p340 q340
                cases e340
                obtain ⟨ce340, hce340, hMe340, hcc340⟩ := Kd.N_get HO_11.out z70 t328 p340 (by first | exact q340 | exact of_decide_eq_true AX | (have e_ := (Kd.N_reads' HO_11.out).1; omega))
                obtain ⟨ua340_3, uc340_3, ua340_4, uc340_4, rfl, ul340_3, ge340_3, ul340_4, ge340_4⟩ := k70_openF hMe340
                have hv340_3 := hcc340 3 _ rfl
                rw [add_field _ _ 3 (by omega)] at hv340_3
                replace hv340_3 := Option.some.inj (hv340_3.symm.trans hx340_3)
                injection hv340_3 with hva_ hvn_ hvc_
                rw [hva_] at ge340_3
                rw [hvc_] at ul340_3
                have HL340_3 := Aside0.mk (show Kd.V Kd.string 9 _ w.heap.size _ _ ((rd_T70 t322 t328).f3) from Kd.V_mk ul340_3 ge340_3)
                clear hva_ hvn_ hvc_ ge340_3 ul340_3
                have hv340_4 := hcc340 4 _ rfl
                rw [add_field _ _ 4 (by omega)] at hv340_4
                replace hv340_4 := Option.some.inj (hv340_4.symm.trans hx340_4)
                injection hv340_4 with hva_ hvn_ hvc_
                rw [hva_] at ge340_4
                rw [hvc_] at ul340_4
                have HL340_4 := Aside0.mk (show Kd.V (Kd.int .i64) 3 _ w.heap.size _ _ ((rd_T70 t322 t328).f4) from Kd.V_mk ul340_4 ge340_4)
                clear hva_ hvn_ hvc_ ge340_4 ul340_4
                clear hcc340 hce340
                have HR340_3 := Aside0.mk hi340_3
                have HC340_3 := Aside0.mk hl340_3
                clear hi340_3 hl340_3
                have HR340_4 := Aside0.mk hi340_4
                have HC340_4 := Aside0.mk hl340_4
                clear hi340_4 hl340_4
                replace p340 := eq_true p340
                replace q340 := eq_true q340
                refine start_ (n := 11) (S := fun w' => w'.cell? (ad339.add ((x13_2).toNat * 5)) = some (.int .i64 ((rd_T70 t319 x13_2).f0)) ∧ w'.cell? ⟨(ad339.add ((x13_2).toNat * 5)).block, (ad339.add ((x13_2).toNat * 5)).off + 1, none⟩ = some (.int .i64 ((rd_T70 t319 x13_2).f1)) ∧ w'.cell? ⟨(ad339.add ((x13_2).toNat * 5)).block, (ad339.add ((x13_2).toNat * 5)).off + 2, none⟩ = some (.string ((rd_T70 t319 x13_2).f2)) ∧ w'.cell? ⟨(ad339.add ((x13_2).toNat * 5)).block, (ad339.add ((x13_2).toNat * 5)).off + 3, none⟩ = some (.slice _ ((rd_T70 t319 x13_2).f3).length _) ∧ w'.cell? ⟨(ad339.add ((x13_2).toNat * 5)).block, (ad339.add ((x13_2).toNat * 5)).off + 4, none⟩ = some (.slice _ ((rd_T70 t319 x13_2).f4).length _) ∧ w'.cell? (ad340.add ((t328).toNat * 5)) = some (.int .i64 ((rd_T70 t322 t328).f0)) ∧ w'.cell? ⟨(ad340.add ((t328).toNat * 5)).block, (ad340.add ((t328).toNat * 5)).off + 1, none⟩ = some (.int .i64 ((rd_T70 t322 t328).f1)) ∧ w'.cell? ⟨(ad340.add ((t328).toNat * 5)).block, (ad340.add ((t328).toNat * 5)).off + 2, none⟩ = some (.string ((rd_T70 t322 t328).f2)) ∧ w'.cell? ⟨(ad340.add ((t328).toNat * 5)).block, (ad340.add ((t328).toNat * 5)).off + 3, none⟩ = some (.slice _ ((rd_T70 t322 t328).f3).length _) ∧ w'.cell? ⟨(ad340.add ((t328).toNat * 5)).block, (ad340.add ((t328).toNat * 5)).off + 4, none⟩ = some (.slice _ ((rd_T70 t322 t328).f4).length _)) (ds := []) #[false, false, false, false, false, false, false, false, false, false, false] (by kernel_rfl) rfl rfl ⟨hx339_0, hx339_1, hx339_2, hx339_3, hx339_4, hx340_0, hx340_1, hx340_2, hx340_3, hx340_4⟩ (fun hHeld => ?_); refine with_tabW treemergeref31_List.tab14 treemergeref31_List.bits14 (fun HT_ HW_ => ?_)
                generalize wc.drew = w45 at HO_10 HO_11 HO_12 BK317 BK318 HB HL339_3 HL339_4 HL340_3 HL340_4 HR339_3 HR339_4 HR340_3 HR340_4 hx339_0 hx339_1 hx339_2 hx339_3 hx339_4 hx340_0 hx340_1 hx340_2 hx340_3 hx340_4 hHeld ⊢
                refine pure_ (i := 0) (N := some 69) (v := ?_) (a' := ?_) #[true, false, false, false, false, false, false, false, false, false, false] rfl rfl (any_of HT_.out (by kernel_rfl)) (fun _ _ _ h => h) (Or.inl ⟨by rfl, ?_⟩) ?_ ?_
                rotate_left
                ·intro w'
                 go_simp
                 with_reducible rfl
                rotate_left
                ·simp only [Act.put, List.setIfInBounds_toArray, List.set_cons_zero, List.set_cons_succ, i64_w, i32_w]
                 rfl
                refine pure_ (i := 1) (N := some 70) (v := ?_) (a' := ?_) #[true, true, false, false, false, false, false, false, false, false, false] rfl rfl (any_of HT_.out (by kernel_rfl)) (fun _ _ _ h => h) (Or.inl ⟨by rfl, ?_⟩) ?_ ?_
                rotate_left
                ·intro w'
                 go_simp
                 with_reducible rfl
                rotate_left
                ·simp only [Act.put, List.setIfInBounds_toArray, List.set_cons_zero, List.set_cons_succ, i64_w, i32_w]
                 rfl
                refine pure_ (i := 2) (N := some 71) (v := ?_) (a' := ?_) #[true, true, true, false, false, false, false, false, false, false, false] rfl rfl (any_of HT_.out (by kernel_rfl)) (fun _ _ _ h => h) (Or.inl ⟨by rfl, ?_⟩) ?_ ?_
                rotate_left
                ·intro w'
                 go_simp
                 with_reducible rfl
                rotate_left
                ·simp only [Act.put, List.setIfInBounds_toArray, List.set_cons_zero, List.set_cons_succ, i64_w, i32_w]
                 rfl
                refine pure_ (i := 3) (N := some 72) (v := ?_) (a' := ?_) #[true, true, true, true, false, false, false, false, false, false, false] rfl rfl (any_of HT_.out (by kernel_rfl)) (fun _ _ _ h => h) (Or.inl ⟨by rfl, ?_⟩) ?_ ?_
                rotate_left
                ·intro w'
                 go_simp
                 with_reducible rfl
                rotate_left
                ·simp only [Act.put, List.setIfInBounds_toArray, List.set_cons_zero, List.set_cons_succ, i64_w, i32_w]
                 rfl
                refine pure_ (i := 5) (N := some 74) (v := ?_) (a' := ?_) #[true, true, true, true, false, true, false, false, false, false, false] rfl rfl (any_of HT_.out (by kernel_rfl)) (fun _ _ _ h => h) (Or.inl ⟨by rfl, ?_⟩) ?_ ?_
                rotate_left
                ·intro w'
                 go_simp
                 with_reducible rfl
                rotate_left
                ·simp only [Act.put, List.setIfInBounds_toArray, List.set_cons_zero, List.set_cons_succ, i64_w, i32_w]
                 rfl
                refine pure_ (i := 6) (N := some 75) (v := ?_) (a' := ?_) #[true, true, true, true, false, true, true, false, false, false, false] rfl rfl (any_of HT_.out (by kernel_rfl)) (fun _ _ _ h => h) (Or.inl ⟨by rfl, ?_⟩) ?_ ?_
                rotate_left
                ·intro w'
                 go_simp
                 with_reducible rfl
                rotate_left
                ·simp only [Act.put, List.setIfInBounds_toArray, List.set_cons_zero, List.set_cons_succ, i64_w, i32_w]
                 rfl
                refine pure_ (i := 7) (N := some 76) (v := ?_) (a' := ?_) #[true, true, true, true, false, true, true, true, false, false, false] rfl rfl (any_of HT_.out (by kernel_rfl)) (fun _ _ _ h => h) (Or.inl ⟨by rfl, ?_⟩) ?_ ?_
                rotate_left
                ·intro w'
                 go_simp
                 with_reducible rfl
                rotate_left
                ·simp only [Act.put, List.setIfInBounds_toArray, List.set_cons_zero, List.set_cons_succ, i64_w, i32_w]
                 rfl
                refine pure_ (i := 8) (N := some 77) (v := ?_) (a' := ?_) #[true, true, true, true, false, true, true, true, true, false, false] rfl rfl (any_of HT_.out (by kernel_rfl)) (fun _ _ _ h => h) (Or.inl ⟨by rfl, ?_⟩) ?_ ?_
                rotate_left
                ·intro w'
                 go_simp
                 with_reducible rfl
                rotate_left
                ·simp only [Act.put, List.setIfInBounds_toArray, List.set_cons_zero, List.set_cons_succ, i64_w, i32_w]
                 rfl
                refine take_ (i := 4) (N := some 73) (v := ?_) (a' := ?_) #[true, true, true, true, true, true, true, true, true, false, false] rfl rfl (take_ofW HT_.out HW_.out (by kernel_rfl)) (fun _ _ _ h => h) (Or.inl ⟨by rfl, ?_⟩) hHeld ?_ ?_
                rotate_left
                ·rintro w' ⟨s0, s1, s2, s3, s4, s5, s6, s7, s8, s9⟩
                 try simp only [Int.toNat_natCast] at s0 s1 s2 s3 s4 s5 s6 s7 s8 s9
                 go_simp
                 with_reducible rfl
                rotate_left
                ·simp only [Act.put, List.setIfInBounds_toArray, List.set_cons_zero, List.set_cons_succ, i64_w, i32_w]
                 rfl
                refine take_ (i := 9) (N := some 78) (v := ?_) (a' := ?_) #[true, true, true, true, true, true, true, true, true, true, false] rfl rfl (take_ofW HT_.out HW_.out (by kernel_rfl)) (fun _ _ _ h => h) (Or.inl ⟨by rfl, ?_⟩) hHeld ?_ ?_
                rotate_left
                ·rintro w' ⟨s0, s1, s2, s3, s4, s5, s6, s7, s8, s9⟩
                 try simp only [Int.toNat_natCast] at s0 s1 s2 s3 s4 s5 s6 s7 s8 s9
                 go_simp
                 with_reducible rfl
                rotate_left
                ·simp only [Act.put, List.setIfInBounds_toArray, List.set_cons_zero, List.set_cons_succ, i64_w, i32_w]
                 rfl
                refine pure_ (i := 10) (N := some 79) (v := ?_) (a' := ?_) #[true, true, true, true, true, true, true, true, true, true, true] rfl rfl (any_of HT_.out (by kernel_rfl)) (fun _ _ _ h => h) (Or.inl ⟨by rfl, ?_⟩) ?_ ?_
                rotate_left
                ·intro w'
                 go_simp
                 with_reducible rfl
                rotate_left
                ·simp only [Act.put, List.setIfInBounds_toArray, List.set_cons_zero, List.set_cons_succ, i64_w, i32_w]
                 rfl
                refine done_ (done_of HT_.out (by kernel_rfl)) ?_
                go_upto_if 79 with (fail)
                go_cut [12] (fun v12 wc => ∃ (kq : Nat) (x12_43 : List (S48)), Aside0 (treemergeref31_List.j3 kq l2 l3 t319 t322 x12_43 x13_2 t328 = some (r1, r2)) ∧ Aside0 (kq ≤ kj32) ∧ Aside0 (Kd.N k70 70 wc w.heap.size (fun k_ => some k_ ≠ ((.slice (some ad340) t322.length co35) : Value).ownBlock ∧ some k_ ≠ (v12 : Value).ownBlock ∧ k_ ≠ gb317 ∧ k_ ≠ gb318) (.slice (some ad339) t319.length co34) t319) ∧ Aside0 (Kd.N k70 70 wc w.heap.size (fun k_ => some k_ ≠ ((.slice (some ad339) t319.length co34) : Value).ownBlock ∧ some k_ ≠ (v12 : Value).ownBlock ∧ k_ ≠ gb317 ∧ k_ ≠ gb318) (.slice (some ad340) t322.length co35) t322) ∧ Aside0 (Kd.R k48 48 wc w.heap.size (fun _ => True) v12 x12_43) ∧ Aside0 (wc.heap[gb317]? = some (.cells #[.int .i64 a0_0, .string a0_1, (.slice A0_2 l0_2.length c0_2), (.slice A0_3 l0_3.length c0_3)] 25 (0, 0))) ∧ Aside0 (wc.heap[gb318]? = some (.cells #[.int .i64 a1_0, .string a1_1, (.slice A1_2 l1_2.length c1_2), (.slice A1_3 l1_3.length c1_3)] 25 (0, 0))) ∧ Aside0 (Kd.C Kd.string wc A339_3 ((rd_T70 t319 x13_2).f3).length ((rd_T70 t319 x13_2).f3)) ∧ Aside0 (Kd.C (Kd.int .i64) wc A339_4 ((rd_T70 t319 x13_2).f4).length ((rd_T70 t319 x13_2).f4)) ∧ Aside0 (Kd.C Kd.string wc A340_3 ((rd_T70 t322 t328).f3).length ((rd_T70 t322 t328).f3)) ∧ Aside0 (Kd.C (Kd.int .i64) wc A340_4 ((rd_T70 t322 t328).f4).length ((rd_T70 t322 t328).f4)) ∧ Aside0 (Below w.heap.size w wc))
                case first =>
                 have H := HC44.out
                 clear HC44
                 by_cases c46 : ((rd_T70 t319 x13_2).f2).toList = ((rd_T70 t322 t328).f2).toList
                 ·rw [if_pos c46] at H
                  have c46b0 : (((rd_T70 t319 x13_2).f2).toList == ((rd_T70 t322 t328).f2).toList) = true := beq_iff_eq.mpr c46
                  have c46b1 : (((rd_T70 t319 x13_2).f2).toList != ((rd_T70 t322 t328).f2).toList) = false := bne_eq_false_iff_eq.mpr c46
                  clear c46
                  (first | rw [c46b0] | (simp only [i64_w, i32_w]; rw [c46b0]) | skip)
                  have H' := Aside0.mk H
                  clear H
                  go_wp2
                  go_meet
                  case rel => exact ⟨_, (x12_32), H', ⟨by have := HJ6.out; have := HK2.out; have := HJ32.out; first | omega | exact Nat.le_refl _⟩, ⟨by (with_reducible repeat (first | apply Kd.N_alloc | apply Kd.N_drewN | apply Kd.N_drew)); exact HO_10.out⟩, ⟨by (with_reducible repeat (first | apply Kd.N_alloc | apply Kd.N_drewN | apply Kd.N_drew)); exact HO_11.out⟩, ⟨RX HO_12.out⟩, ⟨by (with_reducible repeat (first | refine blk_drewN ?_ _ | refine blk_drew ?_ | refine blk_alloc ?_ _)); exact BK317.out⟩, ⟨by (with_reducible repeat (first | refine blk_drewN ?_ _ | refine blk_drew ?_ | refine blk_alloc ?_ _)); exact BK318.out⟩, ⟨by repeat (first | (with_reducible exact HR339_3.out) | (with_reducible refine Kd.C_alloc ?_ _) | (with_reducible refine Kd.C_drewN ?_ _) | (with_reducible refine Kd.C_drew ?_) | exact HR339_3.out)⟩, ⟨by repeat (first | (with_reducible exact HR339_4.out) | (with_reducible refine Kd.C_alloc ?_ _) | (with_reducible refine Kd.C_drewN ?_ _) | (with_reducible refine Kd.C_drew ?_) | exact HR339_4.out)⟩, ⟨by repeat (first | (with_reducible exact HR340_3.out) | (with_reducible refine Kd.C_alloc ?_ _) | (with_reducible refine Kd.C_drewN ?_ _) | (with_reducible refine Kd.C_drew ?_) | exact HR340_3.out)⟩, ⟨by repeat (first | (with_reducible exact HR340_4.out) | (with_reducible refine Kd.C_alloc ?_ _) | (with_reducible refine Kd.C_drewN ?_ _) | (with_reducible refine Kd.C_drew ?_) | exact HR340_4.out)⟩, ⟨by repeat (first | (with_reducible first | exact HB.out | apply below_alloc | apply pw_below_drewN | apply below_drew1 | refine below_set ?_ GE317.out | refine below_set ?_ GE318.out) | exact HB.out)⟩⟩
                 ·rw [if_neg c46] at H
                  have c46b0 : (((rd_T70 t319 x13_2).f2).toList == ((rd_T70 t322 t328).f2).toList) = false := beq_eq_false_iff_ne.mpr c46
                  have c46b1 : (((rd_T70 t319 x13_2).f2).toList != ((rd_T70 t322 t328).f2).toList) = true := bne_iff_ne.mpr c46
                  (first | rw [c46b0] | (simp only [i64_w, i32_w]; rw [c46b0]) | skip)
                  by_cases c47 : x13_2 < (l2.length : Int)
                  ·rw [if_pos c47] at H
                   have c47b0 : decide (x13_2 < (l2.length : Int)) = true := decide_eq_true c47
                   clear c47
                   replace H := Option.bind_eq_some_iff.mp H
                   obtain ⟨t342, A480, H⟩ := H
                   have A48 := Aside0.mk A480
                   clear A480
                   have H' := Aside0.mk H
                   clear H
                   have p341 : 0 ≤ (x13_2 : Int) := of_decide_eq_true AX
                   have q341 : x13_2 < (l2.length : Int) := of_decide_eq_true AX
                   obtain ⟨ad341, e341, hx341_0⟩ := Kd.at_int HR2.out x13_2 p341 q341
                   obtain rfl : ad327 = ad341 := (by injection e341)
                   replace hx341_0 := (HB.out.cell (World.block_lt_of_cell? w _ hx341_0)).trans hx341_0
                   replace p341 := eq_true p341
                   replace q341 := eq_true q341
                   obtain ⟨Ao49, co49, eo49⟩ := Kd.R_slice HO_12.out
                   subst eo49
                   go_wp2_with (first | ((with_reducible refine gate_callee (f := 33) rfl ?_); refine goesL_ (some 86) rfl rfl Try.func33 (by kernel_rfl) rfl #[.slice Ao49 x12_32.length co49, .agg #[.int .i64 (rd l2 x13_2), .int .i64 4]] rfl MX ?_; (with_reducible refine (treemergeref31_Insert.calls kj32 _ _ x12_32 (rd l2 x13_2) 4 t342 _ ?side1 ?side2 A48.out).mono ?_); (case side1 => exact CX ((Kd.R_reads' HO_12.out).2.2)); (case side2 => exact (Kd.R_reads' HO_12.out).2.1); rintro e w50 ⟨v343, rfl, ho0, hb⟩; refine ⟨_, rfl, ?_⟩; have n0_ := Aside0.mk (Kd.N_elder' (by (with_reducible repeat (first | apply Kd.N_alloc | apply Kd.N_drewN | apply Kd.N_drew)); exact HO_10.out) (Kd.R_base ho0) hb); have n1_ := Aside0.mk (Kd.N_elder' (by (with_reducible repeat (first | apply Kd.N_alloc | apply Kd.N_drewN | apply Kd.N_drew)); exact HO_11.out) (Kd.R_base ho0) hb); have n2_ := Aside0.mk (Kd.R_elder' (RX HO_12.out) (Kd.R_base ho0) hb); have n3_ := Aside0.mk (Kd.V_elder' (by (with_reducible repeat (first | apply Kd.V_alloc | apply Kd.V_drewN | apply Kd.V_drew)); exact HL339_3.out) (Kd.R_base ho0) hb); have n4_ := Aside0.mk (Kd.V_elder' (by (with_reducible repeat (first | apply Kd.V_alloc | apply Kd.V_drewN | apply Kd.V_drew)); exact HL339_4.out) (Kd.R_base ho0) hb); have n5_ := Aside0.mk (Kd.V_elder' (by (with_reducible repeat (first | apply Kd.V_alloc | apply Kd.V_drewN | apply Kd.V_drew)); exact HL340_3.out) (Kd.R_base ho0) hb); have n6_ := Aside0.mk (Kd.V_elder' (by (with_reducible repeat (first | apply Kd.V_alloc | apply Kd.V_drewN | apply Kd.V_drew)); exact HL340_4.out) (Kd.R_base ho0) hb); have n7_ := Aside0.mk (Kd.R_lower (Kd.R_new' ho0 (Kd.R_lt (RX HO_12.out))) (below_size (by repeat (first | (with_reducible first | exact HB.out | apply below_alloc | apply pw_below_drewN | apply below_drew1 | refine below_set ?_ GE317.out | refine below_set ?_ GE318.out) | exact HB.out)))); have n8_ := Aside0.mk (blk_below (g := gb317) (o := .cells #[.int .i64 a0_0, .string a0_1, .slice A0_2 l0_2.length c0_2, .slice A0_3 l0_3.length c0_3] 25 (0, 0)) (by (with_reducible repeat (first | refine blk_drewN ?_ _ | refine blk_drew ?_ | refine blk_alloc ?_ _)); exact BK317.out) hb); have n9_ := Aside0.mk (blk_below (g := gb318) (o := .cells #[.int .i64 a1_0, .string a1_1, .slice A1_2 l1_2.length c1_2, .slice A1_3 l1_3.length c1_3] 25 (0, 0)) (by (with_reducible repeat (first | refine blk_drewN ?_ _ | refine blk_drew ?_ | refine blk_alloc ?_ _)); exact BK318.out) hb); (first | (with_reducible have n10_ := Aside0.mk (Kd.C_below HR339_3.out hb)) | (with_reducible have n10_ := Aside0.mk (Kd.C_below (Kd.C_drewN HR339_3.out _) hb)) | have n10_ := Aside0.mk (Kd.C_below (by repeat (first | (with_reducible exact HR339_3.out) | (with_reducible refine Kd.C_alloc ?_ _) | (with_reducible refine Kd.C_drewN ?_ _) | (with_reducible refine Kd.C_drew ?_) | exact HR339_3.out)) hb)); (first | (with_reducible have n11_ := Aside0.mk (Kd.C_below HR339_4.out hb)) | (with_reducible have n11_ := Aside0.mk (Kd.C_below (Kd.C_drewN HR339_4.out _) hb)) | have n11_ := Aside0.mk (Kd.C_below (by repeat (first | (with_reducible exact HR339_4.out) | (with_reducible refine Kd.C_alloc ?_ _) | (with_reducible refine Kd.C_drewN ?_ _) | (with_reducible refine Kd.C_drew ?_) | exact HR339_4.out)) hb)); (first | (with_reducible have n12_ := Aside0.mk (Kd.C_below HR340_3.out hb)) | (with_reducible have n12_ := Aside0.mk (Kd.C_below (Kd.C_drewN HR340_3.out _) hb)) | have n12_ := Aside0.mk (Kd.C_below (by repeat (first | (with_reducible exact HR340_3.out) | (with_reducible refine Kd.C_alloc ?_ _) | (with_reducible refine Kd.C_drewN ?_ _) | (with_reducible refine Kd.C_drew ?_) | exact HR340_3.out)) hb)); (first | (with_reducible have n13_ := Aside0.mk (Kd.C_below HR340_4.out hb)) | (with_reducible have n13_ := Aside0.mk (Kd.C_below (Kd.C_drewN HR340_4.out _) hb)) | have n13_ := Aside0.mk (Kd.C_below (by repeat (first | (with_reducible exact HR340_4.out) | (with_reducible refine Kd.C_alloc ?_ _) | (with_reducible refine Kd.C_drewN ?_ _) | (with_reducible refine Kd.C_drew ?_) | exact HR340_4.out)) hb)); have n14_ := Aside0.mk (below_step (by repeat (first | (with_reducible first | exact HB.out | apply below_alloc | apply pw_below_drewN | apply below_drew1 | refine below_set ?_ GE317.out | refine below_set ?_ GE318.out) | exact HB.out)) hb); clear HO_10; clear HO_11; clear HO_12; clear HL339_3; clear HL339_4; clear HL340_3; clear HL340_4; clear BK317; clear BK318; clear HR339_3; clear HR339_4; clear HR340_3; clear HR340_4; clear HB; have HO_10 := n0_; have HO_11 := n1_; have HO_12 := n2_; have HL339_3 := n3_; have HL339_4 := n4_; have HL340_3 := n5_; have HL340_4 := n6_; have HO344 := n7_; have BK317 := n8_; have BK318 := n9_; have HR339_3 := n10_; have HR339_4 := n11_; have HR340_3 := n12_; have HR340_4 := n13_; have HB := n14_; clear n0_ n1_ n2_ n3_ n4_ n5_ n6_ n7_ n8_ n9_ n10_ n11_ n12_ n13_ n14_; (try clear hb); (try clear hb2); (try clear hk); (try clear hi); (try clear ho0)))
                   go_meet
                   case rel => exact ⟨_, (t342), H', ⟨by have := HJ6.out; have := HK2.out; have := HJ32.out; first | omega | exact Nat.le_refl _⟩, ⟨by (with_reducible repeat (first | apply Kd.N_alloc | apply Kd.N_drewN | apply Kd.N_drew)); exact Kd.N_mono HO_10.out (fun _ hk => ⟨hk.1.1, ⟨hk.2, ⟨hk.1.2.2.1, hk.1.2.2.2⟩⟩⟩)⟩, ⟨by (with_reducible repeat (first | apply Kd.N_alloc | apply Kd.N_drewN | apply Kd.N_drew)); exact Kd.N_mono HO_11.out (fun _ hk => ⟨hk.1.1, ⟨hk.2, ⟨hk.1.2.2.1, hk.1.2.2.2⟩⟩⟩)⟩, ⟨by (with_reducible repeat (first | apply Kd.R_alloc | apply Kd.R_drewN | apply Kd.R_drew)); exact Kd.R_mono HO344.out (fun _ hk => trivial)⟩, ⟨by (with_reducible repeat (first | refine blk_drewN ?_ _ | refine blk_drew ?_ | refine blk_alloc ?_ _)); exact BK317.out⟩, ⟨by (with_reducible repeat (first | refine blk_drewN ?_ _ | refine blk_drew ?_ | refine blk_alloc ?_ _)); exact BK318.out⟩, ⟨by repeat (first | (with_reducible exact HR339_3.out) | (with_reducible refine Kd.C_alloc ?_ _) | (with_reducible refine Kd.C_drewN ?_ _) | (with_reducible refine Kd.C_drew ?_) | exact HR339_3.out)⟩, ⟨by repeat (first | (with_reducible exact HR339_4.out) | (with_reducible refine Kd.C_alloc ?_ _) | (with_reducible refine Kd.C_drewN ?_ _) | (with_reducible refine Kd.C_drew ?_) | exact HR339_4.out)⟩, ⟨by repeat (first | (with_reducible exact HR340_3.out) | (with_reducible refine Kd.C_alloc ?_ _) | (with_reducible refine Kd.C_drewN ?_ _) | (with_reducible refine Kd.C_drew ?_) | exact HR340_3.out)⟩, ⟨by repeat (first | (with_reducible exact HR340_4.out) | (with_reducible refine Kd.C_alloc ?_ _) | (with_reducible refine Kd.C_drewN ?_ _) | (with_reducible refine Kd.C_drew ?_) | exact HR340_4.out)⟩, ⟨by repeat (first | (with_reducible first | exact HB.out | apply below_alloc | apply pw_below_drewN | apply below_drew1 | refine below_set ?_ GE317.out | refine below_set ?_ GE318.out) | exact HB.out)⟩⟩
                  ·rw [if_neg c47] at H
                   exact absurd H (by simp)
                case rest =>
                 clear HC44
                 try clear c1
                 try clear c2
                 try clear p2
                 try clear c3
                 try clear p3
                 try clear q3
                 try clear hx3
                 try clear c4
                 try clear p6
                 try clear c10
                 try clear c11
                 try clear c16
                 try clear c21
                 try clear c22
                 try clear c22b0
                 try clear c23
                 try clear c23b0
                 try clear c24
                 try clear c24b0
                 try clear c26
                 try clear c26b0
                 try clear c30
                 try clear c31
                 try clear c32
                 try clear p32
                 try clear q32
                 try clear hx32
                 try clear c33
                 try clear p33
                 try clear q33
                 try clear hx33
                 try clear c34
                 try clear p34
                 try clear q34
                 try clear hx34
                 try clear c36
                 try clear c36b0
                 try clear c36b1
                 try clear c40
                 try clear c40b0
                 try clear c41
                 try clear c41b0
                 try clear c42
                 try clear c42b0
                 try clear c43
                 try clear c43b0
                 try clear c46
                 try clear c46b0
                 try clear c46b1
                 try clear c47
                 try clear c47b0
                 try clear hcz11_0
                 try clear hcz11_1
                 try clear hcz11_2
                 try clear hcz11_3
                 try clear hcz13_0
                 try clear hcz13_1
                 try clear hcz13_2
                 try clear hcz13_3
                 try clear hfz11_0
                 try clear hfz11_1
                 try clear hfz11_2
                 try clear hfz11_3
                 try clear hfz13_0
                 try clear hfz13_1
                 try clear hfz13_2
                 try clear hfz13_3
                 try clear hx327_0
                 try clear hx329_0
                 try clear hx335_0
                 try clear hx339_0
                 try clear hx339_1
                 try clear hx339_2
                 try clear hx339_3
                 try clear hx339_4
                 try clear hx340_0
                 try clear hx340_1
                 try clear hx340_2
                 try clear hx340_3
                 try clear hx340_4
                 try clear hx341_0
                 try clear p2
                 try clear p3
                 try clear p32
                 try clear p327
                 try clear p329
                 try clear p33
                 try clear p335
                 try clear p339
                 try clear p340
                 try clear p341
                 try clear p6
                 try clear q3
                 try clear q32
                 try clear q327
                 try clear q329
                 try clear q33
                 try clear q335
                 try clear q339
                 try clear q340
                 try clear q341
                 obtain ⟨kq, x12_43, HA, HJ43, HO_10, HO_11, HO_12, BK317, BK318, HR339_3, HR339_4, HR340_3, HR340_4, HB⟩ := hcut
                 cases kq with
                 | zero => exact absurd HA.out (by simp [treemergeref31_List.j3])
                 | succ kj43 =>
                  have H := HA.out
                  clear HA
                  simp only [treemergeref31_List.j3] at H
                  by_cases c51 : 0 ≤ x13_2
                  ·rw [if_pos c51] at H
                   have c51b0 : decide (0 ≤ x13_2) = true := decide_eq_true c51
                   clear c51
                   by_cases c52 : x13_2 < (t319.length : Int)
                   ·rw [if_pos c52] at H
                    have c52b0 : decide (x13_2 < (t319.length : Int)) = true := decide_eq_true c52
                    clear c52
                    by_cases c53 : 0 ≤ t328
                    ·rw [if_pos c53] at H
                     have c53b0 : decide (0 ≤ t328) = true := decide_eq_true c53
                     clear c53
                     by_cases c54 : t328 < (t322.length : Int)
                     ·rw [if_pos c54] at H
                      have c54b0 : decide (t328 < (t322.length : Int)) = true := decide_eq_true c54
                      clear c54
                      replace H := Option.bind_eq_some_iff.mp H
                      obtain ⟨t347, A550, H⟩ := H
                      have A55 := Aside0.mk A550
                      clear A550
                      have HC56 := Aside0.mk H
                      clear H
                      try go_wp2
                      have n0_ := Aside0.mk (Kd.N_drew HO_10.out)
                      have n1_ := Aside0.mk (Kd.N_drew HO_11.out)
                      have n2_ := Aside0.mk (Kd.R_drew HO_12.out)
                      have n3_ := Aside0.mk (blk_drew BK317.out)
                      have n4_ := Aside0.mk (blk_drew BK318.out)
                      have n5_ := Aside0.mk (Kd.C_drew HR339_3.out)
                      have n6_ := Aside0.mk (Kd.C_drew HR339_4.out)
                      have n7_ := Aside0.mk (Kd.C_drew HR340_3.out)
                      have n8_ := Aside0.mk (Kd.C_drew HR340_4.out)
                      have n9_ := Aside0.mk (below_drew1 HB.out)
                      clear HO_10
                      clear HO_11
                      clear HO_12
                      clear BK317
                      clear BK318
                      clear HR339_3
                      clear HR339_4
                      clear HR340_3
                      clear HR340_4
                      clear HB
                      have HO_10 := n0_
                      have HO_11 := n1_
                      have HO_12 := n2_
                      have BK317 := n3_
                      have BK318 := n4_
                      have HR339_3 := n5_
                      have HR339_4 := n6_
                      have HR340_3 := n7_
                      have HR340_4 := n8_
                      have HB := n9_
                      clear n0_ n1_ n2_ n3_ n4_ n5_ n6_ n7_ n8_ n9_
                      have p345 : 0 ≤ (x13_2 : Int) := of_decide_eq_true AX
                      have q345 : x13_2 < (t319.length : Int) := of_decide_eq_true AX
                      obtain ⟨ad345, A345_3, c345_3, A345_4, c345_4, e345, hx345_0, hx345_1, hx345_2, hx345_3, hx345_4, hl345_3, hi345_3, hl345_4, hi345_4⟩ := at_T70 (Kd.N_reads' HO_10.out).2.2 x13_2 p345 q345
                      obtain rfl : ad339 = ad345 := (by injection e345)
                      obtain ⟨ce345, hce345, hMe345, hcc345⟩ := Kd.N_get HO_10.out z70 x13_2 p345 (by first | exact q345 | exact of_decide_eq_true AX | (have e_ := (Kd.N_reads' HO_10.out).1; omega))
                      obtain ⟨ua345_3, uc345_3, ua345_4, uc345_4, rfl, ul345_3, ge345_3, ul345_4, ge345_4⟩ := k70_openF hMe345
                      have hv345_3 := hcc345 3 _ rfl
                      rw [add_field _ _ 3 (by omega)] at hv345_3
                      replace hv345_3 := Option.some.inj (hv345_3.symm.trans hx345_3)
                      injection hv345_3 with hva_ hvn_ hvc_
                      rw [hva_] at ge345_3
                      rw [hvc_] at ul345_3
                      have HL345_3 := Aside0.mk (show Kd.V Kd.string 9 _ w.heap.size _ _ ((rd_T70 t319 x13_2).f3) from Kd.V_mk ul345_3 ge345_3)
                      clear hva_ hvn_ hvc_ ge345_3 ul345_3
                      have hv345_4 := hcc345 4 _ rfl
                      rw [add_field _ _ 4 (by omega)] at hv345_4
                      replace hv345_4 := Option.some.inj (hv345_4.symm.trans hx345_4)
                      injection hv345_4 with hva_ hvn_ hvc_
                      rw [hva_] at ge345_4
                      rw [hvc_] at ul345_4
                      have HL345_4 := Aside0.mk (show Kd.V (Kd.int .i64) 3 _ w.heap.size _ _ ((rd_T70 t319 x13_2).f4) from Kd.V_mk ul345_4 ge345_4)
                      clear hva_ hvn_ hvc_ ge345_4 ul345_4
                      clear hcc345 hce345
                      have HR345_3 := Aside0.mk hi345_3
                      have HC345_3 := Aside0.mk hl345_3
                      clear hi345_3 hl345_3
                      have HR345_4 := Aside0.mk hi345_4
                      have HC345_4 := Aside0.mk hl345_4
                      clear hi345_4 hl345_4
                      replace p345 := eq_true p345
                      replace q345 := eq_true q345
                      have p346 : 0 ≤ (t328 : Int) := of_decide_eq_true AX
                      have q346 : t328 < (t322.length : Int) := of_decide_eq_true AX
                      obtain ⟨ad346, A346_3, c346_3, A346_4, c346_4, e346, hx346_0, hx346_1, hx346_2, hx346_3, hx346_4, hl346_3, hi346_3, hl346_4, hi346_4⟩ := at_T70 (Kd.N_reads' HO_11.out).2.2 t328 p346 q346
                      obtain rfl : ad340 = ad346 := (by injection e346)
                      obtain ⟨ce346, hce346, hMe346, hcc346⟩ := Kd.N_get HO_11.out z70 t328 p346 (by first | exact q346 | exact of_decide_eq_true AX | (have e_ := (Kd.N_reads' HO_11.out).1; omega))
                      obtain ⟨ua346_3, uc346_3, ua346_4, uc346_4, rfl, ul346_3, ge346_3, ul346_4, ge346_4⟩ := k70_openF hMe346
                      have hv346_3 := hcc346 3 _ rfl
                      rw [add_field _ _ 3 (by omega)] at hv346_3
                      replace hv346_3 := Option.some.inj (hv346_3.symm.trans hx346_3)
                      injection hv346_3 with hva_ hvn_ hvc_
                      rw [hva_] at ge346_3
                      rw [hvc_] at ul346_3
                      have HL346_3 := Aside0.mk (show Kd.V Kd.string 9 _ w.heap.size _ _ ((rd_T70 t322 t328).f3) from Kd.V_mk ul346_3 ge346_3)
                      clear hva_ hvn_ hvc_ ge346_3 ul346_3
                      have hv346_4 := hcc346 4 _ rfl
                      rw [add_field _ _ 4 (by omega)] at hv346_4
                      replace hv346_4 := Option.some.inj (hv346_4.symm.trans hx346_4)
                      injection hv346_4 with hva_ hvn_ hvc_
                      rw [hva_] at ge346_4
                      rw [hvc_] at ul346_4
                      have HL346_4 := Aside0.mk (show Kd.V (Kd.int .i64) 3 _ w.heap.size _ _ ((rd_T70 t322 t328).f4) from Kd.V_mk ul346_4 ge346_4)
                      clear hva_ hvn_ hvc_ ge346_4 ul346_4
                      clear hcc346 hce346
                      have HR346_3 := Aside0.mk hi346_3
                      have HC346_3 := Aside0.mk hl346_3
                      clear hi346_3 hl346_3
                      have HR346_4 := Aside0.mk hi346_4
                      have HC346_4 := Aside0.mk hl346_4
                      clear hi346_4 hl346_4
                      replace p346 := eq_true p346
                      replace q346 := eq_true q346
                      refine start_ (n := 12) (S := fun w' => w'.cell? (ad339.add ((x13_2).toNat * 5)) = some (.int .i64 ((rd_T70 t319 x13_2).f0)) ∧ w'.cell? ⟨(ad339.add ((x13_2).toNat * 5)).block, (ad339.add ((x13_2).toNat * 5)).off + 1, none⟩ = some (.int .i64 ((rd_T70 t319 x13_2).f1)) ∧ w'.cell? ⟨(ad339.add ((x13_2).toNat * 5)).block, (ad339.add ((x13_2).toNat * 5)).off + 2, none⟩ = some (.string ((rd_T70 t319 x13_2).f2)) ∧ w'.cell? ⟨(ad339.add ((x13_2).toNat * 5)).block, (ad339.add ((x13_2).toNat * 5)).off + 3, none⟩ = some (.slice _ ((rd_T70 t319 x13_2).f3).length _) ∧ w'.cell? ⟨(ad339.add ((x13_2).toNat * 5)).block, (ad339.add ((x13_2).toNat * 5)).off + 4, none⟩ = some (.slice _ ((rd_T70 t319 x13_2).f4).length _) ∧ w'.cell? (ad340.add ((t328).toNat * 5)) = some (.int .i64 ((rd_T70 t322 t328).f0)) ∧ w'.cell? ⟨(ad340.add ((t328).toNat * 5)).block, (ad340.add ((t328).toNat * 5)).off + 1, none⟩ = some (.int .i64 ((rd_T70 t322 t328).f1)) ∧ w'.cell? ⟨(ad340.add ((t328).toNat * 5)).block, (ad340.add ((t328).toNat * 5)).off + 2, none⟩ = some (.string ((rd_T70 t322 t328).f2)) ∧ w'.cell? ⟨(ad340.add ((t328).toNat * 5)).block, (ad340.add ((t328).toNat * 5)).off + 3, none⟩ = some (.slice _ ((rd_T70 t322 t328).f3).length _) ∧ w'.cell? ⟨(ad340.add ((t328).toNat * 5)).block, (ad340.add ((t328).toNat * 5)).off + 4, none⟩ = some (.slice _ ((rd_T70 t322 t328).f4).length _)) (ds := []) #[false, false, false, false, false, false, false, false, false, false, false, false] (by kernel_rfl) rfl rfl ⟨hx345_0, hx345_1, hx345_2, hx345_3, hx345_4, hx346_0, hx346_1, hx346_2, hx346_3, hx346_4⟩ (fun hHeld => ?_); refine with_tabW treemergeref31_List.tab16 treemergeref31_List.bits16 (fun HT_ HW_ => ?_)
                      generalize wc.drew = w57 at HO_10 HO_11 HO_12 BK317 BK318 HR339_3 HR339_4 HR340_3 HR340_4 HB HL345_3 HL345_4 HL346_3 HL346_4 HR345_3 HR345_4 HR346_3 HR346_4 hx345_0 hx345_1 hx345_2 hx345_3 hx345_4 hx346_0 hx346_1 hx346_2 hx346_3 hx346_4 hHeld ⊢
                      refine pure_ (i := 0) (N := some 87) (v := ?_) (a' := ?_) #[true, false, false, false, false, false, false, false, false, false, false, false] rfl rfl (any_of HT_.out (by kernel_rfl)) (fun _ _ _ h => h) (Or.inl ⟨by rfl, ?_⟩) ?_ ?_
                      rotate_left
                      ·intro w'
                       go_simp
                       with_reducible rfl
                      rotate_left
                      ·simp only [Act.put, List.setIfInBounds_toArray, List.set_cons_zero, List.set_cons_succ, i64_w, i32_w]
                       rfl
                      refine pure_ (i := 1) (N := some 88) (v := ?_) (a' := ?_) #[true, true, false, false, false, false, false, false, false, false, false, false] rfl rfl (any_of HT_.out (by kernel_rfl)) (fun _ _ _ h => h) (Or.inl ⟨by rfl, ?_⟩) ?_ ?_
                      rotate_left
                      ·intro w'
                       go_simp
                       with_reducible rfl
                      rotate_left
                      ·simp only [Act.put, List.setIfInBounds_toArray, List.set_cons_zero, List.set_cons_succ, i64_w, i32_w]
                       rfl
                      refine pure_ (i := 2) (N := some 89) (v := ?_) (a' := ?_) #[true, true, true, false, false, false, false, false, false, false, false, false] rfl rfl (any_of HT_.out (by kernel_rfl)) (fun _ _ _ h => h) (Or.inl ⟨by rfl, ?_⟩) ?_ ?_
                      rotate_left
                      ·intro w'
                       go_simp
                       with_reducible rfl
                      rotate_left
                      ·simp only [Act.put, List.setIfInBounds_toArray, List.set_cons_zero, List.set_cons_succ, i64_w, i32_w]
                       rfl
                      refine pure_ (i := 3) (N := some 90) (v := ?_) (a' := ?_) #[true, true, true, true, false, false, false, false, false, false, false, false] rfl rfl (any_of HT_.out (by kernel_rfl)) (fun _ _ _ h => h) (Or.inl ⟨by rfl, ?_⟩) ?_ ?_
                      rotate_left
                      ·intro w'
                       go_simp
                       with_reducible rfl
                      rotate_left
                      ·simp only [Act.put, List.setIfInBounds_toArray, List.set_cons_zero, List.set_cons_succ, i64_w, i32_w]
                       rfl
                      refine pure_ (i := 5) (N := some 92) (v := ?_) (a' := ?_) #[true, true, true, true, false, true, false, false, false, false, false, false] rfl rfl (any_of HT_.out (by kernel_rfl)) (fun _ _ _ h => h) (Or.inl ⟨by rfl, ?_⟩) ?_ ?_
                      rotate_left
                      ·intro w'
                       go_simp
                       with_reducible rfl
                      rotate_left
                      ·simp only [Act.put, List.setIfInBounds_toArray, List.set_cons_zero, List.set_cons_succ, i64_w, i32_w]
                       rfl
                      refine pure_ (i := 6) (N := some 93) (v := ?_) (a' := ?_) #[true, true, true, true, false, true, true, false, false, false, false, false] rfl rfl (any_of HT_.out (by kernel_rfl)) (fun _ _ _ h => h) (Or.inl ⟨by rfl, ?_⟩) ?_ ?_
                      rotate_left
                      ·intro w'
                       go_simp
                       with_reducible rfl
                      rotate_left
                      ·simp only [Act.put, List.setIfInBounds_toArray, List.set_cons_zero, List.set_cons_succ, i64_w, i32_w]
                       rfl
                      refine pure_ (i := 7) (N := some 94) (v := ?_) (a' := ?_) #[true, true, true, true, false, true, true, true, false, false, false, false] rfl rfl (any_of HT_.out (by kernel_rfl)) (fun _ _ _ h => h) (Or.inl ⟨by rfl, ?_⟩) ?_ ?_
                      rotate_left
                      ·intro w'
                       go_simp
                       with_reducible rfl
                      rotate_left
                      ·simp only [Act.put, List.setIfInBounds_toArray, List.set_cons_zero, List.set_cons_succ, i64_w, i32_w]
                       rfl
                      refine pure_ (i := 8) (N := some 95) (v := ?_) (a' := ?_) #[true, true, true, true, false, true, true, true, true, false, false, false] rfl rfl (any_of HT_.out (by kernel_rfl)) (fun _ _ _ h => h) (Or.inl ⟨by rfl, ?_⟩) ?_ ?_
                      rotate_left
                      ·intro w'
                       go_simp
                       with_reducible rfl
                      rotate_left
                      ·simp only [Act.put, List.setIfInBounds_toArray, List.set_cons_zero, List.set_cons_succ, i64_w, i32_w]
                       rfl
                      refine take_ (i := 4) (N := some 91) (v := ?_) (a' := ?_) #[true, true, true, true, true, true, true, true, true, false, false, false] rfl rfl (take_ofW HT_.out HW_.out (by kernel_rfl)) (fun _ _ _ h => h) (Or.inl ⟨by rfl, ?_⟩) hHeld ?_ ?_
                      rotate_left
                      ·rintro w' ⟨s0, s1, s2, s3, s4, s5, s6, s7, s8, s9⟩
                       try simp only [Int.toNat_natCast] at s0 s1 s2 s3 s4 s5 s6 s7 s8 s9
                       go_simp
                       with_reducible rfl
                      rotate_left
                      ·simp only [Act.put, List.setIfInBounds_toArray, List.set_cons_zero, List.set_cons_succ, i64_w, i32_w]
                       rfl
                      refine take_ (i := 9) (N := some 96) (v := ?_) (a' := ?_) #[true, true, true, true, true, true, true, true, true, true, false, false] rfl rfl (take_ofW HT_.out HW_.out (by kernel_rfl)) (fun _ _ _ h => h) (Or.inl ⟨by rfl, ?_⟩) hHeld ?_ ?_
                      rotate_left
                      ·rintro w' ⟨s0, s1, s2, s3, s4, s5, s6, s7, s8, s9⟩
                       try simp only [Int.toNat_natCast] at s0 s1 s2 s3 s4 s5 s6 s7 s8 s9
                       go_simp
                       with_reducible rfl
                      rotate_left
                      ·simp only [Act.put, List.setIfInBounds_toArray, List.set_cons_zero, List.set_cons_succ, i64_w, i32_w]
                       rfl
                      refine one_ (i := 10) (N := some 97) #[true, true, true, true, true, true, true, true, true, true, true, false] rfl rfl (one_of HT_.out (by kernel_rfl)) (by decide) (fun K hK => ?_)
                      refine goes_ Try.func35 (by kernel_rfl) rfl #[.slice A345_3 ((rd_T70 t319 x13_2).f3).length c345_3, .slice A346_3 ((rd_T70 t322 t328).f3).length c346_3] (by rfl) rfl rfl MX ?_
                      with_reducible refine (treemergeref31_sameGaps.calls kj43 _ _ ((rd_T70 t319 x13_2).f3) _ _ ((rd_T70 t322 t328).f3) t347 _ ?side1 ?side2 ?side3 ?side4 A55.out).mono ?_
                      (case side1 => repeat (first | exact (by repeat (first | (with_reducible exact HR345_3.out) | (with_reducible refine Kd.C_alloc ?_ _) | (with_reducible refine Kd.C_drewN ?_ _) | (with_reducible refine Kd.C_drew ?_) | exact HR345_3.out)) | (with_reducible refine Kd.C_alloc ?_ _) | (with_reducible refine Kd.C_drewN ?_ _) | (with_reducible refine Kd.C_drew ?_)))
                      (case side2 => exact HC345_3.out)
                      (case side3 => repeat (first | exact (by repeat (first | (with_reducible exact HR346_3.out) | (with_reducible refine Kd.C_alloc ?_ _) | (with_reducible refine Kd.C_drewN ?_ _) | (with_reducible refine Kd.C_drew ?_) | exact HR346_3.out)) | (with_reducible refine Kd.C_alloc ?_ _) | (with_reducible refine Kd.C_drewN ?_ _) | (with_reducible refine Kd.C_drew ?_)))
                      (case side4 => exact HC346_3.out)
                      rintro e w' ⟨rfl, ⟨nd, rfl⟩⟩
                      refine ⟨_, rfl, ?_⟩
                      refine hK.out _ _ ⟨hHeld.1, hHeld.2.1, hHeld.2.2.1, hHeld.2.2.2.1, hHeld.2.2.2.2.1, hHeld.2.2.2.2.2.1, hHeld.2.2.2.2.2.2.1, hHeld.2.2.2.2.2.2.2.1, hHeld.2.2.2.2.2.2.2.2.1, hHeld.2.2.2.2.2.2.2.2.2⟩ (fun hHeld => ?_)
                      clear hK K
                      refine norm_ (a' := ?_) ?_ ?_
                      rotate_left
                      ·show Act.put _ (some 97) _ = _
                       simp only [Act.put, List.setIfInBounds_toArray, List.set_cons_zero, List.set_cons_succ, i64_w, i32_w]
                       rfl
                      refine pure_ (i := 11) (N := some 98) (v := ?_) (a' := ?_) #[true, true, true, true, true, true, true, true, true, true, true, true] rfl rfl (any_of HT_.out (by kernel_rfl)) (fun _ _ _ h => h) (Or.inl ⟨by rfl, ?_⟩) ?_ ?_
                      rotate_left
                      ·intro w'
                       go_simp
                       with_reducible rfl
                      rotate_left
                      ·simp only [Act.put, List.setIfInBounds_toArray, List.set_cons_zero, List.set_cons_succ, i64_w, i32_w]
                       rfl
                      refine done_ (done_of HT_.out (by kernel_rfl)) ?_
                      go_upto_if 98 with (fail)
                      go_cut [12] (fun v12 wc => ∃ (kq : Nat) (x12_55 : List (S48)), Aside0 (treemergeref31_List.j4 kq l2 l3 t319 t322 x12_55 x13_2 t328 = some (r1, r2)) ∧ Aside0 (kq ≤ kj43) ∧ Aside0 (Kd.N k70 70 wc w.heap.size (fun k_ => some k_ ≠ ((.slice (some ad340) t322.length co35) : Value).ownBlock ∧ some k_ ≠ (v12 : Value).ownBlock ∧ k_ ≠ gb317 ∧ k_ ≠ gb318) (.slice (some ad339) t319.length co34) t319) ∧ Aside0 (Kd.N k70 70 wc w.heap.size (fun k_ => some k_ ≠ ((.slice (some ad339) t319.length co34) : Value).ownBlock ∧ some k_ ≠ (v12 : Value).ownBlock ∧ k_ ≠ gb317 ∧ k_ ≠ gb318) (.slice (some ad340) t322.length co35) t322) ∧ Aside0 (Kd.R k48 48 wc w.heap.size (fun _ => True) v12 x12_55) ∧ Aside0 (wc.heap[gb317]? = some (.cells #[.int .i64 a0_0, .string a0_1, (.slice A0_2 l0_2.length c0_2), (.slice A0_3 l0_3.length c0_3)] 25 (0, 0))) ∧ Aside0 (wc.heap[gb318]? = some (.cells #[.int .i64 a1_0, .string a1_1, (.slice A1_2 l1_2.length c1_2), (.slice A1_3 l1_3.length c1_3)] 25 (0, 0))) ∧ Aside0 (Kd.C Kd.string wc A339_3 ((rd_T70 t319 x13_2).f3).length ((rd_T70 t319 x13_2).f3)) ∧ Aside0 (Kd.C (Kd.int .i64) wc A339_4 ((rd_T70 t319 x13_2).f4).length ((rd_T70 t319 x13_2).f4)) ∧ Aside0 (Kd.C Kd.string wc A340_3 ((rd_T70 t322 t328).f3).length ((rd_T70 t322 t328).f3)) ∧ Aside0 (Kd.C (Kd.int .i64) wc A340_4 ((rd_T70 t322 t328).f4).length ((rd_T70 t322 t328).f4)) ∧ Aside0 (Kd.C Kd.string wc A345_3 ((rd_T70 t319 x13_2).f3).length ((rd_T70 t319 x13_2).f3)) ∧ Aside0 (Kd.C (Kd.int .i64) wc A345_4 ((rd_T70 t319 x13_2).f4).length ((rd_T70 t319 x13_2).f4)) ∧ Aside0 (Kd.C Kd.string wc A346_3 ((rd_T70 t322 t328).f3).length ((rd_T70 t322 t328).f3)) ∧ Aside0 (Kd.C (Kd.int .i64) wc A346_4 ((rd_T70 t322 t328).f4).length ((rd_T70 t322 t328).f4)) ∧ Aside0 (Below w.heap.size w wc))
                      case first =>
                       have H := HC56.out
                       clear HC56
                       by_cases c58 : t347 = true
                       ·subst c58
                        have H1 : (treemergeref31_List.j4 kj43 l2 l3 t319 t322 x12_43 x13_2 t328) = some (r1, r2) := by rw [if_pos rfl] at H; exact H
                        clear H
                        have H := H1
                        clear H1
                        have H' := Aside0.mk H
                        clear H
                        go_wp2
                        go_meet
                        case rel => exact ⟨_, (x12_43), H', ⟨by have := HJ6.out; have := HK2.out; have := HJ32.out; have := HJ43.out; first | omega | exact Nat.le_refl _⟩, ⟨by (with_reducible repeat (first | apply Kd.N_alloc | apply Kd.N_drewN | apply Kd.N_drew)); exact HO_10.out⟩, ⟨by (with_reducible repeat (first | apply Kd.N_alloc | apply Kd.N_drewN | apply Kd.N_drew)); exact HO_11.out⟩, ⟨RX HO_12.out⟩, ⟨by (with_reducible repeat (first | refine blk_drewN ?_ _ | refine blk_drew ?_ | refine blk_alloc ?_ _)); exact BK317.out⟩, ⟨by (with_reducible repeat (first | refine blk_drewN ?_ _ | refine blk_drew ?_ | refine blk_alloc ?_ _)); exact BK318.out⟩, ⟨by repeat (first | (with_reducible exact HR339_3.out) | (with_reducible refine Kd.C_alloc ?_ _) | (with_reducible refine Kd.C_drewN ?_ _) | (with_reducible refine Kd.C_drew ?_) | exact HR339_3.out)⟩, ⟨by repeat (first | (with_reducible exact HR339_4.out) | (with_reducible refine Kd.C_alloc ?_ _) | (with_reducible refine Kd.C_drewN ?_ _) | (with_reducible refine Kd.C_drew ?_) | exact HR339_4.out)⟩, ⟨by repeat (first | (with_reducible exact HR340_3.out) | (with_reducible refine Kd.C_alloc ?_ _) | (with_reducible refine Kd.C_drewN ?_ _) | (with_reducible refine Kd.C_drew ?_) | exact HR340_3.out)⟩, ⟨by repeat (first | (with_reducible exact HR340_4.out) | (with_reducible refine Kd.C_alloc ?_ _) | (with_reducible refine Kd.C_drewN ?_ _) | (with_reducible refine Kd.C_drew ?_) | exact HR340_4.out)⟩, ⟨by repeat (first | (with_reducible exact HR345_3.out) | (with_reducible refine Kd.C_alloc ?_ _) | (with_reducible refine Kd.C_drewN ?_ _) | (with_reducible refine Kd.C_drew ?_) | exact HR345_3.out)⟩, ⟨by repeat (first | (with_reducible exact HR345_4.out) | (with_reducible refine Kd.C_alloc ?_ _) | (with_reducible refine Kd.C_drewN ?_ _) | (with_reducible refine Kd.C_drew ?_) | exact HR345_4.out)⟩, ⟨by repeat (first | (with_reducible exact HR346_3.out) | (with_reducible refine Kd.C_alloc ?_ _) | (with_reducible refine Kd.C_drewN ?_ _) | (with_reducible refine Kd.C_drew ?_) | exact HR346_3.out)⟩, ⟨by repeat (first | (with_reducible exact HR346_4.out) | (with_reducible refine Kd.C_alloc ?_ _) | (with_reducible refine Kd.C_drewN ?_ _) | (with_reducible refine Kd.C_drew ?_) | exact HR346_4.out)⟩, ⟨by repeat (first | (with_reducible first | exact HB.out | apply below_alloc | apply pw_below_drewN | apply below_drew1 | refine below_set ?_ GE317.out | refine below_set ?_ GE318.out) | exact HB.out)⟩⟩
                       ·replace c58 := Bool.eq_false_iff.mpr c58
                        subst c58
                        have H1 : (if x13_2 < (l2.length : Int) then ((treemergeref31_Insert.f kj43 x12_43 (rd l2 x13_2) 5).bind fun t349 => (treemergeref31_List.j4 kj43 l2 l3 t319 t322 t349 x13_2 t328)) else (none)) = some (r1, r2) := by rw [if_neg (show ¬ (false = true) by decide)] at H; exact H
                        clear H
                        have H := H1
                        clear H1
                        by_cases c59 : x13_2 < (l2.length : Int)
                        ·rw [if_pos c59] at H
                         have c59b0 : decide (x13_2 < (l2.length : Int)) = true := decide_eq_true c59
                         clear c59
                         (first | rw [c59b0] | (simp only [i64_w, i32_w]; rw [c59b0]) | skip)
                         replace H := Option.bind_eq_some_iff.mp H
                         obtain ⟨t349, A600, H⟩ := H
                         have A60 := Aside0.mk A600
                         clear A600
                         have H' := Aside0.mk H
                         clear H
                         have p348 : 0 ≤ (x13_2 : Int) := of_decide_eq_true AX
                         have q348 : x13_2 < (l2.length : Int) := of_decide_eq_true AX
                         obtain ⟨ad348, e348, hx348_0⟩ := Kd.at_int HR2.out x13_2 p348 q348
                         obtain rfl : ad327 = ad348 := (by injection e348)
                         replace hx348_0 := (HB.out.cell (World.block_lt_of_cell? w _ hx348_0)).trans hx348_0
                         replace p348 := eq_true p348
                         replace q348 := eq_true q348
                         obtain ⟨Ao61, co61, eo61⟩ := Kd.R_slice HO_12.out
                         subst eo61
                         go_wp2_with (first | ((with_reducible refine gate_callee (f := 33) rfl ?_); refine goesL_ (some 105) rfl rfl Try.func33 (by kernel_rfl) rfl #[.slice Ao61 x12_43.length co61, .agg #[.int .i64 (rd l2 x13_2), .int .i64 5]] rfl MX ?_; (with_reducible refine (treemergeref31_Insert.calls kj43 _ _ x12_43 (rd l2 x13_2) 5 t349 _ ?side1 ?side2 A60.out).mono ?_); (case side1 => exact CX ((Kd.R_reads' HO_12.out).2.2)); (case side2 => exact (Kd.R_reads' HO_12.out).2.1); rintro e w62 ⟨v350, rfl, ho0, hb⟩; refine ⟨_, rfl, ?_⟩; have n0_ := Aside0.mk (Kd.N_elder' (by (with_reducible repeat (first | apply Kd.N_alloc | apply Kd.N_drewN | apply Kd.N_drew)); exact HO_10.out) (Kd.R_base ho0) hb); have n1_ := Aside0.mk (Kd.N_elder' (by (with_reducible repeat (first | apply Kd.N_alloc | apply Kd.N_drewN | apply Kd.N_drew)); exact HO_11.out) (Kd.R_base ho0) hb); have n2_ := Aside0.mk (Kd.R_elder' (RX HO_12.out) (Kd.R_base ho0) hb); have n3_ := Aside0.mk (Kd.V_elder' (by (with_reducible repeat (first | apply Kd.V_alloc | apply Kd.V_drewN | apply Kd.V_drew)); exact HL345_3.out) (Kd.R_base ho0) hb); have n4_ := Aside0.mk (Kd.V_elder' (by (with_reducible repeat (first | apply Kd.V_alloc | apply Kd.V_drewN | apply Kd.V_drew)); exact HL345_4.out) (Kd.R_base ho0) hb); have n5_ := Aside0.mk (Kd.V_elder' (by (with_reducible repeat (first | apply Kd.V_alloc | apply Kd.V_drewN | apply Kd.V_drew)); exact HL346_3.out) (Kd.R_base ho0) hb); have n6_ := Aside0.mk (Kd.V_elder' (by (with_reducible repeat (first | apply Kd.V_alloc | apply Kd.V_drewN | apply Kd.V_drew)); exact HL346_4.out) (Kd.R_base ho0) hb); have n7_ := Aside0.mk (Kd.R_lower (Kd.R_new' ho0 (Kd.R_lt (RX HO_12.out))) (below_size (by repeat (first | (with_reducible first | exact HB.out | apply below_alloc | apply pw_below_drewN | apply below_drew1 | refine below_set ?_ GE317.out | refine below_set ?_ GE318.out) | exact HB.out)))); have n8_ := Aside0.mk (blk_below (g := gb317) (o := .cells #[.int .i64 a0_0, .string a0_1, .slice A0_2 l0_2.length c0_2, .slice A0_3 l0_3.length c0_3] 25 (0, 0)) (by (with_reducible repeat (first | refine blk_drewN ?_ _ | refine blk_drew ?_ | refine blk_alloc ?_ _)); exact BK317.out) hb); have n9_ := Aside0.mk (blk_below (g := gb318) (o := .cells #[.int .i64 a1_0, .string a1_1, .slice A1_2 l1_2.length c1_2, .slice A1_3 l1_3.length c1_3] 25 (0, 0)) (by (with_reducible repeat (first | refine blk_drewN ?_ _ | refine blk_drew ?_ | refine blk_alloc ?_ _)); exact BK318.out) hb); (first | (with_reducible have n10_ := Aside0.mk (Kd.C_below HR339_3.out hb)) | (with_reducible have n10_ := Aside0.mk (Kd.C_below (Kd.C_drewN HR339_3.out _) hb)) | have n10_ := Aside0.mk (Kd.C_below (by repeat (first | (with_reducible exact HR339_3.out) | (with_reducible refine Kd.C_alloc ?_ _) | (with_reducible refine Kd.C_drewN ?_ _) | (with_reducible refine Kd.C_drew ?_) | exact HR339_3.out)) hb)); (first | (with_reducible have n11_ := Aside0.mk (Kd.C_below HR339_4.out hb)) | (with_reducible have n11_ := Aside0.mk (Kd.C_below (Kd.C_drewN HR339_4.out _) hb)) | have n11_ := Aside0.mk (Kd.C_below (by repeat (first | (with_reducible exact HR339_4.out) | (with_reducible refine Kd.C_alloc ?_ _) | (with_reducible refine Kd.C_drewN ?_ _) | (with_reducible refine Kd.C_drew ?_) | exact HR339_4.out)) hb)); (first | (with_reducible have n12_ := Aside0.mk (Kd.C_below HR340_3.out hb)) | (with_reducible have n12_ := Aside0.mk (Kd.C_below (Kd.C_drewN HR340_3.out _) hb)) | have n12_ := Aside0.mk (Kd.C_below (by repeat (first | (with_reducible exact HR340_3.out) | (with_reducible refine Kd.C_alloc ?_ _) | (with_reducible refine Kd.C_drewN ?_ _) | (with_reducible refine Kd.C_drew ?_) | exact HR340_3.out)) hb)); (first | (with_reducible have n13_ := Aside0.mk (Kd.C_below HR340_4.out hb)) | (with_reducible have n13_ := Aside0.mk (Kd.C_below (Kd.C_drewN HR340_4.out _) hb)) | have n13_ := Aside0.mk (Kd.C_below (by repeat (first | (with_reducible exact HR340_4.out) | (with_reducible refine Kd.C_alloc ?_ _) | (with_reducible refine Kd.C_drewN ?_ _) | (with_reducible refine Kd.C_drew ?_) | exact HR340_4.out)) hb)); (first | (with_reducible have n14_ := Aside0.mk (Kd.C_below HR345_3.out hb)) | (with_reducible have n14_ := Aside0.mk (Kd.C_below (Kd.C_drewN HR345_3.out _) hb)) | have n14_ := Aside0.mk (Kd.C_below (by repeat (first | (with_reducible exact HR345_3.out) | (with_reducible refine Kd.C_alloc ?_ _) | (with_reducible refine Kd.C_drewN ?_ _) | (with_reducible refine Kd.C_drew ?_) | exact HR345_3.out)) hb)); (first | (with_reducible have n15_ := Aside0.mk (Kd.C_below HR345_4.out hb)) | (with_reducible have n15_ := Aside0.mk (Kd.C_below (Kd.C_drewN HR345_4.out _) hb)) | have n15_ := Aside0.mk (Kd.C_below (by repeat (first | (with_reducible exact HR345_4.out) | (with_reducible refine Kd.C_alloc ?_ _) | (with_reducible refine Kd.C_drewN ?_ _) | (with_reducible refine Kd.C_drew ?_) | exact HR345_4.out)) hb)); (first | (with_reducible have n16_ := Aside0.mk (Kd.C_below HR346_3.out hb)) | (with_reducible have n16_ := Aside0.mk (Kd.C_below (Kd.C_drewN HR346_3.out _) hb)) | have n16_ := Aside0.mk (Kd.C_below (by repeat (first | (with_reducible exact HR346_3.out) | (with_reducible refine Kd.C_alloc ?_ _) | (with_reducible refine Kd.C_drewN ?_ _) | (with_reducible refine Kd.C_drew ?_) | exact HR346_3.out)) hb)); (first | (with_reducible have n17_ := Aside0.mk (Kd.C_below HR346_4.out hb)) | (with_reducible have n17_ := Aside0.mk (Kd.C_below (Kd.C_drewN HR346_4.out _) hb)) | have n17_ := Aside0.mk (Kd.C_below (by repeat (first | (with_reducible exact HR346_4.out) | (with_reducible refine Kd.C_alloc ?_ _) | (with_reducible refine Kd.C_drewN ?_ _) | (with_reducible refine Kd.C_drew ?_) | exact HR346_4.out)) hb)); have n18_ := Aside0.mk (below_step (by repeat (first | (with_reducible first | exact HB.out | apply below_alloc | apply pw_below_drewN | apply below_drew1 | refine below_set ?_ GE317.out | refine below_set ?_ GE318.out) | exact HB.out)) hb); clear HO_10; clear HO_11; clear HO_12; clear HL345_3; clear HL345_4; clear HL346_3; clear HL346_4; clear BK317; clear BK318; clear HR339_3; clear HR339_4; clear HR340_3; clear HR340_4; clear HR345_3; clear HR345_4; clear HR346_3; clear HR346_4; clear HB; have HO_10 := n0_; have HO_11 := n1_; have HO_12 := n2_; have HL345_3 := n3_; have HL345_4 := n4_; have HL346_3 := n5_; have HL346_4 := n6_; have HO351 := n7_; have BK317 := n8_; have BK318 := n9_; have HR339_3 := n10_; have HR339_4 := n11_; have HR340_3 := n12_; have HR340_4 := n13_; have HR345_3 := n14_; have HR345_4 := n15_; have HR346_3 := n16_; have HR346_4 := n17_; have HB := n18_; clear n0_ n1_ n2_ n3_ n4_ n5_ n6_ n7_ n8_ n9_ n10_ n11_ n12_ n13_ n14_ n15_ n16_ n17_ n18_; (try clear hb); (try clear hb2); (try clear hk); (try clear hi); (try clear ho0)))
                         go_meet
                         case rel => exact ⟨_, (t349), H', ⟨by have := HJ6.out; have := HK2.out; have := HJ32.out; have := HJ43.out; first | omega | exact Nat.le_refl _⟩, ⟨by (with_reducible repeat (first | apply Kd.N_alloc | apply Kd.N_drewN | apply Kd.N_drew)); exact Kd.N_mono HO_10.out (fun _ hk => ⟨hk.1.1, ⟨hk.2, ⟨hk.1.2.2.1, hk.1.2.2.2⟩⟩⟩)⟩, ⟨by (with_reducible repeat (first | apply Kd.N_alloc | apply Kd.N_drewN | apply Kd.N_drew)); exact Kd.N_mono HO_11.out (fun _ hk => ⟨hk.1.1, ⟨hk.2, ⟨hk.1.2.2.1, hk.1.2.2.2⟩⟩⟩)⟩, ⟨by (with_reducible repeat (first | apply Kd.R_alloc | apply Kd.R_drewN | apply Kd.R_drew)); exact Kd.R_mono HO351.out (fun _ hk => trivial)⟩, ⟨by (with_reducible repeat (first | refine blk_drewN ?_ _ | refine blk_drew ?_ | refine blk_alloc ?_ _)); exact BK317.out⟩, ⟨by (with_reducible repeat (first | refine blk_drewN ?_ _ | refine blk_drew ?_ | refine blk_alloc ?_ _)); exact BK318.out⟩, ⟨by repeat (first | (with_reducible exact HR339_3.out) | (with_reducible refine Kd.C_alloc ?_ _) | (with_reducible refine Kd.C_drewN ?_ _) | (with_reducible refine Kd.C_drew ?_) | exact HR339_3.out)⟩, ⟨by repeat (first | (with_reducible exact HR339_4.out) | (with_reducible refine Kd.C_alloc ?_ _) | (with_reducible refine Kd.C_drewN ?_ _) | (with_reducible refine Kd.C_drew ?_) | exact HR339_4.out)⟩, ⟨by repeat (first | (with_reducible exact HR340_3.out) | (with_reducible refine Kd.C_alloc ?_ _) | (with_reducible refine Kd.C_drewN ?_ _) | (with_reducible refine Kd.C_drew ?_) | exact HR340_3.out)⟩, ⟨by repeat (first | (with_reducible exact HR340_4.out) | (with_reducible refine Kd.C_alloc ?_ _) | (with_reducible refine Kd.C_drewN ?_ _) | (with_reducible refine Kd.C_drew ?_) | exact HR340_4.out)⟩, ⟨by repeat (first | (with_reducible exact HR345_3.out) | (with_reducible refine Kd.C_alloc ?_ _) | (with_reducible refine Kd.C_drewN ?_ _) | (with_reducible refine Kd.C_drew ?_) | exact HR345_3.out)⟩, ⟨by repeat (first | (with_reducible exact HR345_4.out) | (with_reducible refine Kd.C_alloc ?_ _) | (with_reducible refine Kd.C_drewN ?_ _) | (with_reducible refine Kd.C_drew ?_) | exact HR345_4.out)⟩, ⟨by repeat (first | (with_reducible exact HR346_3.out) | (with_reducible refine Kd.C_alloc ?_ _) | (with_reducible refine Kd.C_drewN ?_ _) | (with_reducible refine Kd.C_drew ?_) | exact HR346_3.out)⟩, ⟨by repeat (first | (with_reducible exact HR346_4.out) | (with_reducible refine Kd.C_alloc ?_ _) | (with_reducible refine Kd.C_drewN ?_ _) | (with_reducible refine Kd.C_drew ?_) | exact HR346_4.out)⟩, ⟨by repeat (first | (with_reducible first | exact HB.out | apply below_alloc | apply pw_below_drewN | apply below_drew1 | refine below_set ?_ GE317.out | refine below_set ?_ GE318.out) | exact HB.out)⟩⟩
                        ·rw [if_neg c59] at H
                         exact absurd H (by simp)
                      case rest =>
                       clear HC56
                       try clear c1
                       try clear c2
                       try clear p2
                       try clear c3
                       try clear p3
                       try clear q3
                       try clear hx3
                       try clear c4
                       try clear c5
                       try clear p6
                       try clear c10
                       try clear c11
                       try clear c16
                       try clear c21
                       try clear c22
                       try clear c22b0
                       try clear c23
                       try clear c23b0
                       try clear c24
                       try clear c24b0
                       try clear c26
                       try clear c26b0
                       try clear c30
                       try clear c31
                       try clear c32
                       try clear p32
                       try clear q32
                       try clear hx32
                       try clear c33
                       try clear p33
                       try clear q33
                       try clear hx33
                       try clear c34
                       try clear p34
                       try clear q34
                       try clear hx34
                       try clear c35
                       try clear c36
                       try clear c36b0
                       try clear c36b1
                       try clear c40
                       try clear c40b0
                       try clear c41
                       try clear c41b0
                       try clear c42
                       try clear c42b0
                       try clear c43
                       try clear c43b0
                       try clear c46
                       try clear c46b0
                       try clear c46b1
                       try clear c47
                       try clear c47b0
                       try clear c51
                       try clear c51b0
                       try clear c52
                       try clear c52b0
                       try clear c53
                       try clear c53b0
                       try clear c54
                       try clear c54b0
                       try clear c58
                       try clear c59
                       try clear c59b0
                       try clear hcz11_0
                       try clear hcz11_1
                       try clear hcz11_2
                       try clear hcz11_3
                       try clear hcz13_0
                       try clear hcz13_1
                       try clear hcz13_2
                       try clear hcz13_3
                       try clear hfz11_0
                       try clear hfz11_1
                       try clear hfz11_2
                       try clear hfz11_3
                       try clear hfz13_0
                       try clear hfz13_1
                       try clear hfz13_2
                       try clear hfz13_3
                       try clear hx327_0
                       try clear hx329_0
                       try clear hx335_0
                       try clear hx339_0
                       try clear hx339_1
                       try clear hx339_2
                       try clear hx339_3
                       try clear hx339_4
                       try clear hx340_0
                       try clear hx340_1
                       try clear hx340_2
                       try clear hx340_3
                       try clear hx340_4
                       try clear hx341_0
                       try clear hx345_0
                       try clear hx345_1
                       try clear hx345_2
                       try clear hx345_3
                       try clear hx345_4
                       try clear hx346_0
                       try clear hx346_1
                       try clear hx346_2
                       try clear hx346_3
                       try clear hx346_4
                       try clear hx348_0
                       try clear p2
                       try clear p3
                       try clear p32
                       try clear p327
                       try clear p329
                       try clear p33
                       try clear p335
                       try clear p339
                       try clear p34
                       try clear p340
                       try clear p341
                       try clear p345
                       try clear p346
                       try clear p348
                       try clear p6
                       try clear q3
                       try clear q32
                       try clear q327
                       try clear q329
                       try clear q33
                       try clear q335
                       try clear q339
                       try clear q34
                       try clear q340
                       try clear q341
                       try clear q345
                       try clear q346
                       try clear q348
                       obtain ⟨kq, x12_55, HA, HJ55, HO_10, HO_11, HO_12, BK317, BK318, HR339_3, HR339_4, HR340_3, HR340_4, HR345_3, HR345_4, HR346_3, HR346_4, HB⟩ := hcut
                       cases kq with
                       | zero => exact absurd HA.out (by simp [treemergeref31_List.j4])
                       | succ kj55 =>
                        have H := HA.out
                        clear HA
                        simp only [treemergeref31_List.j4] at H
                        by_cases c63 : 0 ≤ x13_2
                        ·rw [if_pos c63] at H
                         have c63b0 : decide (0 ≤ x13_2) = true := decide_eq_true c63
                         clear c63
                         by_cases c64 : x13_2 < (t319.length : Int)
                         ·rw [if_pos c64] at H
                          have c64b0 : decide (x13_2 < (t319.length : Int)) = true := decide_eq_true c64
                          clear c64
                          by_cases c65 : 0 ≤ t328
                          ·rw [if_pos c65] at H
                           have c65b0 : decide (0 ≤ t328) = true := decide_eq_true c65
                           clear c65
                           by_cases c66 : t328 < (t322.length : Int)
                           ·rw [if_pos c66] at H
                            have c66b0 : decide (t328 < (t322.length : Int)) = true := decide_eq_true c66
                            clear c66
                            replace H := Option.bind_eq_some_iff.mp H
                            obtain ⟨t354, A670, H⟩ := H
                            have A67 := Aside0.mk A670
                            clear A670
                            by_cases c68 : t354 = true
                            ·subst c68
                             have H1 : (treemergeref31_List.l0 kj55 l2 l3 t319 t322 x12_55 (wrap64 (x13_2 + 1))) = some (r1, r2) := by rw [if_pos rfl] at H; exact H
                             clear H
                             have H := H1
                             clear H1
                             have H' := Aside0.mk H
                             clear H
                             try go_wp2
                             have n0_ := Aside0.mk (Kd.N_drew HO_10.out)
                             have n1_ := Aside0.mk (Kd.N_drew HO_11.out)
                             have n2_ := Aside0.mk (Kd.R_drew HO_12.out)
                             have n3_ := Aside0.mk (blk_drew BK317.out)
                             have n4_ := Aside0.mk (blk_drew BK318.out)
                             have n5_ := Aside0.mk (Kd.C_drew HR339_3.out)
                             have n6_ := Aside0.mk (Kd.C_drew HR339_4.out)
                             have n7_ := Aside0.mk (Kd.C_drew HR340_3.out)
                             have n8_ := Aside0.mk (Kd.C_drew HR340_4.out)
                             have n9_ := Aside0.mk (Kd.C_drew HR345_3.out)
                             have n10_ := Aside0.mk (Kd.C_drew HR345_4.out)
                             have n11_ := Aside0.mk (Kd.C_drew HR346_3.out)
                             have n12_ := Aside0.mk (Kd.C_drew HR346_4.out)
                             have n13_ := Aside0.mk (below_drew1 HB.out)
                             clear HO_10
                             clear HO_11
                             clear HO_12
                             clear BK317
                             clear BK318
                             clear HR339_3
                             clear HR339_4
                             clear HR340_3
                             clear HR340_4
                             clear HR345_3
                             clear HR345_4
                             clear HR346_3
                             clear HR346_4
                             clear HB
                             have HO_10 := n0_
                             have HO_11 := n1_
                             have HO_12 := n2_
                             have BK317 := n3_
                             have BK318 := n4_
                             have HR339_3 := n5_
                             have HR339_4 := n6_
                             have HR340_3 := n7_
                             have HR340_4 := n8_
                             have HR345_3 := n9_
                             have HR345_4 := n10_
                             have HR346_3 := n11_
                             have HR346_4 := n12_
                             have HB := n13_
                             clear n0_ n1_ n2_ n3_ n4_ n5_ n6_ n7_ n8_ n9_ n10_ n11_ n12_ n13_
                             have p352 : 0 ≤ (x13_2 : Int) := of_decide_eq_true AX
                             have q352 : x13_2 < (t319.length : Int) := of_decide_eq_true AX
                             obtain ⟨ad352, A352_3, c352_3, A352_4, c352_4, e352, hx352_0, hx352_1, hx352_2, hx352_3, hx352_4, hl352_3, hi352_3, hl352_4, hi352_4⟩ := at_T70 (Kd.N_reads' HO_10.out).2.2 x13_2 p352 q352
                             obtain rfl : ad339 = ad352 := (by injection e352)
                             obtain ⟨ce352, hce352, hMe352, hcc352⟩ := Kd.N_get HO_10.out z70 x13_2 p352 (by first | exact q352 | exact of_decide_eq_true AX | (have e_ := (Kd.N_reads' HO_10.out).1; omega))
                             obtain ⟨ua352_3, uc352_3, ua352_4, uc352_4, rfl, ul352_3, ge352_3, ul352_4, ge352_4⟩ := k70_openF hMe352
                             have hv352_3 := hcc352 3 _ rfl
                             rw [add_field _ _ 3 (by omega)] at hv352_3
                             replace hv352_3 := Option.some.inj (hv352_3.symm.trans hx352_3)
                             injection hv352_3 with hva_ hvn_ hvc_
                             rw [hva_] at ge352_3
                             rw [hvc_] at ul352_3
                             have HL352_3 := Aside0.mk (show Kd.V Kd.string 9 _ w.heap.size _ _ ((rd_T70 t319 x13_2).f3) from Kd.V_mk ul352_3 ge352_3)
                             clear hva_ hvn_ hvc_ ge352_3 ul352_3
                             have hv352_4 := hcc352 4 _ rfl
                             rw [add_field _ _ 4 (by omega)] at hv352_4
                             replace hv352_4 := Option.some.inj (hv352_4.symm.trans hx352_4)
                             injection hv352_4 with hva_ hvn_ hvc_
                             rw [hva_] at ge352_4
                             rw [hvc_] at ul352_4
                             have HL352_4 := Aside0.mk (show Kd.V (Kd.int .i64) 3 _ w.heap.size _ _ ((rd_T70 t319 x13_2).f4) from Kd.V_mk ul352_4 ge352_4)
                             clear hva_ hvn_ hvc_ ge352_4 ul352_4
                             clear hcc352 hce352
                             have HR352_3 := Aside0.mk hi352_3
                             have HC352_3 := Aside0.mk hl352_3
                             clear hi352_3 hl352_3
                             have HR352_4 := Aside0.mk hi352_4
                             have HC352_4 := Aside0.mk hl352_4
                             clear hi352_4 hl352_4
                             replace p352 := eq_true p352
                             replace q352 := eq_true q352
                             have p353 : 0 ≤ (t328 : Int) := of_decide_eq_true AX
                             have q353 : t328 < (t322.length : Int) := of_decide_eq_true AX
                             obtain ⟨ad353, A353_3, c353_3, A353_4, c353_4, e353, hx353_0, hx353_1, hx353_2, hx353_3, hx353_4, hl353_3, hi353_3, hl353_4, hi353_4⟩ := at_T70 (Kd.N_reads' HO_11.out).2.2 t328 p353 q353
                             obtain rfl : ad340 = ad353 := (by injection e353)
                             obtain ⟨ce353, hce353, hMe353, hcc353⟩ := Kd.N_get HO_11.out z70 t328 p353 (by first | exact q353 | exact of_decide_eq_true AX | (have e_ := (Kd.N_reads' HO_11.out).1; omega))
                             obtain ⟨ua353_3, uc353_3, ua353_4, uc353_4, rfl, ul353_3, ge353_3, ul353_4, ge353_4⟩ := k70_openF hMe353
                             have hv353_3 := hcc353 3 _ rfl
                             rw [add_field _ _ 3 (by omega)] at hv353_3
                             replace hv353_3 := Option.some.inj (hv353_3.symm.trans hx353_3)
                             injection hv353_3 with hva_ hvn_ hvc_
                             rw [hva_] at ge353_3
                             rw [hvc_] at ul353_3
                             have HL353_3 := Aside0.mk (show Kd.V Kd.string 9 _ w.heap.size _ _ ((rd_T70 t322 t328).f3) from Kd.V_mk ul353_3 ge353_3)
                             clear hva_ hvn_ hvc_ ge353_3 ul353_3
                             have hv353_4 := hcc353 4 _ rfl
                             rw [add_field _ _ 4 (by omega)] at hv353_4
                             replace hv353_4 := Option.some.inj (hv353_4.symm.trans hx353_4)
                             injection hv353_4 with hva_ hvn_ hvc_
                             rw [hva_] at ge353_4
                             rw [hvc_] at ul353_4
                             have HL353_4 := Aside0.mk (show Kd.V (Kd.int .i64) 3 _ w.heap.size _ _ ((rd_T70 t322 t328).f4) from Kd.V_mk ul353_4 ge353_4)
                             clear hva_ hvn_ hvc_ ge353_4 ul353_4
                             clear hcc353 hce353
                             have HR353_3 := Aside0.mk hi353_3
                             have HC353_3 := Aside0.mk hl353_3
                             clear hi353_3 hl353_3
                             have HR353_4 := Aside0.mk hi353_4
                             have HC353_4 := Aside0.mk hl353_4
                             clear hi353_4 hl353_4
                             replace p353 := eq_true p353
                             replace q353 := eq_true q353
                             refine start_ (n := 12) (S := fun w' => w'.cell? (ad339.add ((x13_2).toNat * 5)) = some (.int .i64 ((rd_T70 t319 x13_2).f0)) ∧ w'.cell? ⟨(ad339.add ((x13_2).toNat * 5)).block, (ad339.add ((x13_2).toNat * 5)).off + 1, none⟩ = some (.int .i64 ((rd_T70 t319 x13_2).f1)) ∧ w'.cell? ⟨(ad339.add ((x13_2).toNat * 5)).block, (ad339.add ((x13_2).toNat * 5)).off + 2, none⟩ = some (.string ((rd_T70 t319 x13_2).f2)) ∧ w'.cell? ⟨(ad339.add ((x13_2).toNat * 5)).block, (ad339.add ((x13_2).toNat * 5)).off + 3, none⟩ = some (.slice _ ((rd_T70 t319 x13_2).f3).length _) ∧ w'.cell? ⟨(ad339.add ((x13_2).toNat * 5)).block, (ad339.add ((x13_2).toNat * 5)).off + 4, none⟩ = some (.slice _ ((rd_T70 t319 x13_2).f4).length _) ∧ w'.cell? (ad340.add ((t328).toNat * 5)) = some (.int .i64 ((rd_T70 t322 t328).f0)) ∧ w'.cell? ⟨(ad340.add ((t328).toNat * 5)).block, (ad340.add ((t328).toNat * 5)).off + 1, none⟩ = some (.int .i64 ((rd_T70 t322 t328).f1)) ∧ w'.cell? ⟨(ad340.add ((t328).toNat * 5)).block, (ad340.add ((t328).toNat * 5)).off + 2, none⟩ = some (.string ((rd_T70 t322 t328).f2)) ∧ w'.cell? ⟨(ad340.add ((t328).toNat * 5)).block, (ad340.add ((t328).toNat * 5)).off + 3, none⟩ = some (.slice _ ((rd_T70 t322 t328).f3).length _) ∧ w'.cell? ⟨(ad340.add ((t328).toNat * 5)).block, (ad340.add ((t328).toNat * 5)).off + 4, none⟩ = some (.slice _ ((rd_T70 t322 t328).f4).length _)) (ds := []) #[false, false, false, false, false, false, false, false, false, false, false, false] (by kernel_rfl) rfl rfl ⟨hx352_0, hx352_1, hx352_2, hx352_3, hx352_4, hx353_0, hx353_1, hx353_2, hx353_3, hx353_4⟩ (fun hHeld => ?_); refine with_tabW treemergeref31_List.tab18 treemergeref31_List.bits18 (fun HT_ HW_ => ?_)
                             generalize wc.drew = w69 at HO_10 HO_11 HO_12 BK317 BK318 HR339_3 HR339_4 HR340_3 HR340_4 HR345_3 HR345_4 HR346_3 HR346_4 HB HL352_3 HL352_4 HL353_3 HL353_4 HR352_3 HR352_4 HR353_3 HR353_4 hx352_0 hx352_1 hx352_2 hx352_3 hx352_4 hx353_0 hx353_1 hx353_2 hx353_3 hx353_4 hHeld ⊢
                             refine pure_ (i := 0) (N := some 106) (v := ?_) (a' := ?_) #[true, false, false, false, false, false, false, false, false, false, false, false] rfl rfl (any_of HT_.out (by kernel_rfl)) (fun _ _ _ h => h) (Or.inl ⟨by rfl, ?_⟩) ?_ ?_
                             rotate_left
                             ·intro w'
                              go_simp
                              with_reducible rfl
                             rotate_left
                             ·simp only [Act.put, List.setIfInBounds_toArray, List.set_cons_zero, List.set_cons_succ, i64_w, i32_w]
                              rfl
                             refine pure_ (i := 1) (N := some 107) (v := ?_) (a' := ?_) #[true, true, false, false, false, false, false, false, false, false, false, false] rfl rfl (any_of HT_.out (by kernel_rfl)) (fun _ _ _ h => h) (Or.inl ⟨by rfl, ?_⟩) ?_ ?_
                             rotate_left
                             ·intro w'
                              go_simp
                              with_reducible rfl
                             rotate_left
                             ·simp only [Act.put, List.setIfInBounds_toArray, List.set_cons_zero, List.set_cons_succ, i64_w, i32_w]
                              rfl
                             refine pure_ (i := 2) (N := some 108) (v := ?_) (a' := ?_) #[true, true, true, false, false, false, false, false, false, false, false, false] rfl rfl (any_of HT_.out (by kernel_rfl)) (fun _ _ _ h => h) (Or.inl ⟨by rfl, ?_⟩) ?_ ?_
                             rotate_left
                             ·intro w'
                              go_simp
                              with_reducible rfl
                             rotate_left
                             ·simp only [Act.put, List.setIfInBounds_toArray, List.set_cons_zero, List.set_cons_succ, i64_w, i32_w]
                              rfl
                             refine pure_ (i := 4) (N := some 110) (v := ?_) (a' := ?_) #[true, true, true, false, true, false, false, false, false, false, false, false] rfl rfl (any_of HT_.out (by kernel_rfl)) (fun _ _ _ h => h) (Or.inl ⟨by rfl, ?_⟩) ?_ ?_
                             rotate_left
                             ·intro w'
                              go_simp
                              with_reducible rfl
                             rotate_left
                             ·simp only [Act.put, List.setIfInBounds_toArray, List.set_cons_zero, List.set_cons_succ, i64_w, i32_w]
                              rfl
                             refine pure_ (i := 5) (N := some 111) (v := ?_) (a' := ?_) #[true, true, true, false, true, true, false, false, false, false, false, false] rfl rfl (any_of HT_.out (by kernel_rfl)) (fun _ _ _ h => h) (Or.inl ⟨by rfl, ?_⟩) ?_ ?_
                             rotate_left
                             ·intro w'
                              go_simp
                              with_reducible rfl
                             rotate_left
                             ·simp only [Act.put, List.setIfInBounds_toArray, List.set_cons_zero, List.set_cons_succ, i64_w, i32_w]
                              rfl
                             refine pure_ (i := 6) (N := some 112) (v := ?_) (a' := ?_) #[true, true, true, false, true, true, true, false, false, false, false, false] rfl rfl (any_of HT_.out (by kernel_rfl)) (fun _ _ _ h => h) (Or.inl ⟨by rfl, ?_⟩) ?_ ?_
                             rotate_left
                             ·intro w'
                              go_simp
                              with_reducible rfl
                             rotate_left
                             ·simp only [Act.put, List.setIfInBounds_toArray, List.set_cons_zero, List.set_cons_succ, i64_w, i32_w]
                              rfl
                             refine pure_ (i := 8) (N := some 114) (v := ?_) (a' := ?_) #[true, true, true, false, true, true, true, false, true, false, false, false] rfl rfl (any_of HT_.out (by kernel_rfl)) (fun _ _ _ h => h) (Or.inl ⟨by rfl, ?_⟩) ?_ ?_
                             rotate_left
                             ·intro w'
                              go_simp
                              with_reducible rfl
                             rotate_left
                             ·simp only [Act.put, List.setIfInBounds_toArray, List.set_cons_zero, List.set_cons_succ, i64_w, i32_w]
                              rfl
                             refine pure_ (i := 9) (N := some 115) (v := ?_) (a' := ?_) #[true, true, true, false, true, true, true, false, true, true, false, false] rfl rfl (any_of HT_.out (by kernel_rfl)) (fun _ _ _ h => h) (Or.inl ⟨by rfl, ?_⟩) ?_ ?_
                             rotate_left
                             ·intro w'
                              go_simp
                              with_reducible rfl
                             rotate_left
                             ·simp only [Act.put, List.setIfInBounds_toArray, List.set_cons_zero, List.set_cons_succ, i64_w, i32_w]
                              rfl
                             refine take_ (i := 3) (N := some 109) (v := ?_) (a' := ?_) #[true, true, true, true, true, true, true, false, true, true, false, false] rfl rfl (take_ofW HT_.out HW_.out (by kernel_rfl)) (fun _ _ _ h => h) (Or.inl ⟨by rfl, ?_⟩) hHeld ?_ ?_
                             rotate_left
                             ·rintro w' ⟨s0, s1, s2, s3, s4, s5, s6, s7, s8, s9⟩
                              try simp only [Int.toNat_natCast] at s0 s1 s2 s3 s4 s5 s6 s7 s8 s9
                              go_simp
                              with_reducible rfl
                             rotate_left
                             ·simp only [Act.put, List.setIfInBounds_toArray, List.set_cons_zero, List.set_cons_succ, i64_w, i32_w]
                              rfl
                             refine take_ (i := 7) (N := some 113) (v := ?_) (a' := ?_) #[true, true, true, true, true, true, true, true, true, true, false, false] rfl rfl (take_ofW HT_.out HW_.out (by kernel_rfl)) (fun _ _ _ h => h) (Or.inl ⟨by rfl, ?_⟩) hHeld ?_ ?_
                             rotate_left
                             ·rintro w' ⟨s0, s1, s2, s3, s4, s5, s6, s7, s8, s9⟩
                              try simp only [Int.toNat_natCast] at s0 s1 s2 s3 s4 s5 s6 s7 s8 s9
                              go_simp
                              with_reducible rfl
                             rotate_left
                             ·simp only [Act.put, List.setIfInBounds_toArray, List.set_cons_zero, List.set_cons_succ, i64_w, i32_w]
                              rfl
                             refine one_ (i := 10) (N := some 116) #[true, true, true, true, true, true, true, true, true, true, true, false] rfl rfl (one_of HT_.out (by kernel_rfl)) (by decide) (fun K hK => ?_)
                             refine goes_ Try.func36 (by kernel_rfl) rfl #[.agg #[.int .i64 ((rd_T70 t319 x13_2).f0), .int .i64 ((rd_T70 t319 x13_2).f1), .string ((rd_T70 t319 x13_2).f2), .slice A352_3 ((rd_T70 t319 x13_2).f3).length c352_3, .slice A352_4 ((rd_T70 t319 x13_2).f4).length c352_4], .agg #[.int .i64 ((rd_T70 t322 t328).f0), .int .i64 ((rd_T70 t322 t328).f1), .string ((rd_T70 t322 t328).f2), .slice A353_3 ((rd_T70 t322 t328).f3).length c353_3, .slice A353_4 ((rd_T70 t322 t328).f4).length c353_4], .slice (some ad327) l2.length c2, .slice A3 l3.length c3] (by rfl) rfl rfl MX ?_
                             with_reducible refine (treemergeref31_sameKids.calls kj55 ((rd_T70 t319 x13_2).f0) ((rd_T70 t319 x13_2).f1) ((rd_T70 t319 x13_2).f2) _ _ ((rd_T70 t319 x13_2).f3) _ _ ((rd_T70 t319 x13_2).f4) ((rd_T70 t322 t328).f0) ((rd_T70 t322 t328).f1) ((rd_T70 t322 t328).f2) _ _ ((rd_T70 t322 t328).f3) _ _ ((rd_T70 t322 t328).f4) _ _ l2 _ _ l3 true _ ?side1 ?side2 ?side3 ?side4 ?side5 ?side6 ?side7 ?side8 ?side9 ?side10 ?side11 ?side12 A67.out).mono ?_
                             (case side1 => repeat (first | exact (by repeat (first | (with_reducible exact HR352_3.out) | (with_reducible refine Kd.C_alloc ?_ _) | (with_reducible refine Kd.C_drewN ?_ _) | (with_reducible refine Kd.C_drew ?_) | exact HR352_3.out)) | (with_reducible refine Kd.C_alloc ?_ _) | (with_reducible refine Kd.C_drewN ?_ _) | (with_reducible refine Kd.C_drew ?_)))
                             (case side2 => exact HC352_3.out)
                             (case side3 => repeat (first | exact (by repeat (first | (with_reducible exact HR352_4.out) | (with_reducible refine Kd.C_alloc ?_ _) | (with_reducible refine Kd.C_drewN ?_ _) | (with_reducible refine Kd.C_drew ?_) | exact HR352_4.out)) | (with_reducible refine Kd.C_alloc ?_ _) | (with_reducible refine Kd.C_drewN ?_ _) | (with_reducible refine Kd.C_drew ?_)))
                             (case side4 => exact HC352_4.out)
                             (case side5 => repeat (first | exact (by repeat (first | (with_reducible exact HR353_3.out) | (with_reducible refine Kd.C_alloc ?_ _) | (with_reducible refine Kd.C_drewN ?_ _) | (with_reducible refine Kd.C_drew ?_) | exact HR353_3.out)) | (with_reducible refine Kd.C_alloc ?_ _) | (with_reducible refine Kd.C_drewN ?_ _) | (with_reducible refine Kd.C_drew ?_)))
                             (case side6 => exact HC353_3.out)
                             (case side7 => repeat (first | exact (by repeat (first | (with_reducible exact HR353_4.out) | (with_reducible refine Kd.C_alloc ?_ _) | (with_reducible refine Kd.C_drewN ?_ _) | (with_reducible refine Kd.C_drew ?_) | exact HR353_4.out)) | (with_reducible refine Kd.C_alloc ?_ _) | (with_reducible refine Kd.C_drewN ?_ _) | (with_reducible refine Kd.C_drew ?_)))
                             (case side8 => exact HC353_4.out)
                             (case side9 => exact CX (Kd.C_below HR2.out HB.out))
                             (case side10 => exact HC2.out)
                             (case side11 => exact CX (Kd.C_below HR3.out HB.out))
                             (case side12 => exact HC3.out)
                             rintro e w70 ⟨rfl, hb⟩
                             have HS0_ := (hb.cell (World.block_lt_of_cell? _ _ (hHeld.1))).trans (hHeld.1)
                             have HS1_ := (hb.cell (World.block_lt_of_cell? _ _ (hHeld.2.1))).trans (hHeld.2.1)
                             have HS2_ := (hb.cell (World.block_lt_of_cell? _ _ (hHeld.2.2.1))).trans (hHeld.2.2.1)
                             have HS3_ := (hb.cell (World.block_lt_of_cell? _ _ (hHeld.2.2.2.1))).trans (hHeld.2.2.2.1)
                             have HS4_ := (hb.cell (World.block_lt_of_cell? _ _ (hHeld.2.2.2.2.1))).trans (hHeld.2.2.2.2.1)
                             have HS5_ := (hb.cell (World.block_lt_of_cell? _ _ (hHeld.2.2.2.2.2.1))).trans (hHeld.2.2.2.2.2.1)
                             have HS6_ := (hb.cell (World.block_lt_of_cell? _ _ (hHeld.2.2.2.2.2.2.1))).trans (hHeld.2.2.2.2.2.2.1)
                             have HS7_ := (hb.cell (World.block_lt_of_cell? _ _ (hHeld.2.2.2.2.2.2.2.1))).trans (hHeld.2.2.2.2.2.2.2.1)
                             have HS8_ := (hb.cell (World.block_lt_of_cell? _ _ (hHeld.2.2.2.2.2.2.2.2.1))).trans (hHeld.2.2.2.2.2.2.2.2.1)
                             have HS9_ := (hb.cell (World.block_lt_of_cell? _ _ (hHeld.2.2.2.2.2.2.2.2.2))).trans (hHeld.2.2.2.2.2.2.2.2.2)
                             refine ⟨_, rfl, ?_⟩
                             have n0_ := Aside0.mk (Kd.N_below (by (with_reducible repeat (first | apply Kd.N_alloc | apply Kd.N_drewN | apply Kd.N_drew)); exact HO_10.out) hb)
                             have n1_ := Aside0.mk (Kd.N_below (by (with_reducible repeat (first | apply Kd.N_alloc | apply Kd.N_drewN | apply Kd.N_drew)); exact HO_11.out) hb)
                             have n2_ := Aside0.mk (Kd.R_below (RX HO_12.out) hb)
                             have n3_ := Aside0.mk (Kd.V_below (by (with_reducible repeat (first | apply Kd.V_alloc | apply Kd.V_drewN | apply Kd.V_drew)); exact HL352_3.out) hb)
                             have n4_ := Aside0.mk (Kd.V_below (by (with_reducible repeat (first | apply Kd.V_alloc | apply Kd.V_drewN | apply Kd.V_drew)); exact HL352_4.out) hb)
                             have n5_ := Aside0.mk (Kd.V_below (by (with_reducible repeat (first | apply Kd.V_alloc | apply Kd.V_drewN | apply Kd.V_drew)); exact HL353_3.out) hb)
                             have n6_ := Aside0.mk (Kd.V_below (by (with_reducible repeat (first | apply Kd.V_alloc | apply Kd.V_drewN | apply Kd.V_drew)); exact HL353_4.out) hb)
                             have n7_ := Aside0.mk (blk_below (g := gb317) (o := .cells #[.int .i64 a0_0, .string a0_1, .slice A0_2 l0_2.length c0_2, .slice A0_3 l0_3.length c0_3] 25 (0, 0)) (by (with_reducible repeat (first | refine blk_drewN ?_ _ | refine blk_drew ?_ | refine blk_alloc ?_ _)); exact BK317.out) hb)
                             have n8_ := Aside0.mk (blk_below (g := gb318) (o := .cells #[.int .i64 a1_0, .string a1_1, .slice A1_2 l1_2.length c1_2, .slice A1_3 l1_3.length c1_3] 25 (0, 0)) (by (with_reducible repeat (first | refine blk_drewN ?_ _ | refine blk_drew ?_ | refine blk_alloc ?_ _)); exact BK318.out) hb)
                             (first | (with_reducible have n9_ := Aside0.mk (Kd.C_below HR339_3.out hb)) | (with_reducible have n9_ := Aside0.mk (Kd.C_below (Kd.C_drewN HR339_3.out _) hb)) | have n9_ := Aside0.mk (Kd.C_below (by repeat (first | (with_reducible exact HR339_3.out) | (with_reducible refine Kd.C_alloc ?_ _) | (with_reducible refine Kd.C_drewN ?_ _) | (with_reducible refine Kd.C_drew ?_) | exact HR339_3.out)) hb))
                             (first | (with_reducible have n10_ := Aside0.mk (Kd.C_below HR339_4.out hb)) | (with_reducible have n10_ := Aside0.mk (Kd.C_below (Kd.C_drewN HR339_4.out _) hb)) | have n10_ := Aside0.mk (Kd.C_below (by repeat (first | (with_reducible exact HR339_4.out) | (with_reducible refine Kd.C_alloc ?_ _) | (with_reducible refine Kd.C_drewN ?_ _) | (with_reducible refine Kd.C_drew ?_) | exact HR339_4.out)) hb))
                             (first | (with_reducible have n11_ := Aside0.mk (Kd.C_below HR340_3.out hb)) | (with_reducible have n11_ := Aside0.mk (Kd.C_below (Kd.C_drewN HR340_3.out _) hb)) | have n11_ := Aside0.mk (Kd.C_below (by repeat (first | (with_reducible exact HR340_3.out) | (with_reducible refine Kd.C_alloc ?_ _) | (with_reducible refine Kd.C_drewN ?_ _) | (with_reducible refine Kd.C_drew ?_) | exact HR340_3.out)) hb))
                             (first | (with_reducible have n12_ := Aside0.mk (Kd.C_below HR340_4.out hb)) | (with_reducible have n12_ := Aside0.mk (Kd.C_below (Kd.C_drewN HR340_4.out _) hb)) | have n12_ := Aside0.mk (Kd.C_below (by repeat (first | (with_reducible exact HR340_4.out) | (with_reducible refine Kd.C_alloc ?_ _) | (with_reducible refine Kd.C_drewN ?_ _) | (with_reducible refine Kd.C_drew ?_) | exact HR340_4.out)) hb))
                             (first | (with_reducible have n13_ := Aside0.mk (Kd.C_below HR345_3.out hb)) | (with_reducible have n13_ := Aside0.mk (Kd.C_below (Kd.C_drewN HR345_3.out _) hb)) | have n13_ := Aside0.mk (Kd.C_below (by repeat (first | (with_reducible exact HR345_3.out) | (with_reducible refine Kd.C_alloc ?_ _) | (with_reducible refine Kd.C_drewN ?_ _) | (with_reducible refine Kd.C_drew ?_) | exact HR345_3.out)) hb))
                             (first | (with_reducible have n14_ := Aside0.mk (Kd.C_below HR345_4.out hb)) | (with_reducible have n14_ := Aside0.mk (Kd.C_below (Kd.C_drewN HR345_4.out _) hb)) | have n14_ := Aside0.mk (Kd.C_below (by repeat (first | (with_reducible exact HR345_4.out) | (with_reducible refine Kd.C_alloc ?_ _) | (with_reducible refine Kd.C_drewN ?_ _) | (with_reducible refine Kd.C_drew ?_) | exact HR345_4.out)) hb))
                             (first | (with_reducible have n15_ := Aside0.mk (Kd.C_below HR346_3.out hb)) | (with_reducible have n15_ := Aside0.mk (Kd.C_below (Kd.C_drewN HR346_3.out _) hb)) | have n15_ := Aside0.mk (Kd.C_below (by repeat (first | (with_reducible exact HR346_3.out) | (with_reducible refine Kd.C_alloc ?_ _) | (with_reducible refine Kd.C_drewN ?_ _) | (with_reducible refine Kd.C_drew ?_) | exact HR346_3.out)) hb))
                             (first | (with_reducible have n16_ := Aside0.mk (Kd.C_below HR346_4.out hb)) | (with_reducible have n16_ := Aside0.mk (Kd.C_below (Kd.C_drewN HR346_4.out _) hb)) | have n16_ := Aside0.mk (Kd.C_below (by repeat (first | (with_reducible exact HR346_4.out) | (with_reducible refine Kd.C_alloc ?_ _) | (with_reducible refine Kd.C_drewN ?_ _) | (with_reducible refine Kd.C_drew ?_) | exact HR346_4.out)) hb))
                             (first | (with_reducible have n17_ := Aside0.mk (Kd.C_below HR352_3.out hb)) | (with_reducible have n17_ := Aside0.mk (Kd.C_below (Kd.C_drewN HR352_3.out _) hb)) | have n17_ := Aside0.mk (Kd.C_below (by repeat (first | (with_reducible exact HR352_3.out) | (with_reducible refine Kd.C_alloc ?_ _) | (with_reducible refine Kd.C_drewN ?_ _) | (with_reducible refine Kd.C_drew ?_) | exact HR352_3.out)) hb))
                             (first | (with_reducible have n18_ := Aside0.mk (Kd.C_below HR352_4.out hb)) | (with_reducible have n18_ := Aside0.mk (Kd.C_below (Kd.C_drewN HR352_4.out _) hb)) | have n18_ := Aside0.mk (Kd.C_below (by repeat (first | (with_reducible exact HR352_4.out) | (with_reducible refine Kd.C_alloc ?_ _) | (with_reducible refine Kd.C_drewN ?_ _) | (with_reducible refine Kd.C_drew ?_) | exact HR352_4.out)) hb))
                             (first | (with_reducible have n19_ := Aside0.mk (Kd.C_below HR353_3.out hb)) | (with_reducible have n19_ := Aside0.mk (Kd.C_below (Kd.C_drewN HR353_3.out _) hb)) | have n19_ := Aside0.mk (Kd.C_below (by repeat (first | (with_reducible exact HR353_3.out) | (with_reducible refine Kd.C_alloc ?_ _) | (with_reducible refine Kd.C_drewN ?_ _) | (with_reducible refine Kd.C_drew ?_) | exact HR353_3.out)) hb))
                             (first | (with_reducible have n20_ := Aside0.mk (Kd.C_below HR353_4.out hb)) | (with_reducible have n20_ := Aside0.mk (Kd.C_below (Kd.C_drewN HR353_4.out _) hb)) | have n20_ := Aside0.mk (Kd.C_below (by repeat (first | (with_reducible exact HR353_4.out) | (with_reducible refine Kd.C_alloc ?_ _) | (with_reducible refine Kd.C_drewN ?_ _) | (with_reducible refine Kd.C_drew ?_) | exact HR353_4.out)) hb))
                             have n21_ := Aside0.mk (below_step (by repeat (first | (with_reducible first | exact HB.out | apply below_alloc | apply pw_below_drewN | apply below_drew1 | refine below_set ?_ GE317.out | refine below_set ?_ GE318.out) | exact HB.out)) hb)
                             clear HO_10
                             clear HO_11
                             clear HO_12
                             clear HL352_3
                             clear HL352_4
                             clear HL353_3
                             clear HL353_4
                             clear BK317
                             clear BK318
                             clear HR339_3
                             clear HR339_4
                             clear HR340_3
                             clear HR340_4
                             clear HR345_3
                             clear HR345_4
                             clear HR346_3
                             clear HR346_4
                             clear HR352_3
                             clear HR352_4
                             clear HR353_3
                             clear HR353_4
                             clear HB
                             have HO_10 := n0_
                             have HO_11 := n1_
                             have HO_12 := n2_
                             have HL352_3 := n3_
                             have HL352_4 := n4_
                             have HL353_3 := n5_
                             have HL353_4 := n6_
                             have BK317 := n7_
                             have BK318 := n8_
                             have HR339_3 := n9_
                             have HR339_4 := n10_
                             have HR340_3 := n11_
                             have HR340_4 := n12_
                             have HR345_3 := n13_
                             have HR345_4 := n14_
                             have HR346_3 := n15_
                             have HR346_4 := n16_
                             have HR352_3 := n17_
                             have HR352_4 := n18_
                             have HR353_3 := n19_
                             have HR353_4 := n20_
                             have HB := n21_
                             clear n0_ n1_ n2_ n3_ n4_ n5_ n6_ n7_ n8_ n9_ n10_ n11_ n12_ n13_ n14_ n15_ n16_ n17_ n18_ n19_ n20_ n21_
                             (try clear hb)
                             (try clear hb2)
                             (try clear hk)
                             (try clear hi)
                             refine hK.out _ _ ⟨HS0_, HS1_, HS2_, HS3_, HS4_, HS5_, HS6_, HS7_, HS8_, HS9_⟩ (fun hHeld => ?_)
                             clear hK K
                             refine norm_ (a' := ?_) ?_ ?_
                             rotate_left
                             ·show Act.put _ (some 116) _ = _
                              simp only [Act.put, List.setIfInBounds_toArray, List.set_cons_zero, List.set_cons_succ, i64_w, i32_w]
                              rfl
                             refine pure_ (i := 11) (N := some 117) (v := ?_) (a' := ?_) #[true, true, true, true, true, true, true, true, true, true, true, true] rfl rfl (any_of HT_.out (by kernel_rfl)) (fun _ _ _ h => h) (Or.inl ⟨by rfl, ?_⟩) ?_ ?_
                             rotate_left
                             ·intro w'
                              go_simp
                              with_reducible rfl
                             rotate_left
                             ·simp only [Act.put, List.setIfInBounds_toArray, List.set_cons_zero, List.set_cons_succ, i64_w, i32_w]
                              rfl
                             refine done_ (done_of HT_.out (by kernel_rfl)) ?_
                             try go_wp2
                             go_roundg kj55
                             case measure => have := HJ6.out; have := HK2.out; have := HJ32.out; have := HJ43.out; have := HJ55.out; omega
                             case rel => exact ⟨(x12_55), (wrap64 (x13_2 + 1)), SX, H', ⟨by have := HJ6.out; have := HK2.out; have := HJ32.out; have := HJ43.out; have := HJ55.out; omega⟩, ⟨by (with_reducible repeat (first | apply Kd.N_alloc | apply Kd.N_drewN | apply Kd.N_drew)); exact HO_10.out⟩, ⟨by (with_reducible repeat (first | apply Kd.N_alloc | apply Kd.N_drewN | apply Kd.N_drew)); exact HO_11.out⟩, ⟨RX HO_12.out⟩, ⟨by (with_reducible repeat (first | refine blk_drewN ?_ _ | refine blk_drew ?_ | refine blk_alloc ?_ _)); exact BK317.out⟩, ⟨by (with_reducible repeat (first | refine blk_drewN ?_ _ | refine blk_drew ?_ | refine blk_alloc ?_ _)); exact BK318.out⟩, ⟨by repeat (first | (with_reducible first | exact HB.out | apply below_alloc | apply pw_below_drewN | apply below_drew1 | refine below_set ?_ GE317.out | refine below_set ?_ GE318.out) | exact HB.out)⟩⟩
                            ·replace c68 := Bool.eq_false_iff.mpr c68
                             subst c68
                             have H1 : (if x13_2 < (l2.length : Int) then ((treemergeref31_Insert.f kj55 x12_55 (rd l2 x13_2) 6).bind fun t356 => (treemergeref31_List.l0 kj55 l2 l3 t319 t322 t356 (wrap64 (x13_2 + 1)))) else (none)) = some (r1, r2) := by rw [if_neg (show ¬ (false = true) by decide)] at H; exact H
                             clear H
                             have H := H1
                             clear H1
                             by_cases c71 : x13_2 < (l2.length : Int)
                             ·rw [if_pos c71] at H
                              have c71b0 : decide (x13_2 < (l2.length : Int)) = true := decide_eq_true c71
                              clear c71
                              replace H := Option.bind_eq_some_iff.mp H
                              obtain ⟨t356, A720, H⟩ := H
                              have A72 := Aside0.mk A720
                              clear A720
                              have H' := Aside0.mk H
                              clear H
                              try go_wp2
                              have n0_ := Aside0.mk (Kd.N_drew HO_10.out)
                              have n1_ := Aside0.mk (Kd.N_drew HO_11.out)
                              have n2_ := Aside0.mk (Kd.R_drew HO_12.out)
                              have n3_ := Aside0.mk (blk_drew BK317.out)
                              have n4_ := Aside0.mk (blk_drew BK318.out)
                              have n5_ := Aside0.mk (Kd.C_drew HR339_3.out)
                              have n6_ := Aside0.mk (Kd.C_drew HR339_4.out)
                              have n7_ := Aside0.mk (Kd.C_drew HR340_3.out)
                              have n8_ := Aside0.mk (Kd.C_drew HR340_4.out)
                              have n9_ := Aside0.mk (Kd.C_drew HR345_3.out)
                              have n10_ := Aside0.mk (Kd.C_drew HR345_4.out)
                              have n11_ := Aside0.mk (Kd.C_drew HR346_3.out)
                              have n12_ := Aside0.mk (Kd.C_drew HR346_4.out)
                              have n13_ := Aside0.mk (below_drew1 HB.out)
                              clear HO_10
                              clear HO_11
                              clear HO_12
                              clear BK317
                              clear BK318
                              clear HR339_3
                              clear HR339_4
                              clear HR340_3
                              clear HR340_4
                              clear HR345_3
                              clear HR345_4
                              clear HR346_3
                              clear HR346_4
                              clear HB
                              have HO_10 := n0_
                              have HO_11 := n1_
                              have HO_12 := n2_
                              have BK317 := n3_
                              have BK318 := n4_
                              have HR339_3 := n5_
                              have HR339_4 := n6_
                              have HR340_3 := n7_
                              have HR340_4 := n8_
                              have HR345_3 := n9_
                              have HR345_4 := n10_
                              have HR346_3 := n11_
                              have HR346_4 := n12_
                              have HB := n13_
                              clear n0_ n1_ n2_ n3_ n4_ n5_ n6_ n7_ n8_ n9_ n10_ n11_ n12_ n13_
                              have p352 : 0 ≤ (x13_2 : Int) := of_decide_eq_true AX
                              have q352 : x13_2 < (t319.length : Int) := of_decide_eq_true AX
                              obtain ⟨ad352, A352_3, c352_3, A352_4, c352_4, e352, hx352_0, hx352_1, hx352_2, hx352_3, hx352_4, hl352_3, hi352_3, hl352_4, hi352_4⟩ := at_T70 (Kd.N_reads' HO_10.out).2.2 x13_2 p352 q352
                              obtain rfl : ad339 = ad352 := (by injection e352)
                              obtain ⟨ce352, hce352, hMe352, hcc352⟩ := Kd.N_get HO_10.out z70 x13_2 p352 (by first | exact q352 | exact of_decide_eq_true AX | (have e_ := (Kd.N_reads' HO_10.out).1; omega))
                              obtain ⟨ua352_3, uc352_3, ua352_4, uc352_4, rfl, ul352_3, ge352_3, ul352_4, ge352_4⟩ := k70_openF hMe352
                              have hv352_3 := hcc352 3 _ rfl
                              rw [add_field _ _ 3 (by omega)] at hv352_3
                              replace hv352_3 := Option.some.inj (hv352_3.symm.trans hx352_3)
                              injection hv352_3 with hva_ hvn_ hvc_
                              rw [hva_] at ge352_3
                              rw [hvc_] at ul352_3
                              have HL352_3 := Aside0.mk (show Kd.V Kd.string 9 _ w.heap.size _ _ ((rd_T70 t319 x13_2).f3) from Kd.V_mk ul352_3 ge352_3)
                              clear hva_ hvn_ hvc_ ge352_3 ul352_3
                              have hv352_4 := hcc352 4 _ rfl
                              rw [add_field _ _ 4 (by omega)] at hv352_4
                              replace hv352_4 := Option.some.inj (hv352_4.symm.trans hx352_4)
                              injection hv352_4 with hva_ hvn_ hvc_
                              rw [hva_] at ge352_4
                              rw [hvc_] at ul352_4
                              have HL352_4 := Aside0.mk (show Kd.V (Kd.int .i64) 3 _ w.heap.size _ _ ((rd_T70 t319 x13_2).f4) from Kd.V_mk ul352_4 ge352_4)
                              clear hva_ hvn_ hvc_ ge352_4 ul352_4
                              clear hcc352 hce352
                              have HR352_3 := Aside0.mk hi352_3
                              have HC352_3 := Aside0.mk hl352_3
                              clear hi352_3 hl352_3
                              have HR352_4 := Aside0.mk hi352_4
                              have HC352_4 := Aside0.mk hl352_4
                              clear hi352_4 hl352_4
                              replace p352 := eq_true p352
                              replace q352 := eq_true q352
                              have p353 : 0 ≤ (t328 : Int) := of_decide_eq_true AX
                              have q353 : t328 < (t322.length : Int) := of_decide_eq_true AX
                              obtain ⟨ad353, A353_3, c353_3, A353_4, c353_4, e353, hx353_0, hx353_1, hx353_2, hx353_3, hx353_4, hl353_3, hi353_3, hl353_4, hi353_4⟩ := at_T70 (Kd.N_reads' HO_11.out).2.2 t328 p353 q353
                              obtain rfl : ad340 = ad353 := (by injection e353)
                              obtain ⟨ce353, hce353, hMe353, hcc353⟩ := Kd.N_get HO_11.out z70 t328 p353 (by first | exact q353 | exact of_decide_eq_true AX | (have e_ := (Kd.N_reads' HO_11.out).1; omega))
                              obtain ⟨ua353_3, uc353_3, ua353_4, uc353_4, rfl, ul353_3, ge353_3, ul353_4, ge353_4⟩ := k70_openF hMe353
                              have hv353_3 := hcc353 3 _ rfl
                              rw [add_field _ _ 3 (by omega)] at hv353_3
                              replace hv353_3 := Option.some.inj (hv353_3.symm.trans hx353_3)
                              injection hv353_3 with hva_ hvn_ hvc_
                              rw [hva_] at ge353_3
                              rw [hvc_] at ul353_3
                              have HL353_3 := Aside0.mk (show Kd.V Kd.string 9 _ w.heap.size _ _ ((rd_T70 t322 t328).f3) from Kd.V_mk ul353_3 ge353_3)
                              clear hva_ hvn_ hvc_ ge353_3 ul353_3
                              have hv353_4 := hcc353 4 _ rfl
                              rw [add_field _ _ 4 (by omega)] at hv353_4
                              replace hv353_4 := Option.some.inj (hv353_4.symm.trans hx353_4)
                              injection hv353_4 with hva_ hvn_ hvc_
                              rw [hva_] at ge353_4
                              rw [hvc_] at ul353_4
                              have HL353_4 := Aside0.mk (show Kd.V (Kd.int .i64) 3 _ w.heap.size _ _ ((rd_T70 t322 t328).f4) from Kd.V_mk ul353_4 ge353_4)
                              clear hva_ hvn_ hvc_ ge353_4 ul353_4
                              clear hcc353 hce353
                              have HR353_3 := Aside0.mk hi353_3
                              have HC353_3 := Aside0.mk hl353_3
                              clear hi353_3 hl353_3
                              have HR353_4 := Aside0.mk hi353_4
                              have HC353_4 := Aside0.mk hl353_4
                              clear hi353_4 hl353_4
                              replace p353 := eq_true p353
                              replace q353 := eq_true q353
                              refine start_ (n := 12) (S := fun w' => w'.cell? (ad339.add ((x13_2).toNat * 5)) = some (.int .i64 ((rd_T70 t319 x13_2).f0)) ∧ w'.cell? ⟨(ad339.add ((x13_2).toNat * 5)).block, (ad339.add ((x13_2).toNat * 5)).off + 1, none⟩ = some (.int .i64 ((rd_T70 t319 x13_2).f1)) ∧ w'.cell? ⟨(ad339.add ((x13_2).toNat * 5)).block, (ad339.add ((x13_2).toNat * 5)).off + 2, none⟩ = some (.string ((rd_T70 t319 x13_2).f2)) ∧ w'.cell? ⟨(ad339.add ((x13_2).toNat * 5)).block, (ad339.add ((x13_2).toNat * 5)).off + 3, none⟩ = some (.slice _ ((rd_T70 t319 x13_2).f3).length _) ∧ w'.cell? ⟨(ad339.add ((x13_2).toNat * 5)).block, (ad339.add ((x13_2).toNat * 5)).off + 4, none⟩ = some (.slice _ ((rd_T70 t319 x13_2).f4).length _) ∧ w'.cell? (ad340.add ((t328).toNat * 5)) = some (.int .i64 ((rd_T70 t322 t328).f0)) ∧ w'.cell? ⟨(ad340.add ((t328).toNat * 5)).block, (ad340.add ((t328).toNat * 5)).off + 1, none⟩ = some (.int .i64 ((rd_T70 t322 t328).f1)) ∧ w'.cell? ⟨(ad340.add ((t328).toNat * 5)).block, (ad340.add ((t328).toNat * 5)).off + 2, none⟩ = some (.string ((rd_T70 t322 t328).f2)) ∧ w'.cell? ⟨(ad340.add ((t328).toNat * 5)).block, (ad340.add ((t328).toNat * 5)).off + 3, none⟩ = some (.slice _ ((rd_T70 t322 t328).f3).length _) ∧ w'.cell? ⟨(ad340.add ((t328).toNat * 5)).block, (ad340.add ((t328).toNat * 5)).off + 4, none⟩ = some (.slice _ ((rd_T70 t322 t328).f4).length _)) (ds := []) #[false, false, false, false, false, false, false, false, false, false, false, false] (by kernel_rfl) rfl rfl ⟨hx352_0, hx352_1, hx352_2, hx352_3, hx352_4, hx353_0, hx353_1, hx353_2, hx353_3, hx353_4⟩ (fun hHeld => ?_); refine with_tabW treemergeref31_List.tab18 treemergeref31_List.bits18 (fun HT_ HW_ => ?_)
                              generalize wc.drew = w73 at HO_10 HO_11 HO_12 BK317 BK318 HR339_3 HR339_4 HR340_3 HR340_4 HR345_3 HR345_4 HR346_3 HR346_4 HB HL352_3 HL352_4 HL353_3 HL353_4 HR352_3 HR352_4 HR353_3 HR353_4 hx352_0 hx352_1 hx352_2 hx352_3 hx352_4 hx353_0 hx353_1 hx353_2 hx353_3 hx353_4 hHeld ⊢
                              refine pure_ (i := 0) (N := some 106) (v := ?_) (a' := ?_) #[true, false, false, false, false, false, false, false, false, false, false, false] rfl rfl (any_of HT_.out (by kernel_rfl)) (fun _ _ _ h => h) (Or.inl ⟨by rfl, ?_⟩) ?_ ?_
                              rotate_left
                              ·intro w'
                               go_simp
                               with_reducible rfl
                              rotate_left
                              ·simp only [Act.put, List.setIfInBounds_toArray, List.set_cons_zero, List.set_cons_succ, i64_w, i32_w]
                               rfl
                              refine pure_ (i := 1) (N := some 107) (v := ?_) (a' := ?_) #[true, true, false, false, false, false, false, false, false, false, false, false] rfl rfl (any_of HT_.out (by kernel_rfl)) (fun _ _ _ h => h) (Or.inl ⟨by rfl, ?_⟩) ?_ ?_
                              rotate_left
                              ·intro w'
                               go_simp
                               with_reducible rfl
                              rotate_left
                              ·simp only [Act.put, List.setIfInBounds_toArray, List.set_cons_zero, List.set_cons_succ, i64_w, i32_w]
                               rfl
                              refine pure_ (i := 2) (N := some 108) (v := ?_) (a' := ?_) #[true, true, true, false, false, false, false, false, false, false, false, false] rfl rfl (any_of HT_.out (by kernel_rfl)) (fun _ _ _ h => h) (Or.inl ⟨by rfl, ?_⟩) ?_ ?_
                              rotate_left
                              ·intro w'
                               go_simp
                               with_reducible rfl
                              rotate_left
                              ·simp only [Act.put, List.setIfInBounds_toArray, List.set_cons_zero, List.set_cons_succ, i64_w, i32_w]
                               rfl
                              refine pure_ (i := 4) (N := some 110) (v := ?_) (a' := ?_) #[true, true, true, false, true, false, false, false, false, false, false, false] rfl rfl (any_of HT_.out (by kernel_rfl)) (fun _ _ _ h => h) (Or.inl ⟨by rfl, ?_⟩) ?_ ?_
                              rotate_left
                              ·intro w'
                               go_simp
                               with_reducible rfl
                              rotate_left
                              ·simp only [Act.put, List.setIfInBounds_toArray, List.set_cons_zero, List.set_cons_succ, i64_w, i32_w]
                               rfl
                              refine pure_ (i := 5) (N := some 111) (v := ?_) (a' := ?_) #[true, true, true, false, true, true, false, false, false, false, false, false] rfl rfl (any_of HT_.out (by kernel_rfl)) (fun _ _ _ h => h) (Or.inl ⟨by rfl, ?_⟩) ?_ ?_
                              rotate_left
                              ·intro w'
                               go_simp
                               with_reducible rfl
                              rotate_left
                              ·simp only [Act.put, List.setIfInBounds_toArray, List.set_cons_zero, List.set_cons_succ, i64_w, i32_w]
                               rfl
                              refine pure_ (i := 6) (N := some 112) (v := ?_) (a' := ?_) #[true, true, true, false, true, true, true, false, false, false, false, false] rfl rfl (any_of HT_.out (by kernel_rfl)) (fun _ _ _ h => h) (Or.inl ⟨by rfl, ?_⟩) ?_ ?_
                              rotate_left
                              ·intro w'
                               go_simp
                               with_reducible rfl
                              rotate_left
                              ·simp only [Act.put, List.setIfInBounds_toArray, List.set_cons_zero, List.set_cons_succ, i64_w, i32_w]
                               rfl
                              refine pure_ (i := 8) (N := some 114) (v := ?_) (a' := ?_) #[true, true, true, false, true, true, true, false, true, false, false, false] rfl rfl (any_of HT_.out (by kernel_rfl)) (fun _ _ _ h => h) (Or.inl ⟨by rfl, ?_⟩) ?_ ?_
                              rotate_left
                              ·intro w'
                               go_simp
                               with_reducible rfl
                              rotate_left
                              ·simp only [Act.put, List.setIfInBounds_toArray, List.set_cons_zero, List.set_cons_succ, i64_w, i32_w]
                               rfl
                              refine pure_ (i := 9) (N := some 115) (v := ?_) (a' := ?_) #[true, true, true, false, true, true, true, false, true, true, false, false] rfl rfl (any_of HT_.out (by kernel_rfl)) (fun _ _ _ h => h) (Or.inl ⟨by rfl, ?_⟩) ?_ ?_
                              rotate_left
                              ·intro w'
                               go_simp
                               with_reducible rfl
                              rotate_left
                              ·simp only [Act.put, List.setIfInBounds_toArray, List.set_cons_zero, List.set_cons_succ, i64_w, i32_w]
                               rfl
                              refine take_ (i := 3) (N := some 109) (v := ?_) (a' := ?_) #[true, true, true, true, true, true, true, false, true, true, false, false] rfl rfl (take_ofW HT_.out HW_.out (by kernel_rfl)) (fun _ _ _ h => h) (Or.inl ⟨by rfl, ?_⟩) hHeld ?_ ?_
                              rotate_left
                              ·rintro w' ⟨s0, s1, s2, s3, s4, s5, s6, s7, s8, s9⟩
                               try simp only [Int.toNat_natCast] at s0 s1 s2 s3 s4 s5 s6 s7 s8 s9
                               go_simp
                               with_reducible rfl
                              rotate_left
                              ·simp only [Act.put, List.setIfInBounds_toArray, List.set_cons_zero, List.set_cons_succ, i64_w, i32_w]
                               rfl
                              refine take_ (i := 7) (N := some 113) (v := ?_) (a' := ?_) #[true, true, true, true, true, true, true, true, true, true, false, false] rfl rfl (take_ofW HT_.out HW_.out (by kernel_rfl)) (fun _ _ _ h => h) (Or.inl ⟨by rfl, ?_⟩) hHeld ?_ ?_
                              rotate_left
                              ·rintro w' ⟨s0, s1, s2, s3, s4, s5, s6, s7, s8, s9⟩
                               try simp only [Int.toNat_natCast] at s0 s1 s2 s3 s4 s5 s6 s7 s8 s9
                               go_simp
                               with_reducible rfl
                              rotate_left
                              ·simp only [Act.put, List.setIfInBounds_toArray, List.set_cons_zero, List.set_cons_succ, i64_w, i32_w]
                               rfl
                              refine one_ (i := 10) (N := some 116) #[true, true, true, true, true, true, true, true, true, true, true, false] rfl rfl (one_of HT_.out (by kernel_rfl)) (by decide) (fun K hK => ?_)
                              refine goes_ Try.func36 (by kernel_rfl) rfl #[.agg #[.int .i64 ((rd_T70 t319 x13_2).f0), .int .i64 ((rd_T70 t319 x13_2).f1), .string ((rd_T70 t319 x13_2).f2), .slice A352_3 ((rd_T70 t319 x13_2).f3).length c352_3, .slice A352_4 ((rd_T70 t319 x13_2).f4).length c352_4], .agg #[.int .i64 ((rd_T70 t322 t328).f0), .int .i64 ((rd_T70 t322 t328).f1), .string ((rd_T70 t322 t328).f2), .slice A353_3 ((rd_T70 t322 t328).f3).length c353_3, .slice A353_4 ((rd_T70 t322 t328).f4).length c353_4], .slice (some ad327) l2.length c2, .slice A3 l3.length c3] (by rfl) rfl rfl MX ?_
                              with_reducible refine (treemergeref31_sameKids.calls kj55 ((rd_T70 t319 x13_2).f0) ((rd_T70 t319 x13_2).f1) ((rd_T70 t319 x13_2).f2) _ _ ((rd_T70 t319 x13_2).f3) _ _ ((rd_T70 t319 x13_2).f4) ((rd_T70 t322 t328).f0) ((rd_T70 t322 t328).f1) ((rd_T70 t322 t328).f2) _ _ ((rd_T70 t322 t328).f3) _ _ ((rd_T70 t322 t328).f4) _ _ l2 _ _ l3 false _ ?side1 ?side2 ?side3 ?side4 ?side5 ?side6 ?side7 ?side8 ?side9 ?side10 ?side11 ?side12 A67.out).mono ?_
                              (case side1 => repeat (first | exact (by repeat (first | (with_reducible exact HR352_3.out) | (with_reducible refine Kd.C_alloc ?_ _) | (with_reducible refine Kd.C_drewN ?_ _) | (with_reducible refine Kd.C_drew ?_) | exact HR352_3.out)) | (with_reducible refine Kd.C_alloc ?_ _) | (with_reducible refine Kd.C_drewN ?_ _) | (with_reducible refine Kd.C_drew ?_)))
                              (case side2 => exact HC352_3.out)
                              (case side3 => repeat (first | exact (by repeat (first | (with_reducible exact HR352_4.out) | (with_reducible refine Kd.C_alloc ?_ _) | (with_reducible refine Kd.C_drewN ?_ _) | (with_reducible refine Kd.C_drew ?_) | exact HR352_4.out)) | (with_reducible refine Kd.C_alloc ?_ _) | (with_reducible refine Kd.C_drewN ?_ _) | (with_reducible refine Kd.C_drew ?_)))
                              (case side4 => exact HC352_4.out)
                              (case side5 => repeat (first | exact (by repeat (first | (with_reducible exact HR353_3.out) | (with_reducible refine Kd.C_alloc ?_ _) | (with_reducible refine Kd.C_drewN ?_ _) | (with_reducible refine Kd.C_drew ?_) | exact HR353_3.out)) | (with_reducible refine Kd.C_alloc ?_ _) | (with_reducible refine Kd.C_drewN ?_ _) | (with_reducible refine Kd.C_drew ?_)))
                              (case side6 => exact HC353_3.out)
                              (case side7 => repeat (first | exact (by repeat (first | (with_reducible exact HR353_4.out) | (with_reducible refine Kd.C_alloc ?_ _) | (with_reducible refine Kd.C_drewN ?_ _) | (with_reducible refine Kd.C_drew ?_) | exact HR353_4.out)) | (with_reducible refine Kd.C_alloc ?_ _) | (with_reducible refine Kd.C_drewN ?_ _) | (with_reducible refine Kd.C_drew ?_)))
                              (case side8 => exact HC353_4.out)
                              (case side9 => exact CX (Kd.C_below HR2.out HB.out))
                              (case side10 => exact HC2.out)
                              (case side11 => exact CX (Kd.C_below HR3.out HB.out))
                              (case side12 => exact HC3.out)
                              rintro e w74 ⟨rfl, hb⟩
                              have HS0_ := (hb.cell (World.block_lt_of_cell? _ _ (hHeld.1))).trans (hHeld.1)
                              have HS1_ := (hb.cell (World.block_lt_of_cell? _ _ (hHeld.2.1))).trans (hHeld.2.1)
                              have HS2_ := (hb.cell (World.block_lt_of_cell? _ _ (hHeld.2.2.1))).trans (hHeld.2.2.1)
                              have HS3_ := (hb.cell (World.block_lt_of_cell? _ _ (hHeld.2.2.2.1))).trans (hHeld.2.2.2.1)
                              have HS4_ := (hb.cell (World.block_lt_of_cell? _ _ (hHeld.2.2.2.2.1))).trans (hHeld.2.2.2.2.1)
                              have HS5_ := (hb.cell (World.block_lt_of_cell? _ _ (hHeld.2.2.2.2.2.1))).trans (hHeld.2.2.2.2.2.1)
                              have HS6_ := (hb.cell (World.block_lt_of_cell? _ _ (hHeld.2.2.2.2.2.2.1))).trans (hHeld.2.2.2.2.2.2.1)
                              have HS7_ := (hb.cell (World.block_lt_of_cell? _ _ (hHeld.2.2.2.2.2.2.2.1))).trans (hHeld.2.2.2.2.2.2.2.1)
                              have HS8_ := (hb.cell (World.block_lt_of_cell? _ _ (hHeld.2.2.2.2.2.2.2.2.1))).trans (hHeld.2.2.2.2.2.2.2.2.1)
                              have HS9_ := (hb.cell (World.block_lt_of_cell? _ _ (hHeld.2.2.2.2.2.2.2.2.2))).trans (hHeld.2.2.2.2.2.2.2.2.2)
                              refine ⟨_, rfl, ?_⟩
                              have n0_ := Aside0.mk (Kd.N_below (by (with_reducible repeat (first | apply Kd.N_alloc | apply Kd.N_drewN | apply Kd.N_drew)); exact HO_10.out) hb)
                              have n1_ := Aside0.mk (Kd.N_below (by (with_reducible repeat (first | apply Kd.N_alloc | apply Kd.N_drewN | apply Kd.N_drew)); exact HO_11.out) hb)
                              have n2_ := Aside0.mk (Kd.R_below (RX HO_12.out) hb)
                              have n3_ := Aside0.mk (Kd.V_below (by (with_reducible repeat (first | apply Kd.V_alloc | apply Kd.V_drewN | apply Kd.V_drew)); exact HL352_3.out) hb)
                              have n4_ := Aside0.mk (Kd.V_below (by (with_reducible repeat (first | apply Kd.V_alloc | apply Kd.V_drewN | apply Kd.V_drew)); exact HL352_4.out) hb)
                              have n5_ := Aside0.mk (Kd.V_below (by (with_reducible repeat (first | apply Kd.V_alloc | apply Kd.V_drewN | apply Kd.V_drew)); exact HL353_3.out) hb)
                              have n6_ := Aside0.mk (Kd.V_below (by (with_reducible repeat (first | apply Kd.V_alloc | apply Kd.V_drewN | apply Kd.V_drew)); exact HL353_4.out) hb)
                              have n7_ := Aside0.mk (blk_below (g := gb317) (o := .cells #[.int .i64 a0_0, .string a0_1, .slice A0_2 l0_2.length c0_2, .slice A0_3 l0_3.length c0_3] 25 (0, 0)) (by (with_reducible repeat (first | refine blk_drewN ?_ _ | refine blk_drew ?_ | refine blk_alloc ?_ _)); exact BK317.out) hb)
                              have n8_ := Aside0.mk (blk_below (g := gb318) (o := .cells #[.int .i64 a1_0, .string a1_1, .slice A1_2 l1_2.length c1_2, .slice A1_3 l1_3.length c1_3] 25 (0, 0)) (by (with_reducible repeat (first | refine blk_drewN ?_ _ | refine blk_drew ?_ | refine blk_alloc ?_ _)); exact BK318.out) hb)
                              (first | (with_reducible have n9_ := Aside0.mk (Kd.C_below HR339_3.out hb)) | (with_reducible have n9_ := Aside0.mk (Kd.C_below (Kd.C_drewN HR339_3.out _) hb)) | have n9_ := Aside0.mk (Kd.C_below (by repeat (first | (with_reducible exact HR339_3.out) | (with_reducible refine Kd.C_alloc ?_ _) | (with_reducible refine Kd.C_drewN ?_ _) | (with_reducible refine Kd.C_drew ?_) | exact HR339_3.out)) hb))
                              (first | (with_reducible have n10_ := Aside0.mk (Kd.C_below HR339_4.out hb)) | (with_reducible have n10_ := Aside0.mk (Kd.C_below (Kd.C_drewN HR339_4.out _) hb)) | have n10_ := Aside0.mk (Kd.C_below (by repeat (first | (with_reducible exact HR339_4.out) | (with_reducible refine Kd.C_alloc ?_ _) | (with_reducible refine Kd.C_drewN ?_ _) | (with_reducible refine Kd.C_drew ?_) | exact HR339_4.out)) hb))
                              (first | (with_reducible have n11_ := Aside0.mk (Kd.C_below HR340_3.out hb)) | (with_reducible have n11_ := Aside0.mk (Kd.C_below (Kd.C_drewN HR340_3.out _) hb)) | have n11_ := Aside0.mk (Kd.C_below (by repeat (first | (with_reducible exact HR340_3.out) | (with_reducible refine Kd.C_alloc ?_ _) | (with_reducible refine Kd.C_drewN ?_ _) | (with_reducible refine Kd.C_drew ?_) | exact HR340_3.out)) hb))
                              (first | (with_reducible have n12_ := Aside0.mk (Kd.C_below HR340_4.out hb)) | (with_reducible have n12_ := Aside0.mk (Kd.C_below (Kd.C_drewN HR340_4.out _) hb)) | have n12_ := Aside0.mk (Kd.C_below (by repeat (first | (with_reducible exact HR340_4.out) | (with_reducible refine Kd.C_alloc ?_ _) | (with_reducible refine Kd.C_drewN ?_ _) | (with_reducible refine Kd.C_drew ?_) | exact HR340_4.out)) hb))
                              (first | (with_reducible have n13_ := Aside0.mk (Kd.C_below HR345_3.out hb)) | (with_reducible have n13_ := Aside0.mk (Kd.C_below (Kd.C_drewN HR345_3.out _) hb)) | have n13_ := Aside0.mk (Kd.C_below (by repeat (first | (with_reducible exact HR345_3.out) | (with_reducible refine Kd.C_alloc ?_ _) | (with_reducible refine Kd.C_drewN ?_ _) | (with_reducible refine Kd.C_drew ?_) | exact HR345_3.out)) hb))
                              (first | (with_reducible have n14_ := Aside0.mk (Kd.C_below HR345_4.out hb)) | (with_reducible have n14_ := Aside0.mk (Kd.C_below (Kd.C_drewN HR345_4.out _) hb)) | have n14_ := Aside0.mk (Kd.C_below (by repeat (first | (with_reducible exact HR345_4.out) | (with_reducible refine Kd.C_alloc ?_ _) | (with_reducible refine Kd.C_drewN ?_ _) | (with_reducible refine Kd.C_drew ?_) | exact HR345_4.out)) hb))
                              (first | (with_reducible have n15_ := Aside0.mk (Kd.C_below HR346_3.out hb)) | (with_reducible have n15_ := Aside0.mk (Kd.C_below (Kd.C_drewN HR346_3.out _) hb)) | have n15_ := Aside0.mk (Kd.C_below (by repeat (first | (with_reducible exact HR346_3.out) | (with_reducible refine Kd.C_alloc ?_ _) | (with_reducible refine Kd.C_drewN ?_ _) | (with_reducible refine Kd.C_drew ?_) | exact HR346_3.out)) hb))
                              (first | (with_reducible have n16_ := Aside0.mk (Kd.C_below HR346_4.out hb)) | (with_reducible have n16_ := Aside0.mk (Kd.C_below (Kd.C_drewN HR346_4.out _) hb)) | have n16_ := Aside0.mk (Kd.C_below (by repeat (first | (with_reducible exact HR346_4.out) | (with_reducible refine Kd.C_alloc ?_ _) | (with_reducible refine Kd.C_drewN ?_ _) | (with_reducible refine Kd.C_drew ?_) | exact HR346_4.out)) hb))
                              (first | (with_reducible have n17_ := Aside0.mk (Kd.C_below HR352_3.out hb)) | (with_reducible have n17_ := Aside0.mk (Kd.C_below (Kd.C_drewN HR352_3.out _) hb)) | have n17_ := Aside0.mk (Kd.C_below (by repeat (first | (with_reducible exact HR352_3.out) | (with_reducible refine Kd.C_alloc ?_ _) | (with_reducible refine Kd.C_drewN ?_ _) | (with_reducible refine Kd.C_drew ?_) | exact HR352_3.out)) hb))
                              (first | (with_reducible have n18_ := Aside0.mk (Kd.C_below HR352_4.out hb)) | (with_reducible have n18_ := Aside0.mk (Kd.C_below (Kd.C_drewN HR352_4.out _) hb)) | have n18_ := Aside0.mk (Kd.C_below (by repeat (first | (with_reducible exact HR352_4.out) | (with_reducible refine Kd.C_alloc ?_ _) | (with_reducible refine Kd.C_drewN ?_ _) | (with_reducible refine Kd.C_drew ?_) | exact HR352_4.out)) hb))
                              (first | (with_reducible have n19_ := Aside0.mk (Kd.C_below HR353_3.out hb)) | (with_reducible have n19_ := Aside0.mk (Kd.C_below (Kd.C_drewN HR353_3.out _) hb)) | have n19_ := Aside0.mk (Kd.C_below (by repeat (first | (with_reducible exact HR353_3.out) | (with_reducible refine Kd.C_alloc ?_ _) | (with_reducible refine Kd.C_drewN ?_ _) | (with_reducible refine Kd.C_drew ?_) | exact HR353_3.out)) hb))
                              (first | (with_reducible have n20_ := Aside0.mk (Kd.C_below HR353_4.out hb)) | (with_reducible have n20_ := Aside0.mk (Kd.C_below (Kd.C_drewN HR353_4.out _) hb)) | have n20_ := Aside0.mk (Kd.C_below (by repeat (first | (with_reducible exact HR353_4.out) | (with_reducible refine Kd.C_alloc ?_ _) | (with_reducible refine Kd.C_drewN ?_ _) | (with_reducible refine Kd.C_drew ?_) | exact HR353_4.out)) hb))
                              have n21_ := Aside0.mk (below_step (by repeat (first | (with_reducible first | exact HB.out | apply below_alloc | apply pw_below_drewN | apply below_drew1 | refine below_set ?_ GE317.out | refine below_set ?_ GE318.out) | exact HB.out)) hb)
                              clear HO_10
                              clear HO_11
                              clear HO_12
                              clear HL352_3
                              clear HL352_4
                              clear HL353_3
                              clear HL353_4
                              clear BK317
                              clear BK318
                              clear HR339_3
                              clear HR339_4
                              clear HR340_3
                              clear HR340_4
                              clear HR345_3
                              clear HR345_4
                              clear HR346_3
                              clear HR346_4
                              clear HR352_3
                              clear HR352_4
                              clear HR353_3
                              clear HR353_4
                              clear HB
                              have HO_10 := n0_
                              have HO_11 := n1_
                              have HO_12 := n2_
                              have HL352_3 := n3_
                              have HL352_4 := n4_
                              have HL353_3 := n5_
                              have HL353_4 := n6_
                              have BK317 := n7_
                              have BK318 := n8_
                              have HR339_3 := n9_
                              have HR339_4 := n10_
                              have HR340_3 := n11_
                              have HR340_4 := n12_
                              have HR345_3 := n13_
                              have HR345_4 := n14_
                              have HR346_3 := n15_
                              have HR346_4 := n16_
                              have HR352_3 := n17_
                              have HR352_4 := n18_
                              have HR353_3 := n19_
                              have HR353_4 := n20_
                              have HB := n21_
                              clear n0_ n1_ n2_ n3_ n4_ n5_ n6_ n7_ n8_ n9_ n10_ n11_ n12_ n13_ n14_ n15_ n16_ n17_ n18_ n19_ n20_ n21_
                              (try clear hb)
                              (try clear hb2)
                              (try clear hk)
                              (try clear hi)
                              refine hK.out _ _ ⟨HS0_, HS1_, HS2_, HS3_, HS4_, HS5_, HS6_, HS7_, HS8_, HS9_⟩ (fun hHeld => ?_)
                              clear hK K
                              refine norm_ (a' := ?_) ?_ ?_
                              rotate_left
                              ·show Act.put _ (some 116) _ = _
                               simp only [Act.put, List.setIfInBounds_toArray, List.set_cons_zero, List.set_cons_succ, i64_w, i32_w]
                               rfl
                              refine pure_ (i := 11) (N := some 117) (v := ?_) (a' := ?_) #[true, true, true, true, true, true, true, true, true, true, true, true] rfl rfl (any_of HT_.out (by kernel_rfl)) (fun _ _ _ h => h) (Or.inl ⟨by rfl, ?_⟩) ?_ ?_
                              rotate_left
                              ·intro w'
                               go_simp
                               with_reducible rfl
                              rotate_left
                              ·simp only [Act.put, List.setIfInBounds_toArray, List.set_cons_zero, List.set_cons_succ, i64_w, i32_w]
                               rfl
                              refine done_ (done_of HT_.out (by kernel_rfl)) ?_
                              have p355 : 0 ≤ (x13_2 : Int) := of_decide_eq_true AX
                              have q355 : x13_2 < (l2.length : Int) := of_decide_eq_true AX
                              obtain ⟨ad355, e355, hx355_0⟩ := Kd.at_int HR2.out x13_2 p355 q355
                              obtain rfl : ad327 = ad355 := (by injection e355)
                              replace hx355_0 := (HB.out.cell (World.block_lt_of_cell? w _ hx355_0)).trans hx355_0
                              replace p355 := eq_true p355
                              replace q355 := eq_true q355
                              obtain ⟨Ao75, co75, eo75⟩ := Kd.R_slice HO_12.out
                              subst eo75
                              try go_wp2_with (first | ((with_reducible refine gate_callee (f := 33) rfl ?_); refine goesL_ (some 124) rfl rfl Try.func33 (by kernel_rfl) rfl #[.slice Ao75 x12_55.length co75, .agg #[.int .i64 (rd l2 x13_2), .int .i64 6]] rfl MX ?_; (with_reducible refine (treemergeref31_Insert.calls kj55 _ _ x12_55 (rd l2 x13_2) 6 t356 _ ?side1 ?side2 A72.out).mono ?_); (case side1 => exact CX ((Kd.R_reads' HO_12.out).2.2)); (case side2 => exact (Kd.R_reads' HO_12.out).2.1); rintro e w76 ⟨v357, rfl, ho0, hb⟩; refine ⟨_, rfl, ?_⟩; have n0_ := Aside0.mk (Kd.N_elder' (by (with_reducible repeat (first | apply Kd.N_alloc | apply Kd.N_drewN | apply Kd.N_drew)); exact HO_10.out) (Kd.R_base ho0) hb); have n1_ := Aside0.mk (Kd.N_elder' (by (with_reducible repeat (first | apply Kd.N_alloc | apply Kd.N_drewN | apply Kd.N_drew)); exact HO_11.out) (Kd.R_base ho0) hb); have n2_ := Aside0.mk (Kd.R_elder' (RX HO_12.out) (Kd.R_base ho0) hb); have n3_ := Aside0.mk (Kd.V_elder' (by (with_reducible repeat (first | apply Kd.V_alloc | apply Kd.V_drewN | apply Kd.V_drew)); exact HL352_3.out) (Kd.R_base ho0) hb); have n4_ := Aside0.mk (Kd.V_elder' (by (with_reducible repeat (first | apply Kd.V_alloc | apply Kd.V_drewN | apply Kd.V_drew)); exact HL352_4.out) (Kd.R_base ho0) hb); have n5_ := Aside0.mk (Kd.V_elder' (by (with_reducible repeat (first | apply Kd.V_alloc | apply Kd.V_drewN | apply Kd.V_drew)); exact HL353_3.out) (Kd.R_base ho0) hb); have n6_ := Aside0.mk (Kd.V_elder' (by (with_reducible repeat (first | apply Kd.V_alloc | apply Kd.V_drewN | apply Kd.V_drew)); exact HL353_4.out) (Kd.R_base ho0) hb); have n7_ := Aside0.mk (Kd.R_lower (Kd.R_new' ho0 (Kd.R_lt (RX HO_12.out))) (below_size (by repeat (first | (with_reducible first | exact HB.out | apply below_alloc | apply pw_below_drewN | apply below_drew1 | refine below_set ?_ GE317.out | refine below_set ?_ GE318.out) | exact HB.out)))); have n8_ := Aside0.mk (blk_below (g := gb317) (o := .cells #[.int .i64 a0_0, .string a0_1, .slice A0_2 l0_2.length c0_2, .slice A0_3 l0_3.length c0_3] 25 (0, 0)) (by (with_reducible repeat (first | refine blk_drewN ?_ _ | refine blk_drew ?_ | refine blk_alloc ?_ _)); exact BK317.out) hb); have n9_ := Aside0.mk (blk_below (g := gb318) (o := .cells #[.int .i64 a1_0, .string a1_1, .slice A1_2 l1_2.length c1_2, .slice A1_3 l1_3.length c1_3] 25 (0, 0)) (by (with_reducible repeat (first | refine blk_drewN ?_ _ | refine blk_drew ?_ | refine blk_alloc ?_ _)); exact BK318.out) hb); (first | (with_reducible have n10_ := Aside0.mk (Kd.C_below HR339_3.out hb)) | (with_reducible have n10_ := Aside0.mk (Kd.C_below (Kd.C_drewN HR339_3.out _) hb)) | have n10_ := Aside0.mk (Kd.C_below (by repeat (first | (with_reducible exact HR339_3.out) | (with_reducible refine Kd.C_alloc ?_ _) | (with_reducible refine Kd.C_drewN ?_ _) | (with_reducible refine Kd.C_drew ?_) | exact HR339_3.out)) hb)); (first | (with_reducible have n11_ := Aside0.mk (Kd.C_below HR339_4.out hb)) | (with_reducible have n11_ := Aside0.mk (Kd.C_below (Kd.C_drewN HR339_4.out _) hb)) | have n11_ := Aside0.mk (Kd.C_below (by repeat (first | (with_reducible exact HR339_4.out) | (with_reducible refine Kd.C_alloc ?_ _) | (with_reducible refine Kd.C_drewN ?_ _) | (with_reducible refine Kd.C_drew ?_) | exact HR339_4.out)) hb)); (first | (with_reducible have n12_ := Aside0.mk (Kd.C_below HR340_3.out hb)) | (with_reducible have n12_ := Aside0.mk (Kd.C_below (Kd.C_drewN HR340_3.out _) hb)) | have n12_ := Aside0.mk (Kd.C_below (by repeat (first | (with_reducible exact HR340_3.out) | (with_reducible refine Kd.C_alloc ?_ _) | (with_reducible refine Kd.C_drewN ?_ _) | (with_reducible refine Kd.C_drew ?_) | exact HR340_3.out)) hb)); (first | (with_reducible have n13_ := Aside0.mk (Kd.C_below HR340_4.out hb)) | (with_reducible have n13_ := Aside0.mk (Kd.C_below (Kd.C_drewN HR340_4.out _) hb)) | have n13_ := Aside0.mk (Kd.C_below (by repeat (first | (with_reducible exact HR340_4.out) | (with_reducible refine Kd.C_alloc ?_ _) | (with_reducible refine Kd.C_drewN ?_ _) | (with_reducible refine Kd.C_drew ?_) | exact HR340_4.out)) hb)); (first | (with_reducible have n14_ := Aside0.mk (Kd.C_below HR345_3.out hb)) | (with_reducible have n14_ := Aside0.mk (Kd.C_below (Kd.C_drewN HR345_3.out _) hb)) | have n14_ := Aside0.mk (Kd.C_below (by repeat (first | (with_reducible exact HR345_3.out) | (with_reducible refine Kd.C_alloc ?_ _) | (with_reducible refine Kd.C_drewN ?_ _) | (with_reducible refine Kd.C_drew ?_) | exact HR345_3.out)) hb)); (first | (with_reducible have n15_ := Aside0.mk (Kd.C_below HR345_4.out hb)) | (with_reducible have n15_ := Aside0.mk (Kd.C_below (Kd.C_drewN HR345_4.out _) hb)) | have n15_ := Aside0.mk (Kd.C_below (by repeat (first | (with_reducible exact HR345_4.out) | (with_reducible refine Kd.C_alloc ?_ _) | (with_reducible refine Kd.C_drewN ?_ _) | (with_reducible refine Kd.C_drew ?_) | exact HR345_4.out)) hb)); (first | (with_reducible have n16_ := Aside0.mk (Kd.C_below HR346_3.out hb)) | (with_reducible have n16_ := Aside0.mk (Kd.C_below (Kd.C_drewN HR346_3.out _) hb)) | have n16_ := Aside0.mk (Kd.C_below (by repeat (first | (with_reducible exact HR346_3.out) | (with_reducible refine Kd.C_alloc ?_ _) | (with_reducible refine Kd.C_drewN ?_ _) | (with_reducible refine Kd.C_drew ?_) | exact HR346_3.out)) hb)); (first | (with_reducible have n17_ := Aside0.mk (Kd.C_below HR346_4.out hb)) | (with_reducible have n17_ := Aside0.mk (Kd.C_below (Kd.C_drewN HR346_4.out _) hb)) | have n17_ := Aside0.mk (Kd.C_below (by repeat (first | (with_reducible exact HR346_4.out) | (with_reducible refine Kd.C_alloc ?_ _) | (with_reducible refine Kd.C_drewN ?_ _) | (with_reducible refine Kd.C_drew ?_) | exact HR346_4.out)) hb)); (first | (with_reducible have n18_ := Aside0.mk (Kd.C_below HR352_3.out hb)) | (with_reducible have n18_ := Aside0.mk (Kd.C_below (Kd.C_drewN HR352_3.out _) hb)) | have n18_ := Aside0.mk (Kd.C_below (by repeat (first | (with_reducible exact HR352_3.out) | (with_reducible refine Kd.C_alloc ?_ _) | (with_reducible refine Kd.C_drewN ?_ _) | (with_reducible refine Kd.C_drew ?_) | exact HR352_3.out)) hb)); (first | (with_reducible have n19_ := Aside0.mk (Kd.C_below HR352_4.out hb)) | (with_reducible have n19_ := Aside0.mk (Kd.C_below (Kd.C_drewN HR352_4.out _) hb)) | have n19_ := Aside0.mk (Kd.C_below (by repeat (first | (with_reducible exact HR352_4.out) | (with_reducible refine Kd.C_alloc ?_ _) | (with_reducible refine Kd.C_drewN ?_ _) | (with_reducible refine Kd.C_drew ?_) | exact HR352_4.out)) hb)); (first | (with_reducible have n20_ := Aside0.mk (Kd.C_below HR353_3.out hb)) | (with_reducible have n20_ := Aside0.mk (Kd.C_below (Kd.C_drewN HR353_3.out _) hb)) | have n20_ := Aside0.mk (Kd.C_below (by repeat (first | (with_reducible exact HR353_3.out) | (with_reducible refine Kd.C_alloc ?_ _) | (with_reducible refine Kd.C_drewN ?_ _) | (with_reducible refine Kd.C_drew ?_) | exact HR353_3.out)) hb)); (first | (with_reducible have n21_ := Aside0.mk (Kd.C_below HR353_4.out hb)) | (with_reducible have n21_ := Aside0.mk (Kd.C_below (Kd.C_drewN HR353_4.out _) hb)) | have n21_ := Aside0.mk (Kd.C_below (by repeat (first | (with_reducible exact HR353_4.out) | (with_reducible refine Kd.C_alloc ?_ _) | (with_reducible refine Kd.C_drewN ?_ _) | (with_reducible refine Kd.C_drew ?_) | exact HR353_4.out)) hb)); have n22_ := Aside0.mk (below_step (by repeat (first | (with_reducible first | exact HB.out | apply below_alloc | apply pw_below_drewN | apply below_drew1 | refine below_set ?_ GE317.out | refine below_set ?_ GE318.out) | exact HB.out)) hb); clear HO_10; clear HO_11; clear HO_12; clear HL352_3; clear HL352_4; clear HL353_3; clear HL353_4; clear BK317; clear BK318; clear HR339_3; clear HR339_4; clear HR340_3; clear HR340_4; clear HR345_3; clear HR345_4; clear HR346_3; clear HR346_4; clear HR352_3; clear HR352_4; clear HR353_3; clear HR353_4; clear HB; have HO_10 := n0_; have HO_11 := n1_; have HO_12 := n2_; have HL352_3 := n3_; have HL352_4 := n4_; have HL353_3 := n5_; have HL353_4 := n6_; have HO358 := n7_; have BK317 := n8_; have BK318 := n9_; have HR339_3 := n10_; have HR339_4 := n11_; have HR340_3 := n12_; have HR340_4 := n13_; have HR345_3 := n14_; have HR345_4 := n15_; have HR346_3 := n16_; have HR346_4 := n17_; have HR352_3 := n18_; have HR352_4 := n19_; have HR353_3 := n20_; have HR353_4 := n21_; have HB := n22_; clear n0_ n1_ n2_ n3_ n4_ n5_ n6_ n7_ n8_ n9_ n10_ n11_ n12_ n13_ n14_ n15_ n16_ n17_ n18_ n19_ n20_ n21_ n22_; (try clear hb); (try clear hb2); (try clear hk); (try clear hi); (try clear ho0)))
                              go_roundg kj55
                              case measure => have := HJ6.out; have := HK2.out; have := HJ32.out; have := HJ43.out; have := HJ55.out; omega
                              case rel => exact ⟨(t356), (wrap64 (x13_2 + 1)), SX, H', ⟨by have := HJ6.out; have := HK2.out; have := HJ32.out; have := HJ43.out; have := HJ55.out; omega⟩, ⟨by (with_reducible repeat (first | apply Kd.N_alloc | apply Kd.N_drewN | apply Kd.N_drew)); exact Kd.N_mono HO_10.out (fun _ hk => ⟨hk.1.1, ⟨hk.2, ⟨hk.1.2.2.1, hk.1.2.2.2⟩⟩⟩)⟩, ⟨by (with_reducible repeat (first | apply Kd.N_alloc | apply Kd.N_drewN | apply Kd.N_drew)); exact Kd.N_mono HO_11.out (fun _ hk => ⟨hk.1.1, ⟨hk.2, ⟨hk.1.2.2.1, hk.1.2.2.2⟩⟩⟩)⟩, ⟨by (with_reducible repeat (first | apply Kd.R_alloc | apply Kd.R_drewN | apply Kd.R_drew)); exact Kd.R_mono HO358.out (fun _ hk => trivial)⟩, ⟨by (with_reducible repeat (first | refine blk_drewN ?_ _ | refine blk_drew ?_ | refine blk_alloc ?_ _)); exact BK317.out⟩, ⟨by (with_reducible repeat (first | refine blk_drewN ?_ _ | refine blk_drew ?_ | refine blk_alloc ?_ _)); exact BK318.out⟩, ⟨by repeat (first | (with_reducible first | exact HB.out | apply below_alloc | apply pw_below_drewN | apply below_drew1 | refine below_set ?_ GE317.out | refine below_set ?_ GE318.out) | exact HB.out)⟩⟩
                             ·rw [if_neg c71] at H
                              exact absurd H (by simp)
                           ·rw [if_neg c66] at H
                            exact absurd H (by simp)
                          ·rw [if_neg c65] at H
                           exact absurd H (by simp)
                         ·rw [if_neg c64] at H
                          exact absurd H (by simp)
                        ·rw [if_neg c63] at H
                         exact absurd H (by simp)
                     ·rw [if_neg c54] at H
                      exact absurd H (by simp)
                    ·rw [if_neg c53] at H
                     exact absurd H (by simp)
                   ·rw [if_neg c52] at H
                    exact absurd H (by simp)
                  ·rw [if_neg c51] at H
                   exact absurd H (by simp)
               ·rw [if_neg c43] at H
                exact absurd H (by simp)
              ·rw [if_neg c42] at H
               exact absurd H (by simp)
             ·rw [if_neg c41] at H
              exact absurd H (by simp)
            ·rw [if_neg c40] at H
             exact absurd H (by simp)
        ·rw [if_neg c24] at H
         exact absurd H (by simp)
       ·rw [if_neg c23] at H
        exact absurd H (by simp)
      ·rw [if_neg c22] at H
       have c22b0 : decide (x13_2 < (t319.length : Int)) = false := decide_eq_false c22
       clear c22
       have H' := Aside0.mk H
       clear H
       obtain ⟨Ao77, co77, eo77⟩ := Kd.N_slice HO_10.out
       subst eo77
       go_wp2
       go_loopg [12, 15] k2 (fun kq v12 v15 w' => ∃ (x12_3 : List (S48)) (x15_3 : Int), v15 = .int .i64 x15_3 ∧ Aside0 (treemergeref31_List.l1 kq l2 l3 t322 x12_3 x15_3 = some (r1, r2)) ∧ Aside0 (kq ≤ k2) ∧ Aside0 (Kd.N k70 70 w' w.heap.size (fun k_ => some k_ ≠ (v12 : Value).ownBlock ∧ k_ ≠ gb317 ∧ k_ ≠ gb318) v323 t322) ∧ Aside0 (Kd.R k48 48 w' w.heap.size (fun _ => True) v12 x12_3) ∧ Aside0 (w'.heap[gb317]? = some (.cells #[.int .i64 a0_0, .string a0_1, (.slice A0_2 l0_2.length c0_2), (.slice A0_3 l0_3.length c0_3)] 25 (0, 0))) ∧ Aside0 (w'.heap[gb318]? = some (.cells #[.int .i64 a1_0, .string a1_1, (.slice A1_2 l1_2.length c1_2), (.slice A1_3 l1_3.length c1_3)] 25 (0, 0))) ∧ Aside0 (Below w.heap.size w w'))
       case atStart => exact ⟨(x12_2), (0), SX, H', ⟨Nat.le_refl _⟩, ⟨by (with_reducible repeat (first | apply Kd.N_alloc | apply Kd.N_drewN | apply Kd.N_drew)); exact Kd.N_mono HO_11.out (fun _ hk => ⟨hk.2.1, ⟨hk.2.2.1, hk.2.2.2⟩⟩)⟩, ⟨RX HO_12.out⟩, ⟨by (with_reducible repeat (first | refine blk_drewN ?_ _ | refine blk_drew ?_ | refine blk_alloc ?_ _)); exact BK317.out⟩, ⟨by (with_reducible repeat (first | refine blk_drewN ?_ _ | refine blk_drew ?_ | refine blk_alloc ?_ _)); exact BK318.out⟩, ⟨by repeat (first | (with_reducible first | exact HB.out | apply below_alloc | apply pw_below_drewN | apply below_drew1 | refine below_set ?_ GE317.out | refine below_set ?_ GE318.out) | exact HB.out)⟩⟩
       case round =>
        clear H'
        try clear c1
        try clear c2
        try clear p2
        try clear c3
        try clear p3
        try clear q3
        try clear hx3
        try clear c4
        try clear c5
        try clear c6
        try clear p6
        try clear c7
        try clear c22
        try clear c22b0
        try clear c23
        try clear c24
        try clear c33
        try clear c35
        try clear p35
        try clear q35
        try clear hx35
        try clear c36
        try clear c40
        try clear c41
        try clear c42
        try clear c43
        try clear c51
        try clear c52
        try clear c53
        try clear c54
        try clear c63
        try clear c64
        try clear p64
        try clear c65
        try clear c66
        try clear c68
        try clear c71
        try clear c71b0
        try clear hx352_0
        try clear hx352_1
        try clear hx352_2
        try clear hx352_3
        try clear hx352_4
        try clear hx353_0
        try clear hx353_1
        try clear hx353_2
        try clear hx353_3
        try clear hx353_4
        try clear hx355_0
        try clear p352
        try clear p353
        try clear p355
        try clear q352
        try clear q353
        try clear q355
        obtain ⟨x12_3, x15_3, rfl, HA, HK3, HO_11, HO_12, BK317, BK318, HB⟩ := hrel
        cases gk with
        | zero => exact absurd HA.out (by simp [treemergeref31_List.l1])
        | succ k3 =>
         have H := HA.out
         clear HA
         simp only [treemergeref31_List.l1] at H
         by_cases c78 : x15_3 < (t322.length : Int)
         ·rw [if_pos c78] at H
          have c78b0 : decide (x15_3 < (t322.length : Int)) = true := decide_eq_true c78
          clear c78
          by_cases c79 : 0 ≤ x15_3
          ·rw [if_pos c79] at H
           have c79b0 : decide (0 ≤ x15_3) = true := decide_eq_true c79
           clear c79
           by_cases c80 : x15_3 < (l3.length : Int)
           ·rw [if_pos c80] at H
            have c80b0 : decide (x15_3 < (l3.length : Int)) = true := decide_eq_true c80
            clear c80
            replace H := Option.bind_eq_some_iff.mp H
            obtain ⟨t360, A810, H⟩ := H
            have A81 := Aside0.mk A810
            clear A810
            by_cases c82 : t360 < 0
            ·rw [if_pos c82] at H
             have c82b0 : decide (t360 < 0) = true := decide_eq_true c82
             clear c82
             replace H := Option.bind_eq_some_iff.mp H
             obtain ⟨t362, A830, H⟩ := H
             have A83 := Aside0.mk A830
             clear A830
             have H' := Aside0.mk H
             clear H
             obtain ⟨Ao84, co84, eo84⟩ := Kd.N_slice HO_11.out
             subst eo84
             have p359 : 0 ≤ (x15_3 : Int) := of_decide_eq_true AX
             have q359 : x15_3 < (l3.length : Int) := of_decide_eq_true AX
             obtain ⟨ad359, e359, hx359_0⟩ := Kd.at_int HR3.out x15_3 p359 q359
             cases e359
             replace hx359_0 := (HB.out.cell (World.block_lt_of_cell? w _ hx359_0)).trans hx359_0
             replace p359 := eq_true p359
             replace q359 := eq_true q359
             go_wp2_with (first | ((with_reducible refine gate_callee (f := 32) rfl ?_); refine goesL_ (some 136) rfl rfl Try.func32 (by kernel_rfl) rfl #[.slice A2 l2.length c2, .int .i64 (rd l3 x15_3)] rfl MX ?_; (with_reducible refine (treemergeref31_find.calls k3 _ _ l2 (rd l3 x15_3) t360 _ ?side1 ?side2 A81.out).mono ?_); (case side1 => exact CX (Kd.C_below HR2.out HB.out)); (case side2 => exact HC2.out); rintro e w' ⟨rfl, ⟨nd, rfl⟩⟩; refine ⟨_, rfl, ?_⟩; have p361 : 0 ≤ (x15_3 : Int) := of_decide_eq_true AX; have q361 : x15_3 < (l3.length : Int) := of_decide_eq_true AX; obtain ⟨ad361, e361, hx361_0⟩ := Kd.at_int HR3.out x15_3 p361 q361; obtain rfl : ad359 = ad361 := (by injection e361); replace hx361_0 := (HB.out.cell (World.block_lt_of_cell? w _ hx361_0)).trans hx361_0; replace p361 := eq_true p361; replace q361 := eq_true q361; obtain ⟨Ao85, co85, eo85⟩ := Kd.R_slice HO_12.out; subst eo85) | ((with_reducible refine gate_callee (f := 33) rfl ?_); refine goesL_ (some 144) rfl rfl Try.func33 (by kernel_rfl) rfl #[.slice Ao85 x12_3.length co85, .agg #[.int .i64 (rd l3 x15_3), .int .i64 1]] rfl MX ?_; (with_reducible refine (treemergeref31_Insert.calls k3 _ _ x12_3 (rd l3 x15_3) 1 t362 _ ?side1 ?side2 A83.out).mono ?_); (case side1 => exact CX ((Kd.R_reads' HO_12.out).2.2)); (case side2 => exact (Kd.R_reads' HO_12.out).2.1); rintro e w86 ⟨v363, rfl, ho0, hb⟩; refine ⟨_, rfl, ?_⟩; have n0_ := Aside0.mk (Kd.N_elder' (by (with_reducible repeat (first | apply Kd.N_alloc | apply Kd.N_drewN | apply Kd.N_drew)); exact HO_11.out) (Kd.R_base ho0) hb); have n1_ := Aside0.mk (Kd.R_elder' (RX HO_12.out) (Kd.R_base ho0) hb); have n2_ := Aside0.mk (Kd.R_lower (Kd.R_new' ho0 (Kd.R_lt (RX HO_12.out))) (below_size (by repeat (first | (with_reducible first | exact HB.out | apply below_alloc | apply pw_below_drewN | apply below_drew1 | refine below_set ?_ GE317.out | refine below_set ?_ GE318.out) | exact HB.out)))); have n3_ := Aside0.mk (blk_below (g := gb317) (o := .cells #[.int .i64 a0_0, .string a0_1, .slice A0_2 l0_2.length c0_2, .slice A0_3 l0_3.length c0_3] 25 (0, 0)) (by (with_reducible repeat (first | refine blk_drewN ?_ _ | refine blk_drew ?_ | refine blk_alloc ?_ _)); exact BK317.out) hb); have n4_ := Aside0.mk (blk_below (g := gb318) (o := .cells #[.int .i64 a1_0, .string a1_1, .slice A1_2 l1_2.length c1_2, .slice A1_3 l1_3.length c1_3] 25 (0, 0)) (by (with_reducible repeat (first | refine blk_drewN ?_ _ | refine blk_drew ?_ | refine blk_alloc ?_ _)); exact BK318.out) hb); have n5_ := Aside0.mk (below_step (by repeat (first | (with_reducible first | exact HB.out | apply below_alloc | apply pw_below_drewN | apply below_drew1 | refine below_set ?_ GE317.out | refine below_set ?_ GE318.out) | exact HB.out)) hb); clear HO_11; clear HO_12; clear BK317; clear BK318; clear HB; have HO_11 := n0_; have HO_12 := n1_; have HO364 := n2_; have BK317 := n3_; have BK318 := n4_; have HB := n5_; clear n0_ n1_ n2_ n3_ n4_ n5_; (try clear hb); (try clear hb2); (try clear hk); (try clear hi); (try clear ho0)))
             go_roundg k3
             case measure => have := HJ6.out; have := HK2.out; have := HK3.out; omega
             case rel => exact ⟨(t362), (wrap64 (x15_3 + 1)), SX, H', ⟨by have := HJ6.out; have := HK2.out; have := HK3.out; omega⟩, ⟨by (with_reducible repeat (first | apply Kd.N_alloc | apply Kd.N_drewN | apply Kd.N_drew)); exact Kd.N_mono HO_11.out (fun _ hk => ⟨hk.2, ⟨hk.1.2.1, hk.1.2.2⟩⟩)⟩, ⟨by (with_reducible repeat (first | apply Kd.R_alloc | apply Kd.R_drewN | apply Kd.R_drew)); exact Kd.R_mono HO364.out (fun _ hk => trivial)⟩, ⟨by (with_reducible repeat (first | refine blk_drewN ?_ _ | refine blk_drew ?_ | refine blk_alloc ?_ _)); exact BK317.out⟩, ⟨by (with_reducible repeat (first | refine blk_drewN ?_ _ | refine blk_drew ?_ | refine blk_alloc ?_ _)); exact BK318.out⟩, ⟨by repeat (first | (with_reducible first | exact HB.out | apply below_alloc | apply pw_below_drewN | apply below_drew1 | refine below_set ?_ GE317.out | refine below_set ?_ GE318.out) | exact HB.out)⟩⟩
            ·rw [if_neg c82] at H
             have c82b0 : decide (t360 < 0) = false := decide_eq_false c82
             clear c82
             have H' := Aside0.mk H
             clear H
             obtain ⟨Ao87, co87, eo87⟩ := Kd.N_slice HO_11.out
             subst eo87
             have p359 : 0 ≤ (x15_3 : Int) := of_decide_eq_true AX
             have q359 : x15_3 < (l3.length : Int) := of_decide_eq_true AX
             obtain ⟨ad359, e359, hx359_0⟩ := Kd.at_int HR3.out x15_3 p359 q359
             cases e359
             replace hx359_0 := (HB.out.cell (World.block_lt_of_cell? w _ hx359_0)).trans hx359_0
             replace p359 := eq_true p359
             replace q359 := eq_true q359
             go_wp2_with (first | ((with_reducible refine gate_callee (f := 32) rfl ?_); refine goesL_ (some 136) rfl rfl Try.func32 (by kernel_rfl) rfl #[.slice A2 l2.length c2, .int .i64 (rd l3 x15_3)] rfl MX ?_; (with_reducible refine (treemergeref31_find.calls k3 _ _ l2 (rd l3 x15_3) t360 _ ?side1 ?side2 A81.out).mono ?_); (case side1 => exact CX (Kd.C_below HR2.out HB.out)); (case side2 => exact HC2.out); rintro e w' ⟨rfl, ⟨nd, rfl⟩⟩; refine ⟨_, rfl, ?_⟩))
             go_roundg k3
             case measure => have := HJ6.out; have := HK2.out; have := HK3.out; omega
             case rel => exact ⟨(x12_3), (wrap64 (x15_3 + 1)), SX, H', ⟨by have := HJ6.out; have := HK2.out; have := HK3.out; omega⟩, ⟨by (with_reducible repeat (first | apply Kd.N_alloc | apply Kd.N_drewN | apply Kd.N_drew)); exact HO_11.out⟩, ⟨RX HO_12.out⟩, ⟨by (with_reducible repeat (first | refine blk_drewN ?_ _ | refine blk_drew ?_ | refine blk_alloc ?_ _)); exact BK317.out⟩, ⟨by (with_reducible repeat (first | refine blk_drewN ?_ _ | refine blk_drew ?_ | refine blk_alloc ?_ _)); exact BK318.out⟩, ⟨by repeat (first | (with_reducible first | exact HB.out | apply below_alloc | apply pw_below_drewN | apply below_drew1 | refine below_set ?_ GE317.out | refine below_set ?_ GE318.out) | exact HB.out)⟩⟩
           ·rw [if_neg c80] at H
            exact absurd H (by simp)
          ·rw [if_neg c79] at H
           exact absurd H (by simp)
         ·rw [if_neg c78] at H
          have c78b0 : decide (x15_3 < (t322.length : Int)) = false := decide_eq_false c78
          clear c78
          simp only [Option.some.injEq, Prod.mk.injEq] at H
          obtain ⟨rfl, rfl⟩ := H
          obtain ⟨Ao88, co88, eo88⟩ := Kd.N_slice HO_11.out
          subst eo88
          go_wp2
          go_ret2
          exact ⟨_, by first | rfl | (simp [errW_none, errW_some] <;> rfl) | (simp [*, errW_none, errW_some] <;> rfl), by (with_reducible repeat (first | apply Kd.R_alloc | apply Kd.R_drewN | apply Kd.R_drew)); exact HO_12.out, by repeat (first | (with_reducible first | exact HB.out | apply below_alloc | apply pw_below_drewN | apply below_drew1 | refine below_set ?_ GE317.out | refine below_set ?_ GE318.out) | exact HB.out)⟩

end Go.Proofs.Ytcfjdehpbckomaa.Q
