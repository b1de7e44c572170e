-- Written by a program of this session (mk.py) out of the translation; Lean checks it.
import Derived.Test.YtcfjdehpbckomaaQ0
import Derived.Test.YtcfjdehpbckomaaQ1
import Derived.Test.YtcfjdehpbckomaaQ3
import Derived.Test.YtcfjdehpbckomaaQ5
import Derived.Test.YtcfjdehpbckomaaQ8
import Derived.Test.YtcfjdehpbckomaaQ11
namespace Go.Proofs.Ytcfjdehpbckomaa.Q
open Go.RowKit Go.Proofs.YtcfjdehpbckomaaW.PrintWords Go.Proofs.YtcfjdehpbckomaaW.PrintLast Go.Proofs.YtcfjdehpbckomaaW.PrintMore
attribute [local go_sem] max2_int min2_int max_two min_two max_three min_three max_four min_four   -- for this text's walks alone
set_option linter.unusedVariables false
set_option linter.unusedSimpArgs false

attribute [local go_sem high] eqA48
/-! ### treemergeref31_Same: function 12 -/
def treemergeref31_Same.l0 : Nat → List (S48) → List (S48) → Int → Option (Bool)
 | 0, _, _, _ => none
 | k + 1, x0, x1, x5 => if x5 < (x0.length : Int) then (if 0 ≤ x5 then (if x5 < (x1.length : Int) then (if (!(((rd_T48 x0 x5).f0) == ((rd_T48 x1 x5).f0)) || (!(((rd_T48 x0 x5).f1) == ((rd_T48 x1 x5).f1)))) = true then (some false) else (treemergeref31_Same.l0 k x0 x1 (wrap64 (x5 + 1)))) else (none)) else (none)) else (some true)
def treemergeref31_Same.f (k : Nat) (l0 : List (S48)) (l1 : List (S48)) : Option (Bool) := if (l0.length : Int) = (l1.length : Int) then (treemergeref31_Same.l0 k l0 l1 0) else (some false)
theorem treemergeref31_Same.mono_l : ∀ k, (∀ y0 y1 y2, LeO (treemergeref31_Same.l0 k y0 y1 y2) (treemergeref31_Same.l0 (k + 1) y0 y1 y2))
 | 0 => fun _ _ _ r h => by simp [treemergeref31_Same.l0] at h
 | k + 1 => by
  have ih0 := treemergeref31_Same.mono_l k
  ·intro y0 y1 y2
   unfold treemergeref31_Same.l0
   repeat' first
   | (with_reducible exact ih0 _ _ _)
   | (with_reducible exact LeO.refl _)
   | (with_reducible exact LeO.none _)
   | (with_reducible refine LeO.ite ?_ ?_)
   | (with_reducible refine LeO.bind ?_ (fun _ => ?_))
theorem treemergeref31_Same.mono : ∀ a0 a1 k, LeO (treemergeref31_Same.f k a0 a1) (treemergeref31_Same.f (k + 1) a0 a1) := by
 intro a0 a1 k
 have ih0 := treemergeref31_Same.mono_l k
 unfold treemergeref31_Same.f
 repeat' first
   | (with_reducible exact ih0 _ _ _)
   | (with_reducible exact LeO.refl _)
   | (with_reducible exact LeO.none _)
   | (with_reducible refine LeO.ite ?_ ?_)
   | (with_reducible refine LeO.bind ?_ (fun _ => ?_))
set_option maxHeartbeats 8000000 in
set_option maxRecDepth 100000 in
theorem treemergeref31_Same.calls (k : Nat) (A0 : Option Addr) (c0 : Nat) (l0 : List (S48)) (A1 : Option Addr) (c1 : Nat) (l1 : List (S48)) (r : Bool) (w : World) (hr0 : Kd.C k48 w A0 l0.length l0) (hc0 : l0.length ≤ c0) (hr1 : Kd.C k48 w A1 l1.length l1) (hc1 : l1.length ≤ c1) (h : treemergeref31_Same.f k l0 l1 = some r) :
  Calls Try.prog 12 #[.slice A0 l0.length c0, .slice A1 l1.length c1] w fun e w' => e = .returned (.bool r) ∧ Drawn0 w w' := by
 have hu48 := Try.underlying48
 have HR0 := Aside0.mk hr0
 have HC0 := Aside0.mk hc0
 clear hr0 hc0
 have HR1 := Aside0.mk hr1
 have HC1 := Aside0.mk hc1
 clear hr1 hc1
 have H : (if (l0.length : Int) = (l1.length : Int) then (treemergeref31_Same.l0 k l0 l1 0) else (some false)) = some r := h
 clear h
 by_cases c3 : (l0.length : Int) = (l1.length : Int)
 ·rw [if_pos c3] at H
  have c3b0 : ((l0.length : Int) == (l1.length : Int)) = true := beq_iff_eq.mpr c3
  have c3b1 : ((l0.length : Int) != (l1.length : Int)) = false := bne_eq_false_iff_eq.mpr c3
  have c3b2 : (l0.length == l1.length) = true := by first | simpa using c3 | (simp at c3 ⊢; omega)
  clear c3
  have H' := Aside0.mk H
  clear H
  go_enter Try.func12, Try.ntmps12
  go_wp2
  repeat (go_quiet (fail); try go_wp2)
  go_loopg [5] k (fun kq v5 w' => ∃ (x5_1 : Int), v5 = .int .i64 x5_1 ∧ Aside0 (treemergeref31_Same.l0 kq l0 l1 x5_1 = some r) ∧ Aside0 (kq ≤ k) ∧ Drawn0 w w')
  case atStart => exact ⟨(0), SX, H', ⟨Nat.le_refl _⟩, by repeat (first | exact Drawn0.refl _ | apply Drawn0.step)⟩
  case round =>
   clear H'
   try clear c1
   try clear p2
   try clear c3
   try clear c3b0
   try clear c3b1
   try clear c3b2
   obtain ⟨x5_1, rfl, HA, HK1, ⟨m1, rfl⟩⟩ := hrel
   cases gk with
   | zero => exact absurd HA.out (by simp [treemergeref31_Same.l0])
   | succ k1 =>
    have H := HA.out
    clear HA
    simp only [treemergeref31_Same.l0] at H
    by_cases c4 : x5_1 < (l0.length : Int)
    ·rw [if_pos c4] at H
     have c4b0 : decide (x5_1 < (l0.length : Int)) = true := decide_eq_true c4
     clear c4
     by_cases c5 : 0 ≤ x5_1
     ·rw [if_pos c5] at H
      have c5b0 : decide (0 ≤ x5_1) = true := decide_eq_true c5
      clear c5
      by_cases c6 : x5_1 < (l1.length : Int)
      ·rw [if_pos c6] at H
       have c6b0 : decide (x5_1 < (l1.length : Int)) = true := decide_eq_true c6
       clear c6
       by_cases c7 : (!(((rd_T48 l0 x5_1).f0) == ((rd_T48 l1 x5_1).f0)) || (!(((rd_T48 l0 x5_1).f1) == ((rd_T48 l1 x5_1).f1)))) = true
       ·rw [if_pos c7] at H
        have c7b0 : (!(((rd_T48 l0 x5_1).f0) == ((rd_T48 l1 x5_1).f0)) || (!(((rd_T48 l0 x5_1).f1) == ((rd_T48 l1 x5_1).f1)))) = true := c7
        clear c7
        obtain rfl := Option.some.inj H
        have p365 : 0 ≤ (x5_1 : Int) := of_decide_eq_true AX
        have q365 : x5_1 < (l0.length : Int) := of_decide_eq_true AX
        obtain ⟨ad365, e365, hx365_0, hx365_1⟩ := at_T48 HR0.out x5_1 p365 q365
        cases e365
        replace p365 := eq_true p365
        replace q365 := eq_true q365
        have p366 : 0 ≤ (x5_1 : Int) := of_decide_eq_true AX
        have q366 : x5_1 < (l1.length : Int) := of_decide_eq_true AX
        obtain ⟨ad366, e366, hx366_0, hx366_1⟩ := at_T48 HR1.out x5_1 p366 q366
        cases e366
        replace p366 := eq_true p366
        replace q366 := eq_true q366
        go_wp2
        repeat (go_quiet (fail); try go_wp2)
        go_ret
        exact ⟨SX, by repeat (first | exact Drawn0.refl _ | apply Drawn0.step)⟩
       ·rw [if_neg c7] at H
        have c7b0 : (!(((rd_T48 l0 x5_1).f0) == ((rd_T48 l1 x5_1).f0)) || (!(((rd_T48 l0 x5_1).f1) == ((rd_T48 l1 x5_1).f1)))) = false := by simpa using c7
        clear c7
        have H' := Aside0.mk H
        clear H
        have p365 : 0 ≤ (x5_1 : Int) := of_decide_eq_true AX
        have q365 : x5_1 < (l0.length : Int) := of_decide_eq_true AX
        obtain ⟨ad365, e365, hx365_0, hx365_1⟩ := at_T48 HR0.out x5_1 p365 q365
        cases e365
        replace p365 := eq_true p365
        replace q365 := eq_true q365
        have p366 : 0 ≤ (x5_1 : Int) := of_decide_eq_true AX
        have q366 : x5_1 < (l1.length : Int) := of_decide_eq_true AX
        obtain ⟨ad366, e366, hx366_0, hx366_1⟩ := at_T48 HR1.out x5_1 p366 q366
        cases e366
        replace p366 := eq_true p366
        replace q366 := eq_true q366
        go_wp2
        repeat (go_quiet (fail); try go_wp2)
        go_roundg k1
        case measure => have := HK1.out; omega
        case rel => exact ⟨(wrap64 (x5_1 + 1)), SX, H', ⟨by have := HK1.out; omega⟩, by repeat (first | exact Drawn0.refl _ | apply Drawn0.step)⟩
      ·rw [if_neg c6] at H
       exact absurd H (by simp)
     ·rw [if_neg c5] at H
      exact absurd H (by simp)
    ·rw [if_neg c4] at H
     have c4b0 : decide (x5_1 < (l0.length : Int)) = false := decide_eq_false c4
     clear c4
     obtain rfl := Option.some.inj H
     go_wp2
     repeat (go_quiet (fail); try go_wp2)
     go_ret
     exact ⟨SX, by repeat (first | exact Drawn0.refl _ | apply Drawn0.step)⟩
 ·rw [if_neg c3] at H
  have c3b0 : ((l0.length : Int) == (l1.length : Int)) = false := beq_eq_false_iff_ne.mpr c3
  have c3b1 : ((l0.length : Int) != (l1.length : Int)) = true := bne_iff_ne.mpr c3
  have c3b2 : (l0.length == l1.length) = false := by first | simpa using c3 | (simp at c3 ⊢; omega)
  obtain rfl := Option.some.inj H
  go_enter Try.func12, Try.ntmps12
  go_wp2
  repeat (go_quiet (fail); try go_wp2)
  go_ret
  exact ⟨SX, by repeat (first | exact Drawn0.refl _ | apply Drawn0.step)⟩

/-! ### treemergelaw31_ChangeLists: function 3 -/
def treemergelaw31_ChangeLists.j0 : Nat → Bool → Int → ByteArray → List ByteArray → List (S25) → List Int → Int → ByteArray → List ByteArray → List (S25) → List Int → Option (Bool)
 | 0, _, _, _, _, _, _, _, _, _, _, _ => none
 | k + 1, x16, x368000, x368001, x368002, x368003, x368004, x369000, x369001, x369002, x369003, x369004 => if x16 = true then ((treemergelaw31_awake.f).bind fun t371 => (some t371)) else ((change_List.f x368000 x368001 x368002 x368003 x369000 x369001 x369002 x369003 x368004 x369004).bind fun bt372 => ((treemergeref31_List.f k x368000 x368001 x368002 x368003 x369000 x369001 x369002 x369003 x368004 x369004).bind fun bt376 => ((treemergeref31_Same.f k bt372.1 bt376.1).bind fun t380 => (if t380 = true then (if bt372.2 = bt376.2 then ((treemergelaw31_awake.f).bind fun t381 => (some t381)) else (some false)) else (some false)))))
def treemergelaw31_ChangeLists.f (k : Nat) (a0_0 : Int) (a0_1 : ByteArray) (l0_2 : List ByteArray) (l0_3 : List (S25)) (l0_4 : List Int) (a1_0 : Int) (a1_1 : ByteArray) (l1_2 : List ByteArray) (l1_3 : List (S25)) (l1_4 : List Int) : Option (Bool) := (treemergelaw31_fits.f k a0_0 a0_1 l0_2 l0_3 l0_4).bind fun t369 => (if t369 = true then ((treemergelaw31_fits.f k a1_0 a1_1 l1_2 l1_3 l1_4).bind fun t370 => (treemergelaw31_ChangeLists.j0 k (!t370) a0_0 a0_1 l0_2 l0_3 l0_4 a1_0 a1_1 l1_2 l1_3 l1_4)) else (treemergelaw31_ChangeLists.j0 k true a0_0 a0_1 l0_2 l0_3 l0_4 a1_0 a1_1 l1_2 l1_3 l1_4))
theorem treemergelaw31_ChangeLists.mono_l : ∀ k, (∀ y0 y1 y2 y3 y4 y5 y6 y7 y8 y9 y10, LeO (treemergelaw31_ChangeLists.j0 k y0 y1 y2 y3 y4 y5 y6 y7 y8 y9 y10) (treemergelaw31_ChangeLists.j0 (k + 1) y0 y1 y2 y3 y4 y5 y6 y7 y8 y9 y10))
 | 0 => fun _ _ _ _ _ _ _ _ _ _ _ r h => by simp [treemergelaw31_ChangeLists.j0] at h
 | k + 1 => by
  have ih0 := treemergelaw31_ChangeLists.mono_l k
  ·intro y0 y1 y2 y3 y4 y5 y6 y7 y8 y9 y10
   unfold treemergelaw31_ChangeLists.j0
   repeat' first
   | (with_reducible exact ih0 _ _ _ _ _ _ _ _ _ _ _)
   | (with_reducible exact treemergelaw31_fits.mono _ _ _ _ _ _)
   | (with_reducible exact treemergeref31_List.mono _ _ _ _ _ _ _ _ _ _ _)
   | (with_reducible exact treemergeref31_Same.mono _ _ _)
   | (with_reducible exact LeO.refl _)
   | (with_reducible exact LeO.none _)
   | (with_reducible refine LeO.ite ?_ ?_)
   | (with_reducible refine LeO.bind ?_ (fun _ => ?_))
theorem treemergelaw31_ChangeLists.mono : ∀ a0 a1 a2 a3 a4 a5 a6 a7 a8 a9 k, LeO (treemergelaw31_ChangeLists.f k a0 a1 a2 a3 a4 a5 a6 a7 a8 a9) (treemergelaw31_ChangeLists.f (k + 1) a0 a1 a2 a3 a4 a5 a6 a7 a8 a9) := by
 intro a0 a1 a2 a3 a4 a5 a6 a7 a8 a9 k
 have ih0 := treemergelaw31_ChangeLists.mono_l k
 unfold treemergelaw31_ChangeLists.f
 repeat' first
   | (with_reducible exact ih0 _ _ _ _ _ _ _ _ _ _ _)
   | (with_reducible exact treemergelaw31_fits.mono _ _ _ _ _ _)
   | (with_reducible exact treemergeref31_List.mono _ _ _ _ _ _ _ _ _ _ _)
   | (with_reducible exact treemergeref31_Same.mono _ _ _)
   | (with_reducible exact LeO.refl _)
   | (with_reducible exact LeO.none _)
   | (with_reducible refine LeO.ite ?_ ?_)
   | (with_reducible refine LeO.bind ?_ (fun _ => ?_))
set_option maxHeartbeats 8000000 in
set_option maxRecDepth 100000 in
theorem treemergelaw31_ChangeLists.calls (k : Nat) (a0_0 : Int) (a0_1 : ByteArray) (A0_2 : Option Addr) (c0_2 : Nat) (l0_2 : List ByteArray) (A0_3 : Option Addr) (c0_3 : Nat) (l0_3 : List (S25)) (A0_4 : Option Addr) (c0_4 : Nat) (l0_4 : List Int) (a1_0 : Int) (a1_1 : ByteArray) (A1_2 : Option Addr) (c1_2 : Nat) (l1_2 : List ByteArray) (A1_3 : Option Addr) (c1_3 : Nat) (l1_3 : List (S25)) (A1_4 : Option Addr) (c1_4 : Nat) (l1_4 : List Int) (r : Bool) (w : World) (hr0_2 : Kd.C Kd.string w A0_2 l0_2.length l0_2) (hc0_2 : l0_2.length ≤ c0_2) (hr0_3 : Kd.C k25 w A0_3 l0_3.length l0_3) (hc0_3 : l0_3.length ≤ c0_3) (hr0_4 : Kd.C (Kd.int .i64) w A0_4 l0_4.length l0_4) (hc0_4 : l0_4.length ≤ c0_4) (hr1_2 : Kd.C Kd.string w A1_2 l1_2.length l1_2) (hc1_2 : l1_2.length ≤ c1_2) (hr1_3 : Kd.C k25 w A1_3 l1_3.length l1_3) (hc1_3 : l1_3.length ≤ c1_3) (hr1_4 : Kd.C (Kd.int .i64) w A1_4 l1_4.length l1_4) (hc1_4 : l1_4.length ≤ c1_4) (h : treemergelaw31_ChangeLists.f k a0_0 a0_1 l0_2 l0_3 l0_4 a1_0 a1_1 l1_2 l1_3 l1_4 = some r) :
  Calls Try.prog 3 #[.agg #[.int .i64 a0_0, .string a0_1, .slice A0_2 l0_2.length c0_2, .slice A0_3 l0_3.length c0_3, .slice A0_4 l0_4.length c0_4], .agg #[.int .i64 a1_0, .string a1_1, .slice A1_2 l1_2.length c1_2, .slice A1_3 l1_3.length c1_3, .slice A1_4 l1_4.length c1_4]] w fun e w' => e = .returned (.bool r) ∧ Below w.heap.size w w' := by
 have hu28 := Try.underlying28
 have hu25 := Try.underlying25
 have HR0_2 := Aside0.mk hr0_2
 have HC0_2 := Aside0.mk hc0_2
 clear hr0_2 hc0_2
 have HR0_3 := Aside0.mk hr0_3
 have HC0_3 := Aside0.mk hc0_3
 clear hr0_3 hc0_3
 have HR0_4 := Aside0.mk hr0_4
 have HC0_4 := Aside0.mk hc0_4
 clear hr0_4 hc0_4
 have HR1_2 := Aside0.mk hr1_2
 have HC1_2 := Aside0.mk hc1_2
 clear hr1_2 hc1_2
 have HR1_3 := Aside0.mk hr1_3
 have HC1_3 := Aside0.mk hc1_3
 clear hr1_3 hc1_3
 have HR1_4 := Aside0.mk hr1_4
 have HC1_4 := Aside0.mk hc1_4
 clear hr1_4 hc1_4
 have HB := Aside0.mk (Below.refl w.heap.size w)
 have H : ((treemergelaw31_fits.f k a0_0 a0_1 l0_2 l0_3 l0_4).bind fun t369 => (if t369 = true then ((treemergelaw31_fits.f k a1_0 a1_1 l1_2 l1_3 l1_4).bind fun t370 => (treemergelaw31_ChangeLists.j0 k (!t370) a0_0 a0_1 l0_2 l0_3 l0_4 a1_0 a1_1 l1_2 l1_3 l1_4)) else (treemergelaw31_ChangeLists.j0 k true a0_0 a0_1 l0_2 l0_3 l0_4 a1_0 a1_1 l1_2 l1_3 l1_4))) = some r := h
 clear h
 have HC3 := Aside0.mk H
 clear H
 go_enter Try.func3, Try.ntmps3
 go_upto_region 1 with (first | ((with_reducible refine gate_dst (N := 2) rfl ?_); refine box_event ?hg (N := 2) ?hd (cs := #[.int .i64 a0_0, .string a0_1, .slice A0_2 l0_2.length c0_2, .slice A0_3 l0_3.length c0_3, .slice A0_4 l0_4.length c0_4]) (t := 28) ?hr ?_; (case hd => rfl); (case hg => rfl); (case hr => first | (go_simp; done) | (go_simp; rfl) | (obtain ⟨_, _, rfl⟩ := Kd.R_slice (Aside0.out (by assumption : Aside0 (Kd.R _ _ _ _ _ _ _))); go_simp; done)); intro gb367 hg w4 hbox hb; have n0_ := Aside0.mk (below_step (BX HB.out) hb); have n1_ := Aside0.mk (hbox); have n2_ := Aside0.mk ((by rw [hg]; exact (below_size (BX HB.out)) : w.heap.size ≤ gb367)); have n3_ := Aside0.mk ((by rw [hg]; exact (below_size (BX HB.out)) : w.heap.size ≤ gb367)); clear HB; have HB := n0_; have BK367 := n1_; have GW367 := n2_; have GE367 := n3_; clear n0_ n1_ n2_ n3_; clear hb hbox hg) | ((with_reducible refine gate_dst (N := 3) rfl ?_); refine box_event ?hg (N := 3) ?hd (cs := #[.int .i64 a1_0, .string a1_1, .slice A1_2 l1_2.length c1_2, .slice A1_3 l1_3.length c1_3, .slice A1_4 l1_4.length c1_4]) (t := 28) ?hr ?_; (case hd => rfl); (case hg => rfl); (case hr => first | (go_simp; done) | (go_simp; rfl) | (obtain ⟨_, _, rfl⟩ := Kd.R_slice (Aside0.out (by assumption : Aside0 (Kd.R _ _ _ _ _ _ _))); go_simp; done)); intro gb368 hg w5 hbox hb; have n0_ := Aside0.mk (blk_below (g := gb367) (o := .cells #[.int .i64 a0_0, .string a0_1, .slice A0_2 l0_2.length c0_2, .slice A0_3 l0_3.length c0_3, .slice A0_4 l0_4.length c0_4] 28 (0, 0)) (by (with_reducible repeat (first | refine blk_drewN ?_ _ | refine blk_drew ?_ | refine blk_alloc ?_ _)); exact BK367.out) hb); have n1_ := Aside0.mk (below_step (by repeat (first | (with_reducible first | exact HB.out | apply below_alloc | apply pw_below_drewN | apply below_drew1 | refine below_set ?_ GE367.out) | exact HB.out)) hb); have n2_ := Aside0.mk (hbox); have n3_ := Aside0.mk ((by rw [hg]; exact (below_size (by repeat (first | (with_reducible first | exact HB.out | apply below_alloc | apply pw_below_drewN | apply below_drew1 | refine below_set ?_ GE367.out) | exact HB.out))) : w.heap.size ≤ gb368)); have n4_ := Aside0.mk ((by rw [hg]; exact (below_size (by repeat (first | (with_reducible first | exact HB.out | apply below_alloc | apply pw_below_drewN | apply below_drew1 | refine below_set ?_ GE367.out) | exact HB.out))) : w.heap.size ≤ gb368)); have n5_ := Aside0.mk ((by rw [hg]; exact Nat.ne_of_lt (blk_lt (g := gb367) (o := .cells #[.int .i64 a0_0, .string a0_1, .slice A0_2 l0_2.length c0_2, .slice A0_3 l0_3.length c0_3, .slice A0_4 l0_4.length c0_4] 28 (0, 0)) (by (with_reducible repeat (first | refine blk_drewN ?_ _ | refine blk_drew ?_ | refine blk_alloc ?_ _)); exact BK367.out)) : gb367 ≠ gb368)); have n6_ := Aside0.mk ((by rw [hg]; exact Nat.ne_of_gt (blk_lt (g := gb367) (o := .cells #[.int .i64 a0_0, .string a0_1, .slice A0_2 l0_2.length c0_2, .slice A0_3 l0_3.length c0_3, .slice A0_4 l0_4.length c0_4] 28 (0, 0)) (by (with_reducible repeat (first | refine blk_drewN ?_ _ | refine blk_drew ?_ | refine blk_alloc ?_ _)); exact BK367.out)) : gb368 ≠ gb367)); clear BK367; clear HB; have BK367 := n0_; have HB := n1_; have BK368 := n2_; have GW368 := n3_; have GE368 := n4_; have NB367_368 := n5_; have NB368_367 := n6_; clear n0_ n1_ n2_ n3_ n4_ n5_ n6_; clear hb hbox hg))
 (try simp only [Act.put, List.setIfInBounds_toArray, List.set_cons_zero, List.set_cons_succ])
 go_cut [16] (fun v16 wc => ∃ (kq : Nat) (x16_2 : Bool), v16 = .bool x16_2 ∧ Aside0 (treemergelaw31_ChangeLists.j0 kq x16_2 a0_0 a0_1 l0_2 l0_3 l0_4 a1_0 a1_1 l1_2 l1_3 l1_4 = some r) ∧ Aside0 (kq ≤ k) ∧ Aside0 (wc.heap[gb367]? = some (.cells #[.int .i64 a0_0, .string a0_1, (.slice A0_2 l0_2.length c0_2), (.slice A0_3 l0_3.length c0_3), (.slice A0_4 l0_4.length c0_4)] 28 (0, 0))) ∧ Aside0 (wc.heap[gb368]? = some (.cells #[.int .i64 a1_0, .string a1_1, (.slice A1_2 l1_2.length c1_2), (.slice A1_3 l1_3.length c1_3), (.slice A1_4 l1_4.length c1_4)] 28 (0, 0))) ∧ Aside0 (Below w.heap.size w wc))
 case first =>
  have H := HC3.out
  clear HC3
  replace H := Option.bind_eq_some_iff.mp H
  obtain ⟨t369, A60, H⟩ := H
  have A6 := Aside0.mk A60
  clear A60
  by_cases c7 : t369 = true
  ·subst c7
   have H1 : ((treemergelaw31_fits.f k a1_0 a1_1 l1_2 l1_3 l1_4).bind fun t370 => (treemergelaw31_ChangeLists.j0 k (!t370) a0_0 a0_1 l0_2 l0_3 l0_4 a1_0 a1_1 l1_2 l1_3 l1_4)) = some r := by rw [if_pos rfl] at H; exact H
   clear H
   have H := H1
   clear H1
   replace H := Option.bind_eq_some_iff.mp H
   obtain ⟨t370, A80, H⟩ := H
   have A8 := Aside0.mk A80
   clear A80
   have H' := Aside0.mk H
   clear H
   have hnb9 := NB367_368.out
   have hnc9 := NB368_367.out
   have hcz10_0 : w5.cell? ⟨gb367, 0, none⟩ = some (.int .i64 a0_0) := (blk_cell BK367.out 0).trans rfl
   have hcz10_1 : w5.cell? ⟨gb367, 1, none⟩ = some (.string a0_1) := (blk_cell BK367.out 1).trans rfl
   have hcz10_2 : w5.cell? ⟨gb367, 2, none⟩ = some (.slice A0_2 l0_2.length c0_2) := (blk_cell BK367.out 2).trans rfl
   have hcz10_3 : w5.cell? ⟨gb367, 3, none⟩ = some (.slice A0_3 l0_3.length c0_3) := (blk_cell BK367.out 3).trans rfl
   have hcz10_4 : w5.cell? ⟨gb367, 4, none⟩ = some (.slice A0_4 l0_4.length c0_4) := (blk_cell BK367.out 4).trans rfl
   have hfz10_0 := blk_frozen BK367.out 0
   have hfz10_1 := blk_frozen BK367.out 1
   have hfz10_2 := blk_frozen BK367.out 2
   have hfz10_3 := blk_frozen BK367.out 3
   have hfz10_4 := blk_frozen BK367.out 4
   go_wp2_with (first | ((with_reducible refine gate_callee (f := 8) rfl ?_); refine goesL_ (some 10) rfl rfl Try.func8 (by kernel_rfl) rfl #[.agg #[.int .i64 a0_0, .string a0_1, .slice A0_2 l0_2.length c0_2, .slice A0_3 l0_3.length c0_3, .slice A0_4 l0_4.length c0_4]] rfl MX ?_; (with_reducible refine (treemergelaw31_fits.calls k a0_0 a0_1 _ _ l0_2 _ _ l0_3 _ _ l0_4 true _ ?side1 ?side2 ?side3 ?side4 ?side5 ?side6 A6.out).mono ?_); (case side1 => exact CX (Kd.C_below HR0_2.out HB.out)); (case side2 => exact HC0_2.out); (case side3 => exact CX (Kd.C_below HR0_3.out HB.out)); (case side4 => exact HC0_3.out); (case side5 => exact CX (Kd.C_below HR0_4.out HB.out)); (case side6 => exact HC0_4.out); rintro e w11 ⟨rfl, hb⟩; refine ⟨_, rfl, ?_⟩; have n0_ := Aside0.mk (blk_below (g := gb367) (o := .cells #[.int .i64 a0_0, .string a0_1, .slice A0_2 l0_2.length c0_2, .slice A0_3 l0_3.length c0_3, .slice A0_4 l0_4.length c0_4] 28 (0, 0)) (by (with_reducible repeat (first | refine blk_drewN ?_ _ | refine blk_drew ?_ | refine blk_alloc ?_ _)); exact BK367.out) hb); have n1_ := Aside0.mk (blk_below (g := gb368) (o := .cells #[.int .i64 a1_0, .string a1_1, .slice A1_2 l1_2.length c1_2, .slice A1_3 l1_3.length c1_3, .slice A1_4 l1_4.length c1_4] 28 (0, 0)) (by (with_reducible repeat (first | refine blk_drewN ?_ _ | refine blk_drew ?_ | refine blk_alloc ?_ _)); exact BK368.out) hb); have n2_ := Aside0.mk (below_step (by repeat (first | (with_reducible first | exact HB.out | apply below_alloc | apply pw_below_drewN | apply below_drew1 | refine below_set ?_ GE367.out | refine below_set ?_ GE368.out) | exact HB.out)) hb); clear BK367; clear BK368; clear HB; have BK367 := n0_; have BK368 := n1_; have HB := n2_; clear n0_ n1_ n2_; (try clear hb); (try clear hb2); (try clear hk); (try clear hi); have hcz12_0 : w11.cell? ⟨gb368, 0, none⟩ = some (.int .i64 a1_0) := (blk_cell BK368.out 0).trans rfl; have hcz12_1 : w11.cell? ⟨gb368, 1, none⟩ = some (.string a1_1) := (blk_cell BK368.out 1).trans rfl; have hcz12_2 : w11.cell? ⟨gb368, 2, none⟩ = some (.slice A1_2 l1_2.length c1_2) := (blk_cell BK368.out 2).trans rfl; have hcz12_3 : w11.cell? ⟨gb368, 3, none⟩ = some (.slice A1_3 l1_3.length c1_3) := (blk_cell BK368.out 3).trans rfl; have hcz12_4 : w11.cell? ⟨gb368, 4, none⟩ = some (.slice A1_4 l1_4.length c1_4) := (blk_cell BK368.out 4).trans rfl; have hfz12_0 := blk_frozen BK368.out 0; have hfz12_1 := blk_frozen BK368.out 1; have hfz12_2 := blk_frozen BK368.out 2; have hfz12_3 := blk_frozen BK368.out 3; have hfz12_4 := blk_frozen BK368.out 4) | (go_at_call 8; (with_reducible refine (treemergelaw31_fits.calls k a1_0 a1_1 _ _ l1_2 _ _ l1_3 _ _ l1_4 t370 _ ?side1 ?side2 ?side3 ?side4 ?side5 ?side6 A8.out).mono ?_); (case side1 => exact CX (Kd.C_below HR1_2.out HB.out)); (case side2 => exact HC1_2.out); (case side3 => exact CX (Kd.C_below HR1_3.out HB.out)); (case side4 => exact HC1_3.out); (case side5 => exact CX (Kd.C_below HR1_4.out HB.out)); (case side6 => exact HC1_4.out); rintro e w13 ⟨rfl, hb⟩; have n0_ := Aside0.mk (blk_below (g := gb367) (o := .cells #[.int .i64 a0_0, .string a0_1, .slice A0_2 l0_2.length c0_2, .slice A0_3 l0_3.length c0_3, .slice A0_4 l0_4.length c0_4] 28 (0, 0)) (by (with_reducible repeat (first | refine blk_drewN ?_ _ | refine blk_drew ?_ | refine blk_alloc ?_ _)); exact BK367.out) hb); have n1_ := Aside0.mk (blk_below (g := gb368) (o := .cells #[.int .i64 a1_0, .string a1_1, .slice A1_2 l1_2.length c1_2, .slice A1_3 l1_3.length c1_3, .slice A1_4 l1_4.length c1_4] 28 (0, 0)) (by (with_reducible repeat (first | refine blk_drewN ?_ _ | refine blk_drew ?_ | refine blk_alloc ?_ _)); exact BK368.out) hb); have n2_ := Aside0.mk (below_step (by repeat (first | (with_reducible first | exact HB.out | apply below_alloc | apply pw_below_drewN | apply below_drew1 | refine below_set ?_ GE367.out | refine below_set ?_ GE368.out) | exact HB.out)) hb); clear BK367; clear BK368; clear HB; have BK367 := n0_; have BK368 := n1_; have HB := n2_; clear n0_ n1_ n2_; (try clear hb); (try clear hb2); (try clear hk); (try clear hi)))
   go_meet
   case rel => exact ⟨_, (!t370), SX, H', ⟨by first | omega | exact Nat.le_refl _⟩, ⟨by (with_reducible repeat (first | refine blk_drewN ?_ _ | refine blk_drew ?_ | refine blk_alloc ?_ _)); exact BK367.out⟩, ⟨by (with_reducible repeat (first | refine blk_drewN ?_ _ | refine blk_drew ?_ | refine blk_alloc ?_ _)); exact BK368.out⟩, ⟨by repeat (first | (with_reducible first | exact HB.out | apply below_alloc | apply pw_below_drewN | apply below_drew1 | refine below_set ?_ GE367.out | refine below_set ?_ GE368.out) | exact HB.out)⟩⟩
  ·replace c7 := Bool.eq_false_iff.mpr c7
   subst c7
   have H1 : (treemergelaw31_ChangeLists.j0 k true a0_0 a0_1 l0_2 l0_3 l0_4 a1_0 a1_1 l1_2 l1_3 l1_4) = some r := by rw [if_neg (show ¬ (false = true) by decide)] at H; exact H
   clear H
   have H := H1
   clear H1
   have H' := Aside0.mk H
   clear H
   have hnb14 := NB367_368.out
   have hnc14 := NB368_367.out
   have hcz15_0 : w5.cell? ⟨gb367, 0, none⟩ = some (.int .i64 a0_0) := (blk_cell BK367.out 0).trans rfl
   have hcz15_1 : w5.cell? ⟨gb367, 1, none⟩ = some (.string a0_1) := (blk_cell BK367.out 1).trans rfl
   have hcz15_2 : w5.cell? ⟨gb367, 2, none⟩ = some (.slice A0_2 l0_2.length c0_2) := (blk_cell BK367.out 2).trans rfl
   have hcz15_3 : w5.cell? ⟨gb367, 3, none⟩ = some (.slice A0_3 l0_3.length c0_3) := (blk_cell BK367.out 3).trans rfl
   have hcz15_4 : w5.cell? ⟨gb367, 4, none⟩ = some (.slice A0_4 l0_4.length c0_4) := (blk_cell BK367.out 4).trans rfl
   have hfz15_0 := blk_frozen BK367.out 0
   have hfz15_1 := blk_frozen BK367.out 1
   have hfz15_2 := blk_frozen BK367.out 2
   have hfz15_3 := blk_frozen BK367.out 3
   have hfz15_4 := blk_frozen BK367.out 4
   go_wp2_with (first | ((with_reducible refine gate_callee (f := 8) rfl ?_); refine goesL_ (some 10) rfl rfl Try.func8 (by kernel_rfl) rfl #[.agg #[.int .i64 a0_0, .string a0_1, .slice A0_2 l0_2.length c0_2, .slice A0_3 l0_3.length c0_3, .slice A0_4 l0_4.length c0_4]] rfl MX ?_; (with_reducible refine (treemergelaw31_fits.calls k a0_0 a0_1 _ _ l0_2 _ _ l0_3 _ _ l0_4 false _ ?side1 ?side2 ?side3 ?side4 ?side5 ?side6 A6.out).mono ?_); (case side1 => exact CX (Kd.C_below HR0_2.out HB.out)); (case side2 => exact HC0_2.out); (case side3 => exact CX (Kd.C_below HR0_3.out HB.out)); (case side4 => exact HC0_3.out); (case side5 => exact CX (Kd.C_below HR0_4.out HB.out)); (case side6 => exact HC0_4.out); rintro e w16 ⟨rfl, hb⟩; refine ⟨_, rfl, ?_⟩; have n0_ := Aside0.mk (blk_below (g := gb367) (o := .cells #[.int .i64 a0_0, .string a0_1, .slice A0_2 l0_2.length c0_2, .slice A0_3 l0_3.length c0_3, .slice A0_4 l0_4.length c0_4] 28 (0, 0)) (by (with_reducible repeat (first | refine blk_drewN ?_ _ | refine blk_drew ?_ | refine blk_alloc ?_ _)); exact BK367.out) hb); have n1_ := Aside0.mk (blk_below (g := gb368) (o := .cells #[.int .i64 a1_0, .string a1_1, .slice A1_2 l1_2.length c1_2, .slice A1_3 l1_3.length c1_3, .slice A1_4 l1_4.length c1_4] 28 (0, 0)) (by (with_reducible repeat (first | refine blk_drewN ?_ _ | refine blk_drew ?_ | refine blk_alloc ?_ _)); exact BK368.out) hb); have n2_ := Aside0.mk (below_step (by repeat (first | (with_reducible first | exact HB.out | apply below_alloc | apply pw_below_drewN | apply below_drew1 | refine below_set ?_ GE367.out | refine below_set ?_ GE368.out) | exact HB.out)) hb); clear BK367; clear BK368; clear HB; have BK367 := n0_; have BK368 := n1_; have HB := n2_; clear n0_ n1_ n2_; (try clear hb); (try clear hb2); (try clear hk); (try clear hi)))
   go_meet
   case rel => exact ⟨_, (true), SX, H', ⟨by first | omega | exact Nat.le_refl _⟩, ⟨by (with_reducible repeat (first | refine blk_drewN ?_ _ | refine blk_drew ?_ | refine blk_alloc ?_ _)); exact BK367.out⟩, ⟨by (with_reducible repeat (first | refine blk_drewN ?_ _ | refine blk_drew ?_ | refine blk_alloc ?_ _)); exact BK368.out⟩, ⟨by repeat (first | (with_reducible first | exact HB.out | apply below_alloc | apply pw_below_drewN | apply below_drew1 | refine below_set ?_ GE367.out | refine below_set ?_ GE368.out) | exact HB.out)⟩⟩
 case rest =>
  clear HC3
  try clear c1
  try clear p2
  try clear c3
  try clear c7
  try clear c8
  try clear c9
  try clear c14
  try clear hcz10_0
  try clear hcz10_1
  try clear hcz10_2
  try clear hcz10_3
  try clear hcz10_4
  try clear hcz12_0
  try clear hcz12_1
  try clear hcz12_2
  try clear hcz12_3
  try clear hcz12_4
  try clear hcz15_0
  try clear hcz15_1
  try clear hcz15_2
  try clear hcz15_3
  try clear hcz15_4
  try clear hfz10_0
  try clear hfz10_1
  try clear hfz10_2
  try clear hfz10_3
  try clear hfz10_4
  try clear hfz12_0
  try clear hfz12_1
  try clear hfz12_2
  try clear hfz12_3
  try clear hfz12_4
  try clear hfz15_0
  try clear hfz15_1
  try clear hfz15_2
  try clear hfz15_3
  try clear hfz15_4
  obtain ⟨kq, x16_2, rfl, HA, HJ2, BK367, BK368, HB⟩ := hcut
  cases kq with
  | zero => exact absurd HA.out (by simp [treemergelaw31_ChangeLists.j0])
  | succ kj2 =>
   have H := HA.out
   clear HA
   simp only [treemergelaw31_ChangeLists.j0] at H
   by_cases c17 : x16_2 = true
   ·subst c17
    have H1 : ((treemergelaw31_awake.f).bind fun t371 => (some t371)) = some r := by rw [if_pos rfl] at H; exact H
    clear H
    have H := H1
    clear H1
    replace H := Option.bind_eq_some_iff.mp H
    obtain ⟨t371, A180, H⟩ := H
    have A18 := Aside0.mk A180
    clear A180
    obtain rfl := Option.some.inj H
    go_wp2_with (first | ((with_reducible refine gate_callee (f := 9) rfl ?_); refine goesL_ (some 17) rfl rfl Try.func9 (by kernel_rfl) rfl #[] rfl MX ?_; (with_reducible refine (treemergelaw31_awake.calls  t371 _ A18.out).mono ?_); rintro e w19 ⟨rfl, hb⟩; refine ⟨_, rfl, ?_⟩; have n0_ := Aside0.mk (blk_below (g := gb367) (o := .cells #[.int .i64 a0_0, .string a0_1, .slice A0_2 l0_2.length c0_2, .slice A0_3 l0_3.length c0_3, .slice A0_4 l0_4.length c0_4] 28 (0, 0)) (by (with_reducible repeat (first | refine blk_drewN ?_ _ | refine blk_drew ?_ | refine blk_alloc ?_ _)); exact BK367.out) hb); have n1_ := Aside0.mk (blk_below (g := gb368) (o := .cells #[.int .i64 a1_0, .string a1_1, .slice A1_2 l1_2.length c1_2, .slice A1_3 l1_3.length c1_3, .slice A1_4 l1_4.length c1_4] 28 (0, 0)) (by (with_reducible repeat (first | refine blk_drewN ?_ _ | refine blk_drew ?_ | refine blk_alloc ?_ _)); exact BK368.out) hb); have n2_ := Aside0.mk (below_step (by repeat (first | (with_reducible first | exact HB.out | apply below_alloc | apply pw_below_drewN | apply below_drew1 | refine below_set ?_ GE367.out | refine below_set ?_ GE368.out) | exact HB.out)) hb); clear BK367; clear BK368; clear HB; have BK367 := n0_; have BK368 := n1_; have HB := n2_; clear n0_ n1_ n2_; (try clear hb); (try clear hb2); (try clear hk); (try clear hi)))
    go_ret
    exact ⟨by first | rfl | (simp [errW_none, errW_some] <;> rfl) | (simp [*, errW_none, errW_some] <;> rfl), by repeat (first | (with_reducible first | exact HB.out | apply below_alloc | apply pw_below_drewN | apply below_drew1 | refine below_set ?_ GE367.out | refine below_set ?_ GE368.out) | exact HB.out)⟩
   ·replace c17 := Bool.eq_false_iff.mpr c17
    subst c17
    have H1 : ((change_List.f a0_0 a0_1 l0_2 l0_3 a1_0 a1_1 l1_2 l1_3 l0_4 l1_4).bind fun bt372 => ((treemergeref31_List.f kj2 a0_0 a0_1 l0_2 l0_3 a1_0 a1_1 l1_2 l1_3 l0_4 l1_4).bind fun bt376 => ((treemergeref31_Same.f kj2 bt372.1 bt376.1).bind fun t380 => (if t380 = true then (if bt372.2 = bt376.2 then ((treemergelaw31_awake.f).bind fun t381 => (some t381)) else (some false)) else (some false))))) = some r := by rw [if_neg (show ¬ (false = true) by decide)] at H; exact H
    clear H
    have H := H1
    clear H1
    replace H := Option.bind_eq_some_iff.mp H
    obtain ⟨⟨t372, t375⟩, A200, H⟩ := H
    replace H : ((treemergeref31_List.f kj2 a0_0 a0_1 l0_2 l0_3 a1_0 a1_1 l1_2 l1_3 l0_4 l1_4).bind fun bt376 => ((treemergeref31_Same.f kj2 t372 bt376.1).bind fun t380 => (if t380 = true then (if t375 = bt376.2 then ((treemergelaw31_awake.f).bind fun t381 => (some t381)) else (some false)) else (some false)))) = some r := H
    have A20 := Aside0.mk A200
    clear A200
    replace H := Option.bind_eq_some_iff.mp H
    obtain ⟨⟨t376, t379⟩, A210, H⟩ := H
    replace H : ((treemergeref31_Same.f kj2 t372 t376).bind fun t380 => (if t380 = true then (if t375 = t379 then ((treemergelaw31_awake.f).bind fun t381 => (some t381)) else (some false)) else (some false))) = some r := H
    have A21 := Aside0.mk A210
    clear A210
    replace H := Option.bind_eq_some_iff.mp H
    obtain ⟨t380, A220, H⟩ := H
    have A22 := Aside0.mk A220
    clear A220
    by_cases c23 : t380 = true
    ·subst c23
     have H1 : (if t375 = t379 then ((treemergelaw31_awake.f).bind fun t381 => (some t381)) else (some false)) = some r := by rw [if_pos rfl] at H; exact H
     clear H
     have H := H1
     clear H1
     by_cases c24 : t375 = t379
     ·rw [if_pos c24] at H
      have c24b0 : (t375 == t379) = true := beq_iff_eq.mpr c24
      have c24b1 : (t375 != t379) = false := bne_eq_false_iff_eq.mpr c24
      clear c24
      replace H := Option.bind_eq_some_iff.mp H
      obtain ⟨t381, A250, H⟩ := H
      have A25 := Aside0.mk A250
      clear A250
      obtain rfl := Option.some.inj H
      have hnb26 := NB367_368.out
      have hnc26 := NB368_367.out
      have hcz27_0 : wc.cell? ⟨gb367, 0, none⟩ = some (.int .i64 a0_0) := (blk_cell BK367.out 0).trans rfl
      have hcz27_1 : wc.cell? ⟨gb367, 1, none⟩ = some (.string a0_1) := (blk_cell BK367.out 1).trans rfl
      have hcz27_2 : wc.cell? ⟨gb367, 2, none⟩ = some (.slice A0_2 l0_2.length c0_2) := (blk_cell BK367.out 2).trans rfl
      have hcz27_3 : wc.cell? ⟨gb367, 3, none⟩ = some (.slice A0_3 l0_3.length c0_3) := (blk_cell BK367.out 3).trans rfl
      have hcz27_4 : wc.cell? ⟨gb367, 4, none⟩ = some (.slice A0_4 l0_4.length c0_4) := (blk_cell BK367.out 4).trans rfl
      have hfz27_0 := blk_frozen BK367.out 0
      have hfz27_1 := blk_frozen BK367.out 1
      have hfz27_2 := blk_frozen BK367.out 2
      have hfz27_3 := blk_frozen BK367.out 3
      have hfz27_4 := blk_frozen BK367.out 4
      have hcz28_0 : wc.cell? ⟨gb368, 0, none⟩ = some (.int .i64 a1_0) := (blk_cell BK368.out 0).trans rfl
      have hcz28_1 : wc.cell? ⟨gb368, 1, none⟩ = some (.string a1_1) := (blk_cell BK368.out 1).trans rfl
      have hcz28_2 : wc.cell? ⟨gb368, 2, none⟩ = some (.slice A1_2 l1_2.length c1_2) := (blk_cell BK368.out 2).trans rfl
      have hcz28_3 : wc.cell? ⟨gb368, 3, none⟩ = some (.slice A1_3 l1_3.length c1_3) := (blk_cell BK368.out 3).trans rfl
      have hcz28_4 : wc.cell? ⟨gb368, 4, none⟩ = some (.slice A1_4 l1_4.length c1_4) := (blk_cell BK368.out 4).trans rfl
      have hfz28_0 := blk_frozen BK368.out 0
      have hfz28_1 := blk_frozen BK368.out 1
      have hfz28_2 := blk_frozen BK368.out 2
      have hfz28_3 := blk_frozen BK368.out 3
      have hfz28_4 := blk_frozen BK368.out 4
      go_wp2_with (first | ((with_reducible refine gate_callee (f := 10) rfl ?_); refine goesL_ (some 27) rfl rfl Try.func10 (by kernel_rfl) rfl #[.agg #[.int .i64 a0_0, .string a0_1, .slice A0_2 l0_2.length c0_2, .slice A0_3 l0_3.length c0_3], .agg #[.int .i64 a1_0, .string a1_1, .slice A1_2 l1_2.length c1_2, .slice A1_3 l1_3.length c1_3], .slice A0_4 l0_4.length c0_4, .slice A1_4 l1_4.length c1_4] rfl MX ?_; (with_reducible refine (change_List.calls a0_0 a0_1 _ _ l0_2 _ _ l0_3 a1_0 a1_1 _ _ l1_2 _ _ l1_3 _ _ l0_4 _ _ l1_4 t372 t375 _ ?side1 ?side2 ?side3 ?side4 ?side5 ?side6 ?side7 ?side8 ?side9 ?side10 ?side11 ?side12 A20.out).mono ?_); (case side1 => exact CX (Kd.C_below HR0_2.out HB.out)); (case side2 => exact HC0_2.out); (case side3 => exact CX (Kd.C_below HR0_3.out HB.out)); (case side4 => exact HC0_3.out); (case side5 => exact CX (Kd.C_below HR1_2.out HB.out)); (case side6 => exact HC1_2.out); (case side7 => exact CX (Kd.C_below HR1_3.out HB.out)); (case side8 => exact HC1_3.out); (case side9 => exact CX (Kd.C_below HR0_4.out HB.out)); (case side10 => exact HC0_4.out); (case side11 => exact CX (Kd.C_below HR1_4.out HB.out)); (case side12 => exact HC1_4.out); rintro e w29 ⟨v373, rfl, ho0, hb⟩; refine ⟨_, rfl, ?_⟩; have n0_ := Aside0.mk (Kd.R_lower ho0 (below_size (by repeat (first | (with_reducible first | exact HB.out | apply below_alloc | apply pw_below_drewN | apply below_drew1 | refine below_set ?_ GE367.out | refine below_set ?_ GE368.out) | exact HB.out)))); have n1_ := Aside0.mk (blk_below (g := gb367) (o := .cells #[.int .i64 a0_0, .string a0_1, .slice A0_2 l0_2.length c0_2, .slice A0_3 l0_3.length c0_3, .slice A0_4 l0_4.length c0_4] 28 (0, 0)) (by (with_reducible repeat (first | refine blk_drewN ?_ _ | refine blk_drew ?_ | refine blk_alloc ?_ _)); exact BK367.out) hb); have n2_ := Aside0.mk (blk_below (g := gb368) (o := .cells #[.int .i64 a1_0, .string a1_1, .slice A1_2 l1_2.length c1_2, .slice A1_3 l1_3.length c1_3, .slice A1_4 l1_4.length c1_4] 28 (0, 0)) (by (with_reducible repeat (first | refine blk_drewN ?_ _ | refine blk_drew ?_ | refine blk_alloc ?_ _)); exact BK368.out) hb); have n3_ := Aside0.mk (below_step (by repeat (first | (with_reducible first | exact HB.out | apply below_alloc | apply pw_below_drewN | apply below_drew1 | refine below_set ?_ GE367.out | refine below_set ?_ GE368.out) | exact HB.out)) hb); clear BK367; clear BK368; clear HB; have HO374 := n0_; have BK367 := n1_; have BK368 := n2_; have HB := n3_; clear n0_ n1_ n2_ n3_; (try clear hb); (try clear hb2); (try clear hk); (try clear hi); (try clear ho0); have hcz30_0 : w29.cell? ⟨gb367, 0, none⟩ = some (.int .i64 a0_0) := (blk_cell BK367.out 0).trans rfl; have hcz30_1 : w29.cell? ⟨gb367, 1, none⟩ = some (.string a0_1) := (blk_cell BK367.out 1).trans rfl; have hcz30_2 : w29.cell? ⟨gb367, 2, none⟩ = some (.slice A0_2 l0_2.length c0_2) := (blk_cell BK367.out 2).trans rfl; have hcz30_3 : w29.cell? ⟨gb367, 3, none⟩ = some (.slice A0_3 l0_3.length c0_3) := (blk_cell BK367.out 3).trans rfl; have hcz30_4 : w29.cell? ⟨gb367, 4, none⟩ = some (.slice A0_4 l0_4.length c0_4) := (blk_cell BK367.out 4).trans rfl; have hfz30_0 := blk_frozen BK367.out 0; have hfz30_1 := blk_frozen BK367.out 1; have hfz30_2 := blk_frozen BK367.out 2; have hfz30_3 := blk_frozen BK367.out 3; have hfz30_4 := blk_frozen BK367.out 4; have hcz31_0 : w29.cell? ⟨gb368, 0, none⟩ = some (.int .i64 a1_0) := (blk_cell BK368.out 0).trans rfl; have hcz31_1 : w29.cell? ⟨gb368, 1, none⟩ = some (.string a1_1) := (blk_cell BK368.out 1).trans rfl; have hcz31_2 : w29.cell? ⟨gb368, 2, none⟩ = some (.slice A1_2 l1_2.length c1_2) := (blk_cell BK368.out 2).trans rfl; have hcz31_3 : w29.cell? ⟨gb368, 3, none⟩ = some (.slice A1_3 l1_3.length c1_3) := (blk_cell BK368.out 3).trans rfl; have hcz31_4 : w29.cell? ⟨gb368, 4, none⟩ = some (.slice A1_4 l1_4.length c1_4) := (blk_cell BK368.out 4).trans rfl; have hfz31_0 := blk_frozen BK368.out 0; have hfz31_1 := blk_frozen BK368.out 1; have hfz31_2 := blk_frozen BK368.out 2; have hfz31_3 := blk_frozen BK368.out 3; have hfz31_4 := blk_frozen BK368.out 4) | ((with_reducible refine gate_callee (f := 11) rfl ?_); refine goesL_ (some 39) rfl rfl Try.func11 (by kernel_rfl) rfl #[.agg #[.int .i64 a0_0, .string a0_1, .slice A0_2 l0_2.length c0_2, .slice A0_3 l0_3.length c0_3], .agg #[.int .i64 a1_0, .string a1_1, .slice A1_2 l1_2.length c1_2, .slice A1_3 l1_3.length c1_3], .slice A0_4 l0_4.length c0_4, .slice A1_4 l1_4.length c1_4] rfl MX ?_; (with_reducible refine (treemergeref31_List.calls kj2 a0_0 a0_1 _ _ l0_2 _ _ l0_3 a1_0 a1_1 _ _ l1_2 _ _ l1_3 _ _ l0_4 _ _ l1_4 t376 t379 _ ?side1 ?side2 ?side3 ?side4 ?side5 ?side6 ?side7 ?side8 ?side9 ?side10 ?side11 ?side12 A21.out).mono ?_); (case side1 => exact CX (Kd.C_below HR0_2.out HB.out)); (case side2 => exact HC0_2.out); (case side3 => exact CX (Kd.C_below HR0_3.out HB.out)); (case side4 => exact HC0_3.out); (case side5 => exact CX (Kd.C_below HR1_2.out HB.out)); (case side6 => exact HC1_2.out); (case side7 => exact CX (Kd.C_below HR1_3.out HB.out)); (case side8 => exact HC1_3.out); (case side9 => exact CX (Kd.C_below HR0_4.out HB.out)); (case side10 => exact HC0_4.out); (case side11 => exact CX (Kd.C_below HR1_4.out HB.out)); (case side12 => exact HC1_4.out); rintro e w32 ⟨v377, rfl, ho0, hb⟩; refine ⟨_, rfl, ?_⟩; have n0_ := Aside0.mk (Kd.R_elder' (RX HO374.out) (Kd.R_base ho0) hb); have n1_ := Aside0.mk (Kd.R_lower (Kd.R_new' ho0 (Kd.R_lt (RX HO374.out))) (below_size (by repeat (first | (with_reducible first | exact HB.out | apply below_alloc | apply pw_below_drewN | apply below_drew1 | refine below_set ?_ GE367.out | refine below_set ?_ GE368.out) | exact HB.out)))); have n2_ := Aside0.mk (blk_below (g := gb367) (o := .cells #[.int .i64 a0_0, .string a0_1, .slice A0_2 l0_2.length c0_2, .slice A0_3 l0_3.length c0_3, .slice A0_4 l0_4.length c0_4] 28 (0, 0)) (by (with_reducible repeat (first | refine blk_drewN ?_ _ | refine blk_drew ?_ | refine blk_alloc ?_ _)); exact BK367.out) hb); have n3_ := Aside0.mk (blk_below (g := gb368) (o := .cells #[.int .i64 a1_0, .string a1_1, .slice A1_2 l1_2.length c1_2, .slice A1_3 l1_3.length c1_3, .slice A1_4 l1_4.length c1_4] 28 (0, 0)) (by (with_reducible repeat (first | refine blk_drewN ?_ _ | refine blk_drew ?_ | refine blk_alloc ?_ _)); exact BK368.out) hb); have n4_ := Aside0.mk (below_step (by repeat (first | (with_reducible first | exact HB.out | apply below_alloc | apply pw_below_drewN | apply below_drew1 | refine below_set ?_ GE367.out | refine below_set ?_ GE368.out) | exact HB.out)) hb); clear HO374; clear BK367; clear BK368; clear HB; have HO374 := n0_; have HO378 := n1_; have BK367 := n2_; have BK368 := n3_; have HB := n4_; clear n0_ n1_ n2_ n3_ n4_; (try clear hb); (try clear hb2); (try clear hk); (try clear hi); (try clear ho0); obtain ⟨Ao33, co33, eo33⟩ := Kd.R_slice HO374.out; subst eo33; obtain ⟨Ao34, co34, eo34⟩ := Kd.R_slice HO378.out; subst eo34) | ((with_reducible refine gate_callee (f := 12) rfl ?_); refine goesL_ (some 44) rfl rfl Try.func12 (by kernel_rfl) rfl #[.slice Ao33 t372.length co33, .slice Ao34 t376.length co34] rfl MX ?_; (with_reducible refine (treemergeref31_Same.calls kj2 _ _ t372 _ _ t376 true _ ?side1 ?side2 ?side3 ?side4 A22.out).mono ?_); (case side1 => exact CX ((Kd.R_reads' HO374.out).2.2)); (case side2 => exact (Kd.R_reads' HO374.out).2.1); (case side3 => exact CX ((Kd.R_reads' HO378.out).2.2)); (case side4 => exact (Kd.R_reads' HO378.out).2.1); rintro e w' ⟨rfl, ⟨nd, rfl⟩⟩; refine ⟨_, rfl, ?_⟩) | (go_at_call 9; (with_reducible refine (treemergelaw31_awake.calls  t381 _ A25.out).mono ?_); rintro e w35 ⟨rfl, hb⟩; have n0_ := Aside0.mk (Kd.R_below (RX HO374.out) hb); have n1_ := Aside0.mk (Kd.R_below (RX HO378.out) hb); have n2_ := Aside0.mk (blk_below (g := gb367) (o := .cells #[.int .i64 a0_0, .string a0_1, .slice A0_2 l0_2.length c0_2, .slice A0_3 l0_3.length c0_3, .slice A0_4 l0_4.length c0_4] 28 (0, 0)) (by (with_reducible repeat (first | refine blk_drewN ?_ _ | refine blk_drew ?_ | refine blk_alloc ?_ _)); exact BK367.out) hb); have n3_ := Aside0.mk (blk_below (g := gb368) (o := .cells #[.int .i64 a1_0, .string a1_1, .slice A1_2 l1_2.length c1_2, .slice A1_3 l1_3.length c1_3, .slice A1_4 l1_4.length c1_4] 28 (0, 0)) (by (with_reducible repeat (first | refine blk_drewN ?_ _ | refine blk_drew ?_ | refine blk_alloc ?_ _)); exact BK368.out) hb); have n4_ := Aside0.mk (below_step (by repeat (first | (with_reducible first | exact HB.out | apply below_alloc | apply pw_below_drewN | apply below_drew1 | refine below_set ?_ GE367.out | refine below_set ?_ GE368.out) | exact HB.out)) hb); clear HO374; clear HO378; clear BK367; clear BK368; clear HB; have HO374 := n0_; have HO378 := n1_; have BK367 := n2_; have BK368 := n3_; have HB := n4_; clear n0_ n1_ n2_ n3_ n4_; (try clear hb); (try clear hb2); (try clear hk); (try clear hi)))
      go_ret
      exact ⟨by first | rfl | (simp [errW_none, errW_some] <;> rfl) | (simp [*, errW_none, errW_some] <;> rfl), by repeat (first | (with_reducible first | exact HB.out | apply below_alloc | apply pw_below_drewN | apply below_drew1 | refine below_set ?_ GE367.out | refine below_set ?_ GE368.out) | exact HB.out)⟩
     ·rw [if_neg c24] at H
      have c24b0 : (t375 == t379) = false := beq_eq_false_iff_ne.mpr c24
      have c24b1 : (t375 != t379) = true := bne_iff_ne.mpr c24
      obtain rfl := Option.some.inj H
      have hnb36 := NB367_368.out
      have hnc36 := NB368_367.out
      have hcz37_0 : wc.cell? ⟨gb367, 0, none⟩ = some (.int .i64 a0_0) := (blk_cell BK367.out 0).trans rfl
      have hcz37_1 : wc.cell? ⟨gb367, 1, none⟩ = some (.string a0_1) := (blk_cell BK367.out 1).trans rfl
      have hcz37_2 : wc.cell? ⟨gb367, 2, none⟩ = some (.slice A0_2 l0_2.length c0_2) := (blk_cell BK367.out 2).trans rfl
      have hcz37_3 : wc.cell? ⟨gb367, 3, none⟩ = some (.slice A0_3 l0_3.length c0_3) := (blk_cell BK367.out 3).trans rfl
      have hcz37_4 : wc.cell? ⟨gb367, 4, none⟩ = some (.slice A0_4 l0_4.length c0_4) := (blk_cell BK367.out 4).trans rfl
      have hfz37_0 := blk_frozen BK367.out 0
      have hfz37_1 := blk_frozen BK367.out 1
      have hfz37_2 := blk_frozen BK367.out 2
      have hfz37_3 := blk_frozen BK367.out 3
      have hfz37_4 := blk_frozen BK367.out 4
      have hcz38_0 : wc.cell? ⟨gb368, 0, none⟩ = some (.int .i64 a1_0) := (blk_cell BK368.out 0).trans rfl
      have hcz38_1 : wc.cell? ⟨gb368, 1, none⟩ = some (.string a1_1) := (blk_cell BK368.out 1).trans rfl
      have hcz38_2 : wc.cell? ⟨gb368, 2, none⟩ = some (.slice A1_2 l1_2.length c1_2) := (blk_cell BK368.out 2).trans rfl
      have hcz38_3 : wc.cell? ⟨gb368, 3, none⟩ = some (.slice A1_3 l1_3.length c1_3) := (blk_cell BK368.out 3).trans rfl
      have hcz38_4 : wc.cell? ⟨gb368, 4, none⟩ = some (.slice A1_4 l1_4.length c1_4) := (blk_cell BK368.out 4).trans rfl
      have hfz38_0 := blk_frozen BK368.out 0
      have hfz38_1 := blk_frozen BK368.out 1
      have hfz38_2 := blk_frozen BK368.out 2
      have hfz38_3 := blk_frozen BK368.out 3
      have hfz38_4 := blk_frozen BK368.out 4
      go_wp2_with (first | ((with_reducible refine gate_callee (f := 10) rfl ?_); refine goesL_ (some 27) rfl rfl Try.func10 (by kernel_rfl) rfl #[.agg #[.int .i64 a0_0, .string a0_1, .slice A0_2 l0_2.length c0_2, .slice A0_3 l0_3.length c0_3], .agg #[.int .i64 a1_0, .string a1_1, .slice A1_2 l1_2.length c1_2, .slice A1_3 l1_3.length c1_3], .slice A0_4 l0_4.length c0_4, .slice A1_4 l1_4.length c1_4] rfl MX ?_; (with_reducible refine (change_List.calls a0_0 a0_1 _ _ l0_2 _ _ l0_3 a1_0 a1_1 _ _ l1_2 _ _ l1_3 _ _ l0_4 _ _ l1_4 t372 t375 _ ?side1 ?side2 ?side3 ?side4 ?side5 ?side6 ?side7 ?side8 ?side9 ?side10 ?side11 ?side12 A20.out).mono ?_); (case side1 => exact CX (Kd.C_below HR0_2.out HB.out)); (case side2 => exact HC0_2.out); (case side3 => exact CX (Kd.C_below HR0_3.out HB.out)); (case side4 => exact HC0_3.out); (case side5 => exact CX (Kd.C_below HR1_2.out HB.out)); (case side6 => exact HC1_2.out); (case side7 => exact CX (Kd.C_below HR1_3.out HB.out)); (case side8 => exact HC1_3.out); (case side9 => exact CX (Kd.C_below HR0_4.out HB.out)); (case side10 => exact HC0_4.out); (case side11 => exact CX (Kd.C_below HR1_4.out HB.out)); (case side12 => exact HC1_4.out); rintro e w39 ⟨v373, rfl, ho0, hb⟩; refine ⟨_, rfl, ?_⟩; have n0_ := Aside0.mk (Kd.R_lower ho0 (below_size (by repeat (first | (with_reducible first | exact HB.out | apply below_alloc | apply pw_below_drewN | apply below_drew1 | refine below_set ?_ GE367.out | refine below_set ?_ GE368.out) | exact HB.out)))); have n1_ := Aside0.mk (blk_below (g := gb367) (o := .cells #[.int .i64 a0_0, .string a0_1, .slice A0_2 l0_2.length c0_2, .slice A0_3 l0_3.length c0_3, .slice A0_4 l0_4.length c0_4] 28 (0, 0)) (by (with_reducible repeat (first | refine blk_drewN ?_ _ | refine blk_drew ?_ | refine blk_alloc ?_ _)); exact BK367.out) hb); have n2_ := Aside0.mk (blk_below (g := gb368) (o := .cells #[.int .i64 a1_0, .string a1_1, .slice A1_2 l1_2.length c1_2, .slice A1_3 l1_3.length c1_3, .slice A1_4 l1_4.length c1_4] 28 (0, 0)) (by (with_reducible repeat (first | refine blk_drewN ?_ _ | refine blk_drew ?_ | refine blk_alloc ?_ _)); exact BK368.out) hb); have n3_ := Aside0.mk (below_step (by repeat (first | (with_reducible first | exact HB.out | apply below_alloc | apply pw_below_drewN | apply below_drew1 | refine below_set ?_ GE367.out | refine below_set ?_ GE368.out) | exact HB.out)) hb); clear BK367; clear BK368; clear HB; have HO374 := n0_; have BK367 := n1_; have BK368 := n2_; have HB := n3_; clear n0_ n1_ n2_ n3_; (try clear hb); (try clear hb2); (try clear hk); (try clear hi); (try clear ho0); have hcz40_0 : w39.cell? ⟨gb367, 0, none⟩ = some (.int .i64 a0_0) := (blk_cell BK367.out 0).trans rfl; have hcz40_1 : w39.cell? ⟨gb367, 1, none⟩ = some (.string a0_1) := (blk_cell BK367.out 1).trans rfl; have hcz40_2 : w39.cell? ⟨gb367, 2, none⟩ = some (.slice A0_2 l0_2.length c0_2) := (blk_cell BK367.out 2).trans rfl; have hcz40_3 : w39.cell? ⟨gb367, 3, none⟩ = some (.slice A0_3 l0_3.length c0_3) := (blk_cell BK367.out 3).trans rfl; have hcz40_4 : w39.cell? ⟨gb367, 4, none⟩ = some (.slice A0_4 l0_4.length c0_4) := (blk_cell BK367.out 4).trans rfl; have hfz40_0 := blk_frozen BK367.out 0; have hfz40_1 := blk_frozen BK367.out 1; have hfz40_2 := blk_frozen BK367.out 2; have hfz40_3 := blk_frozen BK367.out 3; have hfz40_4 := blk_frozen BK367.out 4; have hcz41_0 : w39.cell? ⟨gb368, 0, none⟩ = some (.int .i64 a1_0) := (blk_cell BK368.out 0).trans rfl; have hcz41_1 : w39.cell? ⟨gb368, 1, none⟩ = some (.string a1_1) := (blk_cell BK368.out 1).trans rfl; have hcz41_2 : w39.cell? ⟨gb368, 2, none⟩ = some (.slice A1_2 l1_2.length c1_2) := (blk_cell BK368.out 2).trans rfl; have hcz41_3 : w39.cell? ⟨gb368, 3, none⟩ = some (.slice A1_3 l1_3.length c1_3) := (blk_cell BK368.out 3).trans rfl; have hcz41_4 : w39.cell? ⟨gb368, 4, none⟩ = some (.slice A1_4 l1_4.length c1_4) := (blk_cell BK368.out 4).trans rfl; have hfz41_0 := blk_frozen BK368.out 0; have hfz41_1 := blk_frozen BK368.out 1; have hfz41_2 := blk_frozen BK368.out 2; have hfz41_3 := blk_frozen BK368.out 3; have hfz41_4 := blk_frozen BK368.out 4) | ((with_reducible refine gate_callee (f := 11) rfl ?_); refine goesL_ (some 39) rfl rfl Try.func11 (by kernel_rfl) rfl #[.agg #[.int .i64 a0_0, .string a0_1, .slice A0_2 l0_2.length c0_2, .slice A0_3 l0_3.length c0_3], .agg #[.int .i64 a1_0, .string a1_1, .slice A1_2 l1_2.length c1_2, .slice A1_3 l1_3.length c1_3], .slice A0_4 l0_4.length c0_4, .slice A1_4 l1_4.length c1_4] rfl MX ?_; (with_reducible refine (treemergeref31_List.calls kj2 a0_0 a0_1 _ _ l0_2 _ _ l0_3 a1_0 a1_1 _ _ l1_2 _ _ l1_3 _ _ l0_4 _ _ l1_4 t376 t379 _ ?side1 ?side2 ?side3 ?side4 ?side5 ?side6 ?side7 ?side8 ?side9 ?side10 ?side11 ?side12 A21.out).mono ?_); (case side1 => exact CX (Kd.C_below HR0_2.out HB.out)); (case side2 => exact HC0_2.out); (case side3 => exact CX (Kd.C_below HR0_3.out HB.out)); (case side4 => exact HC0_3.out); (case side5 => exact CX (Kd.C_below HR1_2.out HB.out)); (case side6 => exact HC1_2.out); (case side7 => exact CX (Kd.C_below HR1_3.out HB.out)); (case side8 => exact HC1_3.out); (case side9 => exact CX (Kd.C_below HR0_4.out HB.out)); (case side10 => exact HC0_4.out); (case side11 => exact CX (Kd.C_below HR1_4.out HB.out)); (case side12 => exact HC1_4.out); rintro e w42 ⟨v377, rfl, ho0, hb⟩; refine ⟨_, rfl, ?_⟩; have n0_ := Aside0.mk (Kd.R_elder' (RX HO374.out) (Kd.R_base ho0) hb); have n1_ := Aside0.mk (Kd.R_lower (Kd.R_new' ho0 (Kd.R_lt (RX HO374.out))) (below_size (by repeat (first | (with_reducible first | exact HB.out | apply below_alloc | apply pw_below_drewN | apply below_drew1 | refine below_set ?_ GE367.out | refine below_set ?_ GE368.out) | exact HB.out)))); have n2_ := Aside0.mk (blk_below (g := gb367) (o := .cells #[.int .i64 a0_0, .string a0_1, .slice A0_2 l0_2.length c0_2, .slice A0_3 l0_3.length c0_3, .slice A0_4 l0_4.length c0_4] 28 (0, 0)) (by (with_reducible repeat (first | refine blk_drewN ?_ _ | refine blk_drew ?_ | refine blk_alloc ?_ _)); exact BK367.out) hb); have n3_ := Aside0.mk (blk_below (g := gb368) (o := .cells #[.int .i64 a1_0, .string a1_1, .slice A1_2 l1_2.length c1_2, .slice A1_3 l1_3.length c1_3, .slice A1_4 l1_4.length c1_4] 28 (0, 0)) (by (with_reducible repeat (first | refine blk_drewN ?_ _ | refine blk_drew ?_ | refine blk_alloc ?_ _)); exact BK368.out) hb); have n4_ := Aside0.mk (below_step (by repeat (first | (with_reducible first | exact HB.out | apply below_alloc | apply pw_below_drewN | apply below_drew1 | refine below_set ?_ GE367.out | refine below_set ?_ GE368.out) | exact HB.out)) hb); clear HO374; clear BK367; clear BK368; clear HB; have HO374 := n0_; have HO378 := n1_; have BK367 := n2_; have BK368 := n3_; have HB := n4_; clear n0_ n1_ n2_ n3_ n4_; (try clear hb); (try clear hb2); (try clear hk); (try clear hi); (try clear ho0); obtain ⟨Ao43, co43, eo43⟩ := Kd.R_slice HO374.out; subst eo43; obtain ⟨Ao44, co44, eo44⟩ := Kd.R_slice HO378.out; subst eo44) | ((with_reducible refine gate_callee (f := 12) rfl ?_); refine goesL_ (some 44) rfl rfl Try.func12 (by kernel_rfl) rfl #[.slice Ao43 t372.length co43, .slice Ao44 t376.length co44] rfl MX ?_; (with_reducible refine (treemergeref31_Same.calls kj2 _ _ t372 _ _ t376 true _ ?side1 ?side2 ?side3 ?side4 A22.out).mono ?_); (case side1 => exact CX ((Kd.R_reads' HO374.out).2.2)); (case side2 => exact (Kd.R_reads' HO374.out).2.1); (case side3 => exact CX ((Kd.R_reads' HO378.out).2.2)); (case side4 => exact (Kd.R_reads' HO378.out).2.1); rintro e w' ⟨rfl, ⟨nd, rfl⟩⟩; refine ⟨_, rfl, ?_⟩))
      go_ret
      exact ⟨by first | rfl | (simp [errW_none, errW_some] <;> rfl) | (simp [*, errW_none, errW_some] <;> rfl), by repeat (first | (with_reducible first | exact HB.out | apply below_alloc | apply pw_below_drewN | apply below_drew1 | refine below_set ?_ GE367.out | refine below_set ?_ GE368.out) | exact HB.out)⟩
    ·replace c23 := Bool.eq_false_iff.mpr c23
     subst c23
     have H1 : (some false) = some r := by rw [if_neg (show ¬ (false = true) by decide)] at H; exact H
     clear H
     have H := H1
     clear H1
     obtain rfl := Option.some.inj H
     have hnb45 := NB367_368.out
     have hnc45 := NB368_367.out
     have hcz46_0 : wc.cell? ⟨gb367, 0, none⟩ = some (.int .i64 a0_0) := (blk_cell BK367.out 0).trans rfl
     have hcz46_1 : wc.cell? ⟨gb367, 1, none⟩ = some (.string a0_1) := (blk_cell BK367.out 1).trans rfl
     have hcz46_2 : wc.cell? ⟨gb367, 2, none⟩ = some (.slice A0_2 l0_2.length c0_2) := (blk_cell BK367.out 2).trans rfl
     have hcz46_3 : wc.cell? ⟨gb367, 3, none⟩ = some (.slice A0_3 l0_3.length c0_3) := (blk_cell BK367.out 3).trans rfl
     have hcz46_4 : wc.cell? ⟨gb367, 4, none⟩ = some (.slice A0_4 l0_4.length c0_4) := (blk_cell BK367.out 4).trans rfl
     have hfz46_0 := blk_frozen BK367.out 0
     have hfz46_1 := blk_frozen BK367.out 1
     have hfz46_2 := blk_frozen BK367.out 2
     have hfz46_3 := blk_frozen BK367.out 3
     have hfz46_4 := blk_frozen BK367.out 4
     have hcz47_0 : wc.cell? ⟨gb368, 0, none⟩ = some (.int .i64 a1_0) := (blk_cell BK368.out 0).trans rfl
     have hcz47_1 : wc.cell? ⟨gb368, 1, none⟩ = some (.string a1_1) := (blk_cell BK368.out 1).trans rfl
     have hcz47_2 : wc.cell? ⟨gb368, 2, none⟩ = some (.slice A1_2 l1_2.length c1_2) := (blk_cell BK368.out 2).trans rfl
     have hcz47_3 : wc.cell? ⟨gb368, 3, none⟩ = some (.slice A1_3 l1_3.length c1_3) := (blk_cell BK368.out 3).trans rfl
     have hcz47_4 : wc.cell? ⟨gb368, 4, none⟩ = some (.slice A1_4 l1_4.length c1_4) := (blk_cell BK368.out 4).trans rfl
     have hfz47_0 := blk_frozen BK368.out 0
     have hfz47_1 := blk_frozen BK368.out 1
     have hfz47_2 := blk_frozen BK368.out 2
     have hfz47_3 := blk_frozen BK368.out 3
     have hfz47_4 := blk_frozen BK368.out 4
     go_wp2_with (first | ((with_reducible refine gate_callee (f := 10) rfl ?_); refine goesL_ (some 27) rfl rfl Try.func10 (by kernel_rfl) rfl #[.agg #[.int .i64 a0_0, .string a0_1, .slice A0_2 l0_2.length c0_2, .slice A0_3 l0_3.length c0_3], .agg #[.int .i64 a1_0, .string a1_1, .slice A1_2 l1_2.length c1_2, .slice A1_3 l1_3.length c1_3], .slice A0_4 l0_4.length c0_4, .slice A1_4 l1_4.length c1_4] rfl MX ?_; (with_reducible refine (change_List.calls a0_0 a0_1 _ _ l0_2 _ _ l0_3 a1_0 a1_1 _ _ l1_2 _ _ l1_3 _ _ l0_4 _ _ l1_4 t372 t375 _ ?side1 ?side2 ?side3 ?side4 ?side5 ?side6 ?side7 ?side8 ?side9 ?side10 ?side11 ?side12 A20.out).mono ?_); (case side1 => exact CX (Kd.C_below HR0_2.out HB.out)); (case side2 => exact HC0_2.out); (case side3 => exact CX (Kd.C_below HR0_3.out HB.out)); (case side4 => exact HC0_3.out); (case side5 => exact CX (Kd.C_below HR1_2.out HB.out)); (case side6 => exact HC1_2.out); (case side7 => exact CX (Kd.C_below HR1_3.out HB.out)); (case side8 => exact HC1_3.out); (case side9 => exact CX (Kd.C_below HR0_4.out HB.out)); (case side10 => exact HC0_4.out); (case side11 => exact CX (Kd.C_below HR1_4.out HB.out)); (case side12 => exact HC1_4.out); rintro e w48 ⟨v373, rfl, ho0, hb⟩; refine ⟨_, rfl, ?_⟩; have n0_ := Aside0.mk (Kd.R_lower ho0 (below_size (by repeat (first | (with_reducible first | exact HB.out | apply below_alloc | apply pw_below_drewN | apply below_drew1 | refine below_set ?_ GE367.out | refine below_set ?_ GE368.out) | exact HB.out)))); have n1_ := Aside0.mk (blk_below (g := gb367) (o := .cells #[.int .i64 a0_0, .string a0_1, .slice A0_2 l0_2.length c0_2, .slice A0_3 l0_3.length c0_3, .slice A0_4 l0_4.length c0_4] 28 (0, 0)) (by (with_reducible repeat (first | refine blk_drewN ?_ _ | refine blk_drew ?_ | refine blk_alloc ?_ _)); exact BK367.out) hb); have n2_ := Aside0.mk (blk_below (g := gb368) (o := .cells #[.int .i64 a1_0, .string a1_1, .slice A1_2 l1_2.length c1_2, .slice A1_3 l1_3.length c1_3, .slice A1_4 l1_4.length c1_4] 28 (0, 0)) (by (with_reducible repeat (first | refine blk_drewN ?_ _ | refine blk_drew ?_ | refine blk_alloc ?_ _)); exact BK368.out) hb); have n3_ := Aside0.mk (below_step (by repeat (first | (with_reducible first | exact HB.out | apply below_alloc | apply pw_below_drewN | apply below_drew1 | refine below_set ?_ GE367.out | refine below_set ?_ GE368.out) | exact HB.out)) hb); clear BK367; clear BK368; clear HB; have HO374 := n0_; have BK367 := n1_; have BK368 := n2_; have HB := n3_; clear n0_ n1_ n2_ n3_; (try clear hb); (try clear hb2); (try clear hk); (try clear hi); (try clear ho0); have hcz49_0 : w48.cell? ⟨gb367, 0, none⟩ = some (.int .i64 a0_0) := (blk_cell BK367.out 0).trans rfl; have hcz49_1 : w48.cell? ⟨gb367, 1, none⟩ = some (.string a0_1) := (blk_cell BK367.out 1).trans rfl; have hcz49_2 : w48.cell? ⟨gb367, 2, none⟩ = some (.slice A0_2 l0_2.length c0_2) := (blk_cell BK367.out 2).trans rfl; have hcz49_3 : w48.cell? ⟨gb367, 3, none⟩ = some (.slice A0_3 l0_3.length c0_3) := (blk_cell BK367.out 3).trans rfl; have hcz49_4 : w48.cell? ⟨gb367, 4, none⟩ = some (.slice A0_4 l0_4.length c0_4) := (blk_cell BK367.out 4).trans rfl; have hfz49_0 := blk_frozen BK367.out 0; have hfz49_1 := blk_frozen BK367.out 1; have hfz49_2 := blk_frozen BK367.out 2; have hfz49_3 := blk_frozen BK367.out 3; have hfz49_4 := blk_frozen BK367.out 4; have hcz50_0 : w48.cell? ⟨gb368, 0, none⟩ = some (.int .i64 a1_0) := (blk_cell BK368.out 0).trans rfl; have hcz50_1 : w48.cell? ⟨gb368, 1, none⟩ = some (.string a1_1) := (blk_cell BK368.out 1).trans rfl; have hcz50_2 : w48.cell? ⟨gb368, 2, none⟩ = some (.slice A1_2 l1_2.length c1_2) := (blk_cell BK368.out 2).trans rfl; have hcz50_3 : w48.cell? ⟨gb368, 3, none⟩ = some (.slice A1_3 l1_3.length c1_3) := (blk_cell BK368.out 3).trans rfl; have hcz50_4 : w48.cell? ⟨gb368, 4, none⟩ = some (.slice A1_4 l1_4.length c1_4) := (blk_cell BK368.out 4).trans rfl; have hfz50_0 := blk_frozen BK368.out 0; have hfz50_1 := blk_frozen BK368.out 1; have hfz50_2 := blk_frozen BK368.out 2; have hfz50_3 := blk_frozen BK368.out 3; have hfz50_4 := blk_frozen BK368.out 4) | ((with_reducible refine gate_callee (f := 11) rfl ?_); refine goesL_ (some 39) rfl rfl Try.func11 (by kernel_rfl) rfl #[.agg #[.int .i64 a0_0, .string a0_1, .slice A0_2 l0_2.length c0_2, .slice A0_3 l0_3.length c0_3], .agg #[.int .i64 a1_0, .string a1_1, .slice A1_2 l1_2.length c1_2, .slice A1_3 l1_3.length c1_3], .slice A0_4 l0_4.length c0_4, .slice A1_4 l1_4.length c1_4] rfl MX ?_; (with_reducible refine (treemergeref31_List.calls kj2 a0_0 a0_1 _ _ l0_2 _ _ l0_3 a1_0 a1_1 _ _ l1_2 _ _ l1_3 _ _ l0_4 _ _ l1_4 t376 t379 _ ?side1 ?side2 ?side3 ?side4 ?side5 ?side6 ?side7 ?side8 ?side9 ?side10 ?side11 ?side12 A21.out).mono ?_); (case side1 => exact CX (Kd.C_below HR0_2.out HB.out)); (case side2 => exact HC0_2.out); (case side3 => exact CX (Kd.C_below HR0_3.out HB.out)); (case side4 => exact HC0_3.out); (case side5 => exact CX (Kd.C_below HR1_2.out HB.out)); (case side6 => exact HC1_2.out); (case side7 => exact CX (Kd.C_below HR1_3.out HB.out)); (case side8 => exact HC1_3.out); (case side9 => exact CX (Kd.C_below HR0_4.out HB.out)); (case side10 => exact HC0_4.out); (case side11 => exact CX (Kd.C_below HR1_4.out HB.out)); (case side12 => exact HC1_4.out); rintro e w51 ⟨v377, rfl, ho0, hb⟩; refine ⟨_, rfl, ?_⟩; have n0_ := Aside0.mk (Kd.R_elder' (RX HO374.out) (Kd.R_base ho0) hb); have n1_ := Aside0.mk (Kd.R_lower (Kd.R_new' ho0 (Kd.R_lt (RX HO374.out))) (below_size (by repeat (first | (with_reducible first | exact HB.out | apply below_alloc | apply pw_below_drewN | apply below_drew1 | refine below_set ?_ GE367.out | refine below_set ?_ GE368.out) | exact HB.out)))); have n2_ := Aside0.mk (blk_below (g := gb367) (o := .cells #[.int .i64 a0_0, .string a0_1, .slice A0_2 l0_2.length c0_2, .slice A0_3 l0_3.length c0_3, .slice A0_4 l0_4.length c0_4] 28 (0, 0)) (by (with_reducible repeat (first | refine blk_drewN ?_ _ | refine blk_drew ?_ | refine blk_alloc ?_ _)); exact BK367.out) hb); have n3_ := Aside0.mk (blk_below (g := gb368) (o := .cells #[.int .i64 a1_0, .string a1_1, .slice A1_2 l1_2.length c1_2, .slice A1_3 l1_3.length c1_3, .slice A1_4 l1_4.length c1_4] 28 (0, 0)) (by (with_reducible repeat (first | refine blk_drewN ?_ _ | refine blk_drew ?_ | refine blk_alloc ?_ _)); exact BK368.out) hb); have n4_ := Aside0.mk (below_step (by repeat (first | (with_reducible first | exact HB.out | apply below_alloc | apply pw_below_drewN | apply below_drew1 | refine below_set ?_ GE367.out | refine below_set ?_ GE368.out) | exact HB.out)) hb); clear HO374; clear BK367; clear BK368; clear HB; have HO374 := n0_; have HO378 := n1_; have BK367 := n2_; have BK368 := n3_; have HB := n4_; clear n0_ n1_ n2_ n3_ n4_; (try clear hb); (try clear hb2); (try clear hk); (try clear hi); (try clear ho0); obtain ⟨Ao52, co52, eo52⟩ := Kd.R_slice HO374.out; subst eo52; obtain ⟨Ao53, co53, eo53⟩ := Kd.R_slice HO378.out; subst eo53) | ((with_reducible refine gate_callee (f := 12) rfl ?_); refine goesL_ (some 44) rfl rfl Try.func12 (by kernel_rfl) rfl #[.slice Ao52 t372.length co52, .slice Ao53 t376.length co53] rfl MX ?_; (with_reducible refine (treemergeref31_Same.calls kj2 _ _ t372 _ _ t376 false _ ?side1 ?side2 ?side3 ?side4 A22.out).mono ?_); (case side1 => exact CX ((Kd.R_reads' HO374.out).2.2)); (case side2 => exact (Kd.R_reads' HO374.out).2.1); (case side3 => exact CX ((Kd.R_reads' HO378.out).2.2)); (case side4 => exact (Kd.R_reads' HO378.out).2.1); rintro e w' ⟨rfl, ⟨nd, rfl⟩⟩; refine ⟨_, rfl, ?_⟩))
     go_ret
     exact ⟨by first | rfl | (simp [errW_none, errW_some] <;> rfl) | (simp [*, errW_none, errW_some] <;> rfl), by repeat (first | (with_reducible first | exact HB.out | apply below_alloc | apply pw_below_drewN | apply below_drew1 | refine below_set ?_ GE367.out | refine below_set ?_ GE368.out) | exact HB.out)⟩

end Go.Proofs.Ytcfjdehpbckomaa.Q
