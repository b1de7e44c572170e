-- Written by a program of this session (mk.py) out of the translation; Lean checks it.
import Derived.Test.YtcfjdehpbckomaaQ0
import Derived.Test.YtcfjdehpbckomaaQ5
import Derived.Test.YtcfjdehpbckomaaQ6
import Derived.Test.YtcfjdehpbckomaaQ7
import Derived.Test.YtcfjdehpbckomaaQ8
namespace Go.Proofs.Ytcfjdehpbckomaa.Q
open Go.RowKit Go.Proofs.YtcfjdehpbckomaaW.PrintWords Go.Proofs.YtcfjdehpbckomaaW.PrintLast Go.Proofs.YtcfjdehpbckomaaW.PrintMore
attribute [local go_sem] max2_int min2_int max_two min_two max_three min_three max_four min_four   -- for this text's walks alone
set_option linter.unusedVariables false
set_option linter.unusedSimpArgs false

/-! ### treemergelaw31_ChangeSides: function 7 -/
mutual
def treemergelaw31_ChangeSides.j0 : Nat → List (S48) → List (S48) → Bool → Int → ByteArray → List ByteArray → List (S25) → Int → ByteArray → List ByteArray → List (S25) → Int → ByteArray → List ByteArray → List (S25) → List Int → List Int → List Int → Int → Option (Bool)
  | 0, _, _, _, _, _, _, _, _, _, _, _, _, _, _, _, _, _, _, _ => none
  | k + 1, x0, x1, x26, x274000, x274001, x274002, x274003, x274004, x274005, x274006, x274007, x274008, x274009, x274010, x274011, x274012, x274013, x274014, x274015 => if x26 = true then ((treemergelaw31_awake.f).bind fun t275 => (some t275)) else ((change_Overlap.f x0 x1).bind fun t276 => ((change_Overlap.f x1 x0).bind fun t279 => ((treemergelaw31_same.f k t276 t279).bind fun t282 => (if t282 = true then ((change_Independent.f x274000 x274001 x274002 x274003 x274004 x274005 x274006 x274007 x274008 x274009 x274010 x274011 x274012 x274013 x274014 x274015).bind fun bt283 => ((change_Independent.f x274000 x274001 x274002 x274003 x274008 x274009 x274010 x274011 x274004 x274005 x274006 x274007 x274012 x274014 x274013 x274015).bind fun bt286 => (if ((bt283.2 == 0) != (bt286.2 == 0)) = true then (treemergelaw31_ChangeSides.j1 k true x274000 x274001 x274002 x274003 x274004 x274005 x274006 x274007 x274008 x274009 x274010 x274011 x274012 x274013 x274014 x274015) else (treemergelaw31_ChangeSides.j1 k (bt283.1 != bt286.1) x274000 x274001 x274002 x274003 x274004 x274005 x274006 x274007 x274008 x274009 x274010 x274011 x274012 x274013 x274014 x274015)))) else (some false)))))
def treemergelaw31_ChangeSides.j1 : Nat → Bool → Int → ByteArray → List ByteArray → List (S25) → Int → ByteArray → List ByteArray → List (S25) → Int → ByteArray → List ByteArray → List (S25) → List Int → List Int → List Int → Int → Option (Bool)
  | 0, _, _, _, _, _, _, _, _, _, _, _, _, _, _, _, _, _ => none
  | k + 1, x81, x274000, x274001, x274002, x274003, x274004, x274005, x274006, x274007, x274008, x274009, x274010, x274011, x274012, x274013, x274014, x274015 => if x81 = true then (some false) else ((change_Independent.f x274000 x274001 x274002 x274003 x274000 x274001 x274002 x274003 x274008 x274009 x274010 x274011 x274012 x274012 x274014 x274015).bind fun bt288 => (if bt288.2 = 0 then (if bt288.1 = true then ((treemergelaw31_awake.f).bind fun t290 => (some t290)) else (some false)) else ((treemergelaw31_awake.f).bind fun t291 => (some t291))))
end
def treemergelaw31_ChangeSides.f (k : Nat) (l0 : List (S48)) (l1 : List (S48)) (a2_0 : Int) (a2_1 : ByteArray) (l2_2 : List ByteArray) (l2_3 : List (S25)) (a2_4 : Int) (a2_5 : ByteArray) (l2_6 : List ByteArray) (l2_7 : List (S25)) (a2_8 : Int) (a2_9 : ByteArray) (l2_10 : List ByteArray) (l2_11 : List (S25)) (l2_12 : List Int) (l2_13 : List Int) (l2_14 : List Int) (a2_15 : Int) : Option (Bool) := if (l0.length : Int) > 60 then (treemergelaw31_ChangeSides.j0 k l0 l1 true a2_0 a2_1 l2_2 l2_3 a2_4 a2_5 l2_6 l2_7 a2_8 a2_9 l2_10 l2_11 l2_12 l2_13 l2_14 a2_15) else (if (l1.length : Int) > 60 then (treemergelaw31_ChangeSides.j0 k l0 l1 true a2_0 a2_1 l2_2 l2_3 a2_4 a2_5 l2_6 l2_7 a2_8 a2_9 l2_10 l2_11 l2_12 l2_13 l2_14 a2_15) else ((treemergelaw31_few.f k a2_0 a2_1 l2_2 l2_3 a2_4 a2_5 l2_6 l2_7 a2_8 a2_9 l2_10 l2_11 l2_12 l2_13 l2_14 a2_15).bind fun t274 => (treemergelaw31_ChangeSides.j0 k l0 l1 (!t274) a2_0 a2_1 l2_2 l2_3 a2_4 a2_5 l2_6 l2_7 a2_8 a2_9 l2_10 l2_11 l2_12 l2_13 l2_14 a2_15)))
theorem treemergelaw31_ChangeSides.mono_l : ∀ k, (∀ y0 y1 y2 y3 y4 y5 y6 y7 y8 y9 y10 y11 y12 y13 y14 y15 y16 y17 y18, LeO (treemergelaw31_ChangeSides.j0 k y0 y1 y2 y3 y4 y5 y6 y7 y8 y9 y10 y11 y12 y13 y14 y15 y16 y17 y18) (treemergelaw31_ChangeSides.j0 (k + 1) y0 y1 y2 y3 y4 y5 y6 y7 y8 y9 y10 y11 y12 y13 y14 y15 y16 y17 y18)) ∧ (∀ y0 y1 y2 y3 y4 y5 y6 y7 y8 y9 y10 y11 y12 y13 y14 y15 y16, LeO (treemergelaw31_ChangeSides.j1 k y0 y1 y2 y3 y4 y5 y6 y7 y8 y9 y10 y11 y12 y13 y14 y15 y16) (treemergelaw31_ChangeSides.j1 (k + 1) y0 y1 y2 y3 y4 y5 y6 y7 y8 y9 y10 y11 y12 y13 y14 y15 y16))
  | 0 => ⟨fun _ _ _ _ _ _ _ _ _ _ _ _ _ _ _ _ _ _ _ r h => by simp [treemergelaw31_ChangeSides.j0] at h, fun _ _ _ _ _ _ _ _ _ _ _ _ _ _ _ _ _ r h => by simp [treemergelaw31_ChangeSides.j1] at h⟩
  | k + 1 => by
    obtain ⟨ih0, ih1⟩ := treemergelaw31_ChangeSides.mono_l k
    refine ⟨?_, ?_⟩
    · intro y0 y1 y2 y3 y4 y5 y6 y7 y8 y9 y10 y11 y12 y13 y14 y15 y16 y17 y18
      unfold treemergelaw31_ChangeSides.j0
      repeat' first
      | (with_reducible exact ih0 _ _ _ _ _ _ _ _ _ _ _ _ _ _ _ _ _ _ _)
      | (with_reducible exact ih1 _ _ _ _ _ _ _ _ _ _ _ _ _ _ _ _ _)
      | (with_reducible exact treemergelaw31_few.mono _ _ _ _ _ _ _ _ _ _ _ _ _ _ _ _ _)
      | (with_reducible exact treemergelaw31_same.mono _ _ _)
      | (with_reducible exact LeO.refl _)
      | (with_reducible exact LeO.none _)
      | (with_reducible refine LeO.ite ?_ ?_)
      | (with_reducible refine LeO.bind ?_ (fun _ => ?_))
      | exact ih0 _ _ _ _ _ _ _ _ _ _ _ _ _ _ _ _ _ _ _
      | exact ih1 _ _ _ _ _ _ _ _ _ _ _ _ _ _ _ _ _
      | exact treemergelaw31_few.mono _ _ _ _ _ _ _ _ _ _ _ _ _ _ _ _ _
      | exact treemergelaw31_same.mono _ _ _
      | exact LeO.none _
      | refine LeO.ite ?_ ?_
      | refine LeO.bind ?_ (fun _ => ?_)
    · intro y0 y1 y2 y3 y4 y5 y6 y7 y8 y9 y10 y11 y12 y13 y14 y15 y16
      unfold treemergelaw31_ChangeSides.j1
      repeat' first
      | (with_reducible exact ih0 _ _ _ _ _ _ _ _ _ _ _ _ _ _ _ _ _ _ _)
      | (with_reducible exact ih1 _ _ _ _ _ _ _ _ _ _ _ _ _ _ _ _ _)
      | (with_reducible exact treemergelaw31_few.mono _ _ _ _ _ _ _ _ _ _ _ _ _ _ _ _ _)
      | (with_reducible exact treemergelaw31_same.mono _ _ _)
      | (with_reducible exact LeO.refl _)
      | (with_reducible exact LeO.none _)
      | (with_reducible refine LeO.ite ?_ ?_)
      | (with_reducible refine LeO.bind ?_ (fun _ => ?_))
      | exact ih0 _ _ _ _ _ _ _ _ _ _ _ _ _ _ _ _ _ _ _
      | exact ih1 _ _ _ _ _ _ _ _ _ _ _ _ _ _ _ _ _
      | exact treemergelaw31_few.mono _ _ _ _ _ _ _ _ _ _ _ _ _ _ _ _ _
      | exact treemergelaw31_same.mono _ _ _
      | exact LeO.none _
      | refine LeO.ite ?_ ?_
      | refine LeO.bind ?_ (fun _ => ?_)
theorem treemergelaw31_ChangeSides.mono : ∀ a0 a1 a2 a3 a4 a5 a6 a7 a8 a9 a10 a11 a12 a13 a14 a15 a16 a17 k, LeO (treemergelaw31_ChangeSides.f k a0 a1 a2 a3 a4 a5 a6 a7 a8 a9 a10 a11 a12 a13 a14 a15 a16 a17) (treemergelaw31_ChangeSides.f (k + 1) a0 a1 a2 a3 a4 a5 a6 a7 a8 a9 a10 a11 a12 a13 a14 a15 a16 a17) := by
  intro a0 a1 a2 a3 a4 a5 a6 a7 a8 a9 a10 a11 a12 a13 a14 a15 a16 a17 k
  obtain ⟨ih0, ih1⟩ := treemergelaw31_ChangeSides.mono_l k
  unfold treemergelaw31_ChangeSides.f
  repeat' first
      | (with_reducible exact ih0 _ _ _ _ _ _ _ _ _ _ _ _ _ _ _ _ _ _ _)
      | (with_reducible exact ih1 _ _ _ _ _ _ _ _ _ _ _ _ _ _ _ _ _)
      | (with_reducible exact treemergelaw31_few.mono _ _ _ _ _ _ _ _ _ _ _ _ _ _ _ _ _)
      | (with_reducible exact treemergelaw31_same.mono _ _ _)
      | (with_reducible exact LeO.refl _)
      | (with_reducible exact LeO.none _)
      | (with_reducible refine LeO.ite ?_ ?_)
      | (with_reducible refine LeO.bind ?_ (fun _ => ?_))
      | exact ih0 _ _ _ _ _ _ _ _ _ _ _ _ _ _ _ _ _ _ _
      | exact ih1 _ _ _ _ _ _ _ _ _ _ _ _ _ _ _ _ _
      | exact treemergelaw31_few.mono _ _ _ _ _ _ _ _ _ _ _ _ _ _ _ _ _
      | exact treemergelaw31_same.mono _ _ _
      | exact LeO.none _
      | refine LeO.ite ?_ ?_
      | refine LeO.bind ?_ (fun _ => ?_)
set_option maxHeartbeats 8000000 in
set_option maxRecDepth 100000 in
theorem treemergelaw31_ChangeSides.calls (k : Nat) (A0 : Option Addr) (c0 : Nat) (l0 : List (S48)) (A1 : Option Addr) (c1 : Nat) (l1 : List (S48)) (a2_0 : Int) (a2_1 : ByteArray) (A2_2 : Option Addr) (c2_2 : Nat) (l2_2 : List ByteArray) (A2_3 : Option Addr) (c2_3 : Nat) (l2_3 : List (S25)) (a2_4 : Int) (a2_5 : ByteArray) (A2_6 : Option Addr) (c2_6 : Nat) (l2_6 : List ByteArray) (A2_7 : Option Addr) (c2_7 : Nat) (l2_7 : List (S25)) (a2_8 : Int) (a2_9 : ByteArray) (A2_10 : Option Addr) (c2_10 : Nat) (l2_10 : List ByteArray) (A2_11 : Option Addr) (c2_11 : Nat) (l2_11 : List (S25)) (A2_12 : Option Addr) (c2_12 : Nat) (l2_12 : List Int) (A2_13 : Option Addr) (c2_13 : Nat) (l2_13 : List Int) (A2_14 : Option Addr) (c2_14 : Nat) (l2_14 : List Int) (a2_15 : Int) (r : Bool) (w : World) (hr0 : Kd.C k48 w A0 l0.length l0) (hc0 : l0.length ≤ c0) (hr1 : Kd.C k48 w A1 l1.length l1) (hc1 : l1.length ≤ c1) (hr2_2 : Kd.C Kd.string w A2_2 l2_2.length l2_2) (hc2_2 : l2_2.length ≤ c2_2) (hr2_3 : Kd.C k25 w A2_3 l2_3.length l2_3) (hc2_3 : l2_3.length ≤ c2_3) (hr2_6 : Kd.C Kd.string w A2_6 l2_6.length l2_6) (hc2_6 : l2_6.length ≤ c2_6) (hr2_7 : Kd.C k25 w A2_7 l2_7.length l2_7) (hc2_7 : l2_7.length ≤ c2_7) (hr2_10 : Kd.C Kd.string w A2_10 l2_10.length l2_10) (hc2_10 : l2_10.length ≤ c2_10) (hr2_11 : Kd.C k25 w A2_11 l2_11.length l2_11) (hc2_11 : l2_11.length ≤ c2_11) (hr2_12 : Kd.C (Kd.int .i64) w A2_12 l2_12.length l2_12) (hc2_12 : l2_12.length ≤ c2_12) (hr2_13 : Kd.C (Kd.int .i64) w A2_13 l2_13.length l2_13) (hc2_13 : l2_13.length ≤ c2_13) (hr2_14 : Kd.C (Kd.int .i64) w A2_14 l2_14.length l2_14) (hc2_14 : l2_14.length ≤ c2_14) (h : treemergelaw31_ChangeSides.f k l0 l1 a2_0 a2_1 l2_2 l2_3 a2_4 a2_5 l2_6 l2_7 a2_8 a2_9 l2_10 l2_11 l2_12 l2_13 l2_14 a2_15 = some r) :
    Calls Try.prog 7 #[.slice A0 l0.length c0, .slice A1 l1.length c1, .agg #[.int .i64 a2_0, .string a2_1, .slice A2_2 l2_2.length c2_2, .slice A2_3 l2_3.length c2_3, .int .i64 a2_4, .string a2_5, .slice A2_6 l2_6.length c2_6, .slice A2_7 l2_7.length c2_7, .int .i64 a2_8, .string a2_9, .slice A2_10 l2_10.length c2_10, .slice A2_11 l2_11.length c2_11, .slice A2_12 l2_12.length c2_12, .slice A2_13 l2_13.length c2_13, .slice A2_14 l2_14.length c2_14, .int .i64 a2_15]] w fun e w' => e = .returned (.bool r) ∧ Below w.heap.size w w' := by
  have hu42 := Try.underlying42
  have hu25 := Try.underlying25
  have hu40 := Try.underlying40
  have HR0 := Aside0.mk hr0
  have HC0 := Aside0.mk hc0
  clear hr0 hc0
  have HR1 := Aside0.mk hr1
  have HC1 := Aside0.mk hc1
  clear hr1 hc1
  have HR2_2 := Aside0.mk hr2_2
  have HC2_2 := Aside0.mk hc2_2
  clear hr2_2 hc2_2
  have HR2_3 := Aside0.mk hr2_3
  have HC2_3 := Aside0.mk hc2_3
  clear hr2_3 hc2_3
  have HR2_6 := Aside0.mk hr2_6
  have HC2_6 := Aside0.mk hc2_6
  clear hr2_6 hc2_6
  have HR2_7 := Aside0.mk hr2_7
  have HC2_7 := Aside0.mk hc2_7
  clear hr2_7 hc2_7
  have HR2_10 := Aside0.mk hr2_10
  have HC2_10 := Aside0.mk hc2_10
  clear hr2_10 hc2_10
  have HR2_11 := Aside0.mk hr2_11
  have HC2_11 := Aside0.mk hc2_11
  clear hr2_11 hc2_11
  have HR2_12 := Aside0.mk hr2_12
  have HC2_12 := Aside0.mk hc2_12
  clear hr2_12 hc2_12
  have HR2_13 := Aside0.mk hr2_13
  have HC2_13 := Aside0.mk hc2_13
  clear hr2_13 hc2_13
  have HR2_14 := Aside0.mk hr2_14
  have HC2_14 := Aside0.mk hc2_14
  clear hr2_14 hc2_14
  have HB := Aside0.mk (Below.refl w.heap.size w)
  have H : (if (l0.length : Int) > 60 then (treemergelaw31_ChangeSides.j0 k l0 l1 true a2_0 a2_1 l2_2 l2_3 a2_4 a2_5 l2_6 l2_7 a2_8 a2_9 l2_10 l2_11 l2_12 l2_13 l2_14 a2_15) else (if (l1.length : Int) > 60 then (treemergelaw31_ChangeSides.j0 k l0 l1 true a2_0 a2_1 l2_2 l2_3 a2_4 a2_5 l2_6 l2_7 a2_8 a2_9 l2_10 l2_11 l2_12 l2_13 l2_14 a2_15) else ((treemergelaw31_few.f k a2_0 a2_1 l2_2 l2_3 a2_4 a2_5 l2_6 l2_7 a2_8 a2_9 l2_10 l2_11 l2_12 l2_13 l2_14 a2_15).bind fun t274 => (treemergelaw31_ChangeSides.j0 k l0 l1 (!t274) a2_0 a2_1 l2_2 l2_3 a2_4 a2_5 l2_6 l2_7 a2_8 a2_9 l2_10 l2_11 l2_12 l2_13 l2_14 a2_15)))) = some r := h
  clear h
  have HC4 := Aside0.mk H
  clear H
  go_enter Try.func7, Try.ntmps7
  go_upto_region 1 with (first | ((with_reducible refine gate_dst (N := 5) rfl ?_); (try (refine gate_guard (by rfl) ?_; dsimp only)); refine box_event ?hg (N := 5) ?hd (cs := #[.int .i64 a2_0, .string a2_1, .slice A2_2 l2_2.length c2_2, .slice A2_3 l2_3.length c2_3, .int .i64 a2_4, .string a2_5, .slice A2_6 l2_6.length c2_6, .slice A2_7 l2_7.length c2_7, .int .i64 a2_8, .string a2_9, .slice A2_10 l2_10.length c2_10, .slice A2_11 l2_11.length c2_11, .slice A2_12 l2_12.length c2_12, .slice A2_13 l2_13.length c2_13, .slice A2_14 l2_14.length c2_14, .int .i64 a2_15]) (t := 42) ?hr ?_; (case hd => rfl); (case hg => rfl); (case hr => first | (go_simp; done) | (go_simp; rfl) | (obtain ⟨_, _, rfl⟩ := Kd.R_slice (Aside0.out (by assumption : Aside0 (Kd.R _ _ _ _ _ _ _))); go_simp; done)); intro gb273 hg w5 hbox hb; have n0_ := Aside0.mk (below_step (by repeat (first | (with_reducible first | exact HB.out | apply below_alloc | apply pw_below_drewN | apply below_drew1) | exact HB.out)) hb); have n1_ := Aside0.mk (hbox); have n2_ := Aside0.mk ((by rw [hg]; exact (below_size (by repeat (first | (with_reducible first | exact HB.out | apply below_alloc | apply pw_below_drewN | apply below_drew1) | exact HB.out))) : w.heap.size ≤ gb273)); have n3_ := Aside0.mk ((by rw [hg]; exact (below_size (by repeat (first | (with_reducible first | exact HB.out | apply below_alloc | apply pw_below_drewN | apply below_drew1) | exact HB.out))) : w.heap.size ≤ gb273)); clear HB; have HB := n0_; have BK273 := n1_; have GW273 := n2_; have GE273 := n3_; clear n0_ n1_ n2_ n3_; clear hb hbox hg))
  (try simp only [Act.put, List.setIfInBounds_toArray, List.set_cons_zero, List.set_cons_succ])
  go_cut [26] (fun v26 wc => ∃ (kq : Nat) (x26_3 : Bool), v26 = .bool x26_3 ∧ Aside0 (treemergelaw31_ChangeSides.j0 kq l0 l1 x26_3 a2_0 a2_1 l2_2 l2_3 a2_4 a2_5 l2_6 l2_7 a2_8 a2_9 l2_10 l2_11 l2_12 l2_13 l2_14 a2_15 = some r) ∧ Aside0 (kq ≤ k) ∧ Aside0 (wc.heap[gb273]? = some (.cells #[.int .i64 a2_0, .string a2_1, (.slice A2_2 l2_2.length c2_2), (.slice A2_3 l2_3.length c2_3), .int .i64 a2_4, .string a2_5, (.slice A2_6 l2_6.length c2_6), (.slice A2_7 l2_7.length c2_7), .int .i64 a2_8, .string a2_9, (.slice A2_10 l2_10.length c2_10), (.slice A2_11 l2_11.length c2_11), (.slice A2_12 l2_12.length c2_12), (.slice A2_13 l2_13.length c2_13), (.slice A2_14 l2_14.length c2_14), .int .i64 a2_15] 42 (0, 0))) ∧ Aside0 (Below w.heap.size w wc))
  case first =>
    have H := HC4.out
    clear HC4
    by_cases c6 : (l0.length : Int) > 60
    · rw [if_pos c6] at H
      have c6b0 : decide (60 < (l0.length : Int)) = true := decide_eq_true c6
      have c6b1 : decide (60 < l0.length) = true := decide_eq_true (by omega)
      clear c6
      (first | rw [c6b0] | (simp only [i64_w, i32_w]; rw [c6b0]) | skip)
      have H' := Aside0.mk H
      clear H
      go_wp2
      go_meet
      case rel => exact ⟨_, (true), (by first | rfl | (simp; done) | (simp [*]; done)), H', ⟨by first | omega | exact Nat.le_refl _⟩, ⟨by (with_reducible repeat (first | refine blk_drewN ?_ _ | refine blk_drew ?_ | refine blk_alloc ?_ _)); exact BK273.out⟩, ⟨by repeat (first | (with_reducible first | exact HB.out | apply below_alloc | apply pw_below_drewN | apply below_drew1 | refine below_set ?_ GE273.out) | exact HB.out)⟩⟩
    · rw [if_neg c6] at H
      have c6b0 : decide (60 < (l0.length : Int)) = false := decide_eq_false c6
      have c6b1 : decide (60 < l0.length) = false := decide_eq_false (by omega)
      clear c6
      (first | rw [c6b0] | (simp only [i64_w, i32_w]; rw [c6b0]) | skip)
      by_cases c7 : (l1.length : Int) > 60
      · rw [if_pos c7] at H
        have c7b0 : decide (60 < (l1.length : Int)) = true := decide_eq_true c7
        have c7b1 : decide (60 < l1.length) = true := decide_eq_true (by omega)
        clear c7
        have H' := Aside0.mk H
        clear H
        go_wp2
        go_meet
        case rel => exact ⟨_, (true), (by first | rfl | (simp; done) | (simp [*]; done)), H', ⟨by first | omega | exact Nat.le_refl _⟩, ⟨by (with_reducible repeat (first | refine blk_drewN ?_ _ | refine blk_drew ?_ | refine blk_alloc ?_ _)); exact BK273.out⟩, ⟨by repeat (first | (with_reducible first | exact HB.out | apply below_alloc | apply pw_below_drewN | apply below_drew1 | refine below_set ?_ GE273.out) | exact HB.out)⟩⟩
      · rw [if_neg c7] at H
        have c7b0 : decide (60 < (l1.length : Int)) = false := decide_eq_false c7
        have c7b1 : decide (60 < l1.length) = false := decide_eq_false (by omega)
        clear c7
        replace H := Option.bind_eq_some_iff.mp H
        obtain ⟨t274, A80, H⟩ := H
        replace H : (treemergelaw31_ChangeSides.j0 k l0 l1 (!t274) a2_0 a2_1 l2_2 l2_3 a2_4 a2_5 l2_6 l2_7 a2_8 a2_9 l2_10 l2_11 l2_12 l2_13 l2_14 a2_15) = some r := H
        have A8 := Aside0.mk A80
        clear A80
        have H' := Aside0.mk H
        clear H
        have hcz9_0 : w5.cell? ⟨gb273, 0, none⟩ = some (.int .i64 a2_0) := (blk_cell BK273.out 0).trans rfl
        have hcz9_1 : w5.cell? ⟨gb273, 1, none⟩ = some (.string a2_1) := (blk_cell BK273.out 1).trans rfl
        have hcz9_2 : w5.cell? ⟨gb273, 2, none⟩ = some (.slice A2_2 l2_2.length c2_2) := (blk_cell BK273.out 2).trans rfl
        have hcz9_3 : w5.cell? ⟨gb273, 3, none⟩ = some (.slice A2_3 l2_3.length c2_3) := (blk_cell BK273.out 3).trans rfl
        have hcz9_4 : w5.cell? ⟨gb273, 4, none⟩ = some (.int .i64 a2_4) := (blk_cell BK273.out 4).trans rfl
        have hcz9_5 : w5.cell? ⟨gb273, 5, none⟩ = some (.string a2_5) := (blk_cell BK273.out 5).trans rfl
        have hcz9_6 : w5.cell? ⟨gb273, 6, none⟩ = some (.slice A2_6 l2_6.length c2_6) := (blk_cell BK273.out 6).trans rfl
        have hcz9_7 : w5.cell? ⟨gb273, 7, none⟩ = some (.slice A2_7 l2_7.length c2_7) := (blk_cell BK273.out 7).trans rfl
        have hcz9_8 : w5.cell? ⟨gb273, 8, none⟩ = some (.int .i64 a2_8) := (blk_cell BK273.out 8).trans rfl
        have hcz9_9 : w5.cell? ⟨gb273, 9, none⟩ = some (.string a2_9) := (blk_cell BK273.out 9).trans rfl
        have hcz9_10 : w5.cell? ⟨gb273, 10, none⟩ = some (.slice A2_10 l2_10.length c2_10) := (blk_cell BK273.out 10).trans rfl
        have hcz9_11 : w5.cell? ⟨gb273, 11, none⟩ = some (.slice A2_11 l2_11.length c2_11) := (blk_cell BK273.out 11).trans rfl
        have hcz9_12 : w5.cell? ⟨gb273, 12, none⟩ = some (.slice A2_12 l2_12.length c2_12) := (blk_cell BK273.out 12).trans rfl
        have hcz9_13 : w5.cell? ⟨gb273, 13, none⟩ = some (.slice A2_13 l2_13.length c2_13) := (blk_cell BK273.out 13).trans rfl
        have hcz9_14 : w5.cell? ⟨gb273, 14, none⟩ = some (.slice A2_14 l2_14.length c2_14) := (blk_cell BK273.out 14).trans rfl
        have hcz9_15 : w5.cell? ⟨gb273, 15, none⟩ = some (.int .i64 a2_15) := (blk_cell BK273.out 15).trans rfl
        have hfz9_0 := blk_frozen BK273.out 0
        have hfz9_1 := blk_frozen BK273.out 1
        have hfz9_2 := blk_frozen BK273.out 2
        have hfz9_3 := blk_frozen BK273.out 3
        have hfz9_4 := blk_frozen BK273.out 4
        have hfz9_5 := blk_frozen BK273.out 5
        have hfz9_6 := blk_frozen BK273.out 6
        have hfz9_7 := blk_frozen BK273.out 7
        have hfz9_8 := blk_frozen BK273.out 8
        have hfz9_9 := blk_frozen BK273.out 9
        have hfz9_10 := blk_frozen BK273.out 10
        have hfz9_11 := blk_frozen BK273.out 11
        have hfz9_12 := blk_frozen BK273.out 12
        have hfz9_13 := blk_frozen BK273.out 13
        have hfz9_14 := blk_frozen BK273.out 14
        have hfz9_15 := blk_frozen BK273.out 15
        go_wp2_with (first | (go_at_call 16; (with_reducible refine (treemergelaw31_few.calls k a2_0 a2_1 _ _ l2_2 _ _ l2_3 a2_4 a2_5 _ _ l2_6 _ _ l2_7 a2_8 a2_9 _ _ l2_10 _ _ l2_11 _ _ l2_12 _ _ l2_13 _ _ l2_14 a2_15 t274 _ ?side1 ?side2 ?side3 ?side4 ?side5 ?side6 ?side7 ?side8 ?side9 ?side10 ?side11 ?side12 ?side13 ?side14 ?side15 ?side16 ?side17 ?side18 A8.out).mono ?_); (case side1 => repeat (first | exact (Kd.C_below HR2_2.out HB.out) | (with_reducible refine Kd.C_alloc ?_ _) | (with_reducible refine Kd.C_drewN ?_ _) | (with_reducible refine Kd.C_drew ?_))); (case side2 => exact HC2_2.out); (case side3 => repeat (first | exact (Kd.C_below HR2_3.out HB.out) | (with_reducible refine Kd.C_alloc ?_ _) | (with_reducible refine Kd.C_drewN ?_ _) | (with_reducible refine Kd.C_drew ?_))); (case side4 => exact HC2_3.out); (case side5 => repeat (first | exact (Kd.C_below HR2_6.out HB.out) | (with_reducible refine Kd.C_alloc ?_ _) | (with_reducible refine Kd.C_drewN ?_ _) | (with_reducible refine Kd.C_drew ?_))); (case side6 => exact HC2_6.out); (case side7 => repeat (first | exact (Kd.C_below HR2_7.out HB.out) | (with_reducible refine Kd.C_alloc ?_ _) | (with_reducible refine Kd.C_drewN ?_ _) | (with_reducible refine Kd.C_drew ?_))); (case side8 => exact HC2_7.out); (case side9 => repeat (first | exact (Kd.C_below HR2_10.out HB.out) | (with_reducible refine Kd.C_alloc ?_ _) | (with_reducible refine Kd.C_drewN ?_ _) | (with_reducible refine Kd.C_drew ?_))); (case side10 => exact HC2_10.out); (case side11 => repeat (first | exact (Kd.C_below HR2_11.out HB.out) | (with_reducible refine Kd.C_alloc ?_ _) | (with_reducible refine Kd.C_drewN ?_ _) | (with_reducible refine Kd.C_drew ?_))); (case side12 => exact HC2_11.out); (case side13 => repeat (first | exact (Kd.C_below HR2_12.out HB.out) | (with_reducible refine Kd.C_alloc ?_ _) | (with_reducible refine Kd.C_drewN ?_ _) | (with_reducible refine Kd.C_drew ?_))); (case side14 => exact HC2_12.out); (case side15 => repeat (first | exact (Kd.C_below HR2_13.out HB.out) | (with_reducible refine Kd.C_alloc ?_ _) | (with_reducible refine Kd.C_drewN ?_ _) | (with_reducible refine Kd.C_drew ?_))); (case side16 => exact HC2_13.out); (case side17 => repeat (first | exact (Kd.C_below HR2_14.out HB.out) | (with_reducible refine Kd.C_alloc ?_ _) | (with_reducible refine Kd.C_drewN ?_ _) | (with_reducible refine Kd.C_drew ?_))); (case side18 => exact HC2_14.out); rintro e w10 ⟨rfl, hb⟩; have n0_ := Aside0.mk (blk_below (g := gb273) (o := .cells #[.int .i64 a2_0, .string a2_1, .slice A2_2 l2_2.length c2_2, .slice A2_3 l2_3.length c2_3, .int .i64 a2_4, .string a2_5, .slice A2_6 l2_6.length c2_6, .slice A2_7 l2_7.length c2_7, .int .i64 a2_8, .string a2_9, .slice A2_10 l2_10.length c2_10, .slice A2_11 l2_11.length c2_11, .slice A2_12 l2_12.length c2_12, .slice A2_13 l2_13.length c2_13, .slice A2_14 l2_14.length c2_14, .int .i64 a2_15] 42 (0, 0)) (by (with_reducible repeat (first | refine blk_drewN ?_ _ | refine blk_drew ?_ | refine blk_alloc ?_ _)); exact BK273.out) hb); have n1_ := Aside0.mk (below_step (by repeat (first | (with_reducible first | exact HB.out | apply below_alloc | apply pw_below_drewN | apply below_drew1 | refine below_set ?_ GE273.out) | exact HB.out)) hb); clear BK273; clear HB; have BK273 := n0_; have HB := n1_; clear n0_ n1_; (try clear hb); (try clear hb2); (try clear hk); (try clear hi)))
        go_meet
        case rel => exact ⟨_, (!t274), (by first | rfl | (simp; done) | (simp [*]; done)), H', ⟨by first | omega | exact Nat.le_refl _⟩, ⟨by (with_reducible repeat (first | refine blk_drewN ?_ _ | refine blk_drew ?_ | refine blk_alloc ?_ _)); exact BK273.out⟩, ⟨by repeat (first | (with_reducible first | exact HB.out | apply below_alloc | apply pw_below_drewN | apply below_drew1 | refine below_set ?_ GE273.out) | exact HB.out)⟩⟩
  case rest =>
    clear HC4
    try clear c1
    try clear c2
    try clear p2
    try clear c6
    try clear c6b0
    try clear c6b1
    try clear c7
    try clear c7b0
    try clear c7b1
    try clear hcz9_0
    try clear hcz9_1
    try clear hcz9_10
    try clear hcz9_11
    try clear hcz9_12
    try clear hcz9_13
    try clear hcz9_14
    try clear hcz9_15
    try clear hcz9_2
    try clear hcz9_3
    try clear hcz9_4
    try clear hcz9_5
    try clear hcz9_6
    try clear hcz9_7
    try clear hcz9_8
    try clear hcz9_9
    try clear hfz9_0
    try clear hfz9_1
    try clear hfz9_10
    try clear hfz9_11
    try clear hfz9_12
    try clear hfz9_13
    try clear hfz9_14
    try clear hfz9_15
    try clear hfz9_2
    try clear hfz9_3
    try clear hfz9_4
    try clear hfz9_5
    try clear hfz9_6
    try clear hfz9_7
    try clear hfz9_8
    try clear hfz9_9
    obtain ⟨kq, x26_3, rfl, HA, HJ3, BK273, HB⟩ := hcut
    cases kq with
    | zero => exact absurd HA.out (by simp [treemergelaw31_ChangeSides.j0])
    | succ kj3 =>
      have H := HA.out
      clear HA
      simp only [treemergelaw31_ChangeSides.j0] at H
      by_cases c11 : x26_3 = true
      · subst c11
        have H1 : ((treemergelaw31_awake.f).bind fun t275 => (some t275)) = some r := by rw [if_pos rfl] at H; exact H
        clear H
        have H := H1
        clear H1
        replace H := Option.bind_eq_some_iff.mp H
        obtain ⟨t275, A120, H⟩ := H
        replace H : (some t275) = some r := H
        have A12 := Aside0.mk A120
        clear A120
        obtain rfl := Option.some.inj H
        go_wp2_with (first | ((with_reducible refine gate_callee (f := 9) rfl ?_); refine goesL_ (some 27) rfl rfl Try.func9 (by kernel_rfl) rfl #[] rfl (by (try simp only [List.map_toArray, List.map_cons, List.map_nil]); first | done | rfl | (simp only [List.length_drop, List.length_take]; rfl)) ?_; (with_reducible refine (treemergelaw31_awake.calls  t275 _ A12.out).mono ?_); rintro e w13 ⟨rfl, hb⟩; refine ⟨_, rfl, ?_⟩; have n0_ := Aside0.mk (blk_below (g := gb273) (o := .cells #[.int .i64 a2_0, .string a2_1, .slice A2_2 l2_2.length c2_2, .slice A2_3 l2_3.length c2_3, .int .i64 a2_4, .string a2_5, .slice A2_6 l2_6.length c2_6, .slice A2_7 l2_7.length c2_7, .int .i64 a2_8, .string a2_9, .slice A2_10 l2_10.length c2_10, .slice A2_11 l2_11.length c2_11, .slice A2_12 l2_12.length c2_12, .slice A2_13 l2_13.length c2_13, .slice A2_14 l2_14.length c2_14, .int .i64 a2_15] 42 (0, 0)) (by (with_reducible repeat (first | refine blk_drewN ?_ _ | refine blk_drew ?_ | refine blk_alloc ?_ _)); exact BK273.out) hb); have n1_ := Aside0.mk (below_step (by repeat (first | (with_reducible first | exact HB.out | apply below_alloc | apply pw_below_drewN | apply below_drew1 | refine below_set ?_ GE273.out) | exact HB.out)) hb); clear BK273; clear HB; have BK273 := n0_; have HB := n1_; clear n0_ n1_; (try clear hb); (try clear hb2); (try clear hk); (try clear hi)))
        go_ret
        exact ⟨by first | rfl | (simp [errW_none, errW_some] <;> rfl) | (simp [*, errW_none, errW_some] <;> rfl), by repeat (first | (with_reducible first | exact HB.out | apply below_alloc | apply pw_below_drewN | apply below_drew1 | refine below_set ?_ GE273.out) | exact HB.out)⟩
      · replace c11 := Bool.eq_false_iff.mpr c11
        subst c11
        have H1 : ((change_Overlap.f l0 l1).bind fun t276 => ((change_Overlap.f l1 l0).bind fun t279 => ((treemergelaw31_same.f kj3 t276 t279).bind fun t282 => (if t282 = true then ((change_Independent.f a2_0 a2_1 l2_2 l2_3 a2_4 a2_5 l2_6 l2_7 a2_8 a2_9 l2_10 l2_11 l2_12 l2_13 l2_14 a2_15).bind fun bt283 => ((change_Independent.f a2_0 a2_1 l2_2 l2_3 a2_8 a2_9 l2_10 l2_11 a2_4 a2_5 l2_6 l2_7 l2_12 l2_14 l2_13 a2_15).bind fun bt286 => (if ((bt283.2 == 0) != (bt286.2 == 0)) = true then (treemergelaw31_ChangeSides.j1 kj3 true a2_0 a2_1 l2_2 l2_3 a2_4 a2_5 l2_6 l2_7 a2_8 a2_9 l2_10 l2_11 l2_12 l2_13 l2_14 a2_15) else (treemergelaw31_ChangeSides.j1 kj3 (bt283.1 != bt286.1) a2_0 a2_1 l2_2 l2_3 a2_4 a2_5 l2_6 l2_7 a2_8 a2_9 l2_10 l2_11 l2_12 l2_13 l2_14 a2_15)))) else (some false))))) = some r := by rw [if_neg (show ¬ (false = true) by decide)] at H; exact H
        clear H
        have H := H1
        clear H1
        replace H := Option.bind_eq_some_iff.mp H
        obtain ⟨t276, A140, H⟩ := H
        replace H : ((change_Overlap.f l1 l0).bind fun t279 => ((treemergelaw31_same.f kj3 t276 t279).bind fun t282 => (if t282 = true then ((change_Independent.f a2_0 a2_1 l2_2 l2_3 a2_4 a2_5 l2_6 l2_7 a2_8 a2_9 l2_10 l2_11 l2_12 l2_13 l2_14 a2_15).bind fun bt283 => ((change_Independent.f a2_0 a2_1 l2_2 l2_3 a2_8 a2_9 l2_10 l2_11 a2_4 a2_5 l2_6 l2_7 l2_12 l2_14 l2_13 a2_15).bind fun bt286 => (if ((bt283.2 == 0) != (bt286.2 == 0)) = true then (treemergelaw31_ChangeSides.j1 kj3 true a2_0 a2_1 l2_2 l2_3 a2_4 a2_5 l2_6 l2_7 a2_8 a2_9 l2_10 l2_11 l2_12 l2_13 l2_14 a2_15) else (treemergelaw31_ChangeSides.j1 kj3 (bt283.1 != bt286.1) a2_0 a2_1 l2_2 l2_3 a2_4 a2_5 l2_6 l2_7 a2_8 a2_9 l2_10 l2_11 l2_12 l2_13 l2_14 a2_15)))) else (some false)))) = some r := H
        have A14 := Aside0.mk A140
        clear A140
        replace H := Option.bind_eq_some_iff.mp H
        obtain ⟨t279, A150, H⟩ := H
        replace H : ((treemergelaw31_same.f kj3 t276 t279).bind fun t282 => (if t282 = true then ((change_Independent.f a2_0 a2_1 l2_2 l2_3 a2_4 a2_5 l2_6 l2_7 a2_8 a2_9 l2_10 l2_11 l2_12 l2_13 l2_14 a2_15).bind fun bt283 => ((change_Independent.f a2_0 a2_1 l2_2 l2_3 a2_8 a2_9 l2_10 l2_11 a2_4 a2_5 l2_6 l2_7 l2_12 l2_14 l2_13 a2_15).bind fun bt286 => (if ((bt283.2 == 0) != (bt286.2 == 0)) = true then (treemergelaw31_ChangeSides.j1 kj3 true a2_0 a2_1 l2_2 l2_3 a2_4 a2_5 l2_6 l2_7 a2_8 a2_9 l2_10 l2_11 l2_12 l2_13 l2_14 a2_15) else (treemergelaw31_ChangeSides.j1 kj3 (bt283.1 != bt286.1) a2_0 a2_1 l2_2 l2_3 a2_4 a2_5 l2_6 l2_7 a2_8 a2_9 l2_10 l2_11 l2_12 l2_13 l2_14 a2_15)))) else (some false))) = some r := H
        have A15 := Aside0.mk A150
        clear A150
        replace H := Option.bind_eq_some_iff.mp H
        obtain ⟨t282, A160, H⟩ := H
        replace H : (if t282 = true then ((change_Independent.f a2_0 a2_1 l2_2 l2_3 a2_4 a2_5 l2_6 l2_7 a2_8 a2_9 l2_10 l2_11 l2_12 l2_13 l2_14 a2_15).bind fun bt283 => ((change_Independent.f a2_0 a2_1 l2_2 l2_3 a2_8 a2_9 l2_10 l2_11 a2_4 a2_5 l2_6 l2_7 l2_12 l2_14 l2_13 a2_15).bind fun bt286 => (if ((bt283.2 == 0) != (bt286.2 == 0)) = true then (treemergelaw31_ChangeSides.j1 kj3 true a2_0 a2_1 l2_2 l2_3 a2_4 a2_5 l2_6 l2_7 a2_8 a2_9 l2_10 l2_11 l2_12 l2_13 l2_14 a2_15) else (treemergelaw31_ChangeSides.j1 kj3 (bt283.1 != bt286.1) a2_0 a2_1 l2_2 l2_3 a2_4 a2_5 l2_6 l2_7 a2_8 a2_9 l2_10 l2_11 l2_12 l2_13 l2_14 a2_15)))) else (some false)) = some r := H
        have A16 := Aside0.mk A160
        clear A160
        by_cases c17 : t282 = true
        · subst c17
          have H1 : ((change_Independent.f a2_0 a2_1 l2_2 l2_3 a2_4 a2_5 l2_6 l2_7 a2_8 a2_9 l2_10 l2_11 l2_12 l2_13 l2_14 a2_15).bind fun bt283 => ((change_Independent.f a2_0 a2_1 l2_2 l2_3 a2_8 a2_9 l2_10 l2_11 a2_4 a2_5 l2_6 l2_7 l2_12 l2_14 l2_13 a2_15).bind fun bt286 => (if ((bt283.2 == 0) != (bt286.2 == 0)) = true then (treemergelaw31_ChangeSides.j1 kj3 true a2_0 a2_1 l2_2 l2_3 a2_4 a2_5 l2_6 l2_7 a2_8 a2_9 l2_10 l2_11 l2_12 l2_13 l2_14 a2_15) else (treemergelaw31_ChangeSides.j1 kj3 (bt283.1 != bt286.1) a2_0 a2_1 l2_2 l2_3 a2_4 a2_5 l2_6 l2_7 a2_8 a2_9 l2_10 l2_11 l2_12 l2_13 l2_14 a2_15)))) = some r := by rw [if_pos rfl] at H; exact H
          clear H
          have H := H1
          clear H1
          replace H := Option.bind_eq_some_iff.mp H
          obtain ⟨⟨t283, t284⟩, A180, H⟩ := H
          replace H : ((change_Independent.f a2_0 a2_1 l2_2 l2_3 a2_8 a2_9 l2_10 l2_11 a2_4 a2_5 l2_6 l2_7 l2_12 l2_14 l2_13 a2_15).bind fun bt286 => (if ((t284 == 0) != (bt286.2 == 0)) = true then (treemergelaw31_ChangeSides.j1 kj3 true a2_0 a2_1 l2_2 l2_3 a2_4 a2_5 l2_6 l2_7 a2_8 a2_9 l2_10 l2_11 l2_12 l2_13 l2_14 a2_15) else (treemergelaw31_ChangeSides.j1 kj3 (t283 != bt286.1) a2_0 a2_1 l2_2 l2_3 a2_4 a2_5 l2_6 l2_7 a2_8 a2_9 l2_10 l2_11 l2_12 l2_13 l2_14 a2_15))) = some r := H
          have A18 := Aside0.mk A180
          clear A180
          replace H := Option.bind_eq_some_iff.mp H
          obtain ⟨⟨t286, t287⟩, A190, H⟩ := H
          replace H : (if ((t284 == 0) != (t287 == 0)) = true then (treemergelaw31_ChangeSides.j1 kj3 true a2_0 a2_1 l2_2 l2_3 a2_4 a2_5 l2_6 l2_7 a2_8 a2_9 l2_10 l2_11 l2_12 l2_13 l2_14 a2_15) else (treemergelaw31_ChangeSides.j1 kj3 (t283 != t286) a2_0 a2_1 l2_2 l2_3 a2_4 a2_5 l2_6 l2_7 a2_8 a2_9 l2_10 l2_11 l2_12 l2_13 l2_14 a2_15)) = some r := H
          have A19 := Aside0.mk A190
          clear A190
          have HC20 := Aside0.mk H
          clear H
          go_upto_region 8 with (first | ((with_reducible refine gate_callee (f := 14) rfl ?_); refine goesL_ (some 30) rfl rfl Try.func14 (by kernel_rfl) rfl #[.slice A0 l0.length c0, .slice A1 l1.length c1] rfl (by (try simp only [List.map_toArray, List.map_cons, List.map_nil]); first | done | rfl | (simp only [List.length_drop, List.length_take]; rfl)) ?_; (with_reducible refine (change_Overlap.calls _ _ l0 _ _ l1 t276 _ ?side1 ?side2 ?side3 ?side4 A14.out).mono ?_); (case side1 => repeat (first | exact (Kd.C_below HR0.out HB.out) | (with_reducible refine Kd.C_alloc ?_ _) | (with_reducible refine Kd.C_drewN ?_ _) | (with_reducible refine Kd.C_drew ?_))); (case side2 => exact HC0.out); (case side3 => repeat (first | exact (Kd.C_below HR1.out HB.out) | (with_reducible refine Kd.C_alloc ?_ _) | (with_reducible refine Kd.C_drewN ?_ _) | (with_reducible refine Kd.C_drew ?_))); (case side4 => exact HC1.out); rintro e w21 ⟨v277, rfl, ho0, hb⟩; refine ⟨_, rfl, ?_⟩; have n0_ := Aside0.mk (Kd.R_lower ho0 (below_size (by repeat (first | (with_reducible first | exact HB.out | apply below_alloc | apply pw_below_drewN | apply below_drew1 | refine below_set ?_ GE273.out) | exact HB.out)))); have n1_ := Aside0.mk (blk_below (g := gb273) (o := .cells #[.int .i64 a2_0, .string a2_1, .slice A2_2 l2_2.length c2_2, .slice A2_3 l2_3.length c2_3, .int .i64 a2_4, .string a2_5, .slice A2_6 l2_6.length c2_6, .slice A2_7 l2_7.length c2_7, .int .i64 a2_8, .string a2_9, .slice A2_10 l2_10.length c2_10, .slice A2_11 l2_11.length c2_11, .slice A2_12 l2_12.length c2_12, .slice A2_13 l2_13.length c2_13, .slice A2_14 l2_14.length c2_14, .int .i64 a2_15] 42 (0, 0)) (by (with_reducible repeat (first | refine blk_drewN ?_ _ | refine blk_drew ?_ | refine blk_alloc ?_ _)); exact BK273.out) hb); have n2_ := Aside0.mk (below_step (by repeat (first | (with_reducible first | exact HB.out | apply below_alloc | apply pw_below_drewN | apply below_drew1 | refine below_set ?_ GE273.out) | exact HB.out)) hb); clear BK273; clear HB; have HO278 := n0_; have BK273 := n1_; have HB := n2_; clear n0_ n1_ n2_; (try clear hb); (try clear hb2); (try clear hk); (try clear hi); (try clear ho0)) | ((with_reducible refine gate_callee (f := 14) rfl ?_); refine goesL_ (some 33) rfl rfl Try.func14 (by kernel_rfl) rfl #[.slice A1 l1.length c1, .slice A0 l0.length c0] rfl (by (try simp only [List.map_toArray, List.map_cons, List.map_nil]); first | done | rfl | (simp only [List.length_drop, List.length_take]; rfl)) ?_; (with_reducible refine (change_Overlap.calls _ _ l1 _ _ l0 t279 _ ?side1 ?side2 ?side3 ?side4 A15.out).mono ?_); (case side1 => repeat (first | exact (Kd.C_below HR1.out HB.out) | (with_reducible refine Kd.C_alloc ?_ _) | (with_reducible refine Kd.C_drewN ?_ _) | (with_reducible refine Kd.C_drew ?_))); (case side2 => exact HC1.out); (case side3 => repeat (first | exact (Kd.C_below HR0.out HB.out) | (with_reducible refine Kd.C_alloc ?_ _) | (with_reducible refine Kd.C_drewN ?_ _) | (with_reducible refine Kd.C_drew ?_))); (case side4 => exact HC0.out); rintro e w22 ⟨v280, rfl, ho0, hb⟩; refine ⟨_, rfl, ?_⟩; have n0_ := Aside0.mk (Kd.R_elder' (by (with_reducible repeat (first | apply Kd.R_alloc | apply Kd.R_drewN | apply Kd.R_drew)); exact HO278.out) (Kd.R_base ho0) hb); have n1_ := Aside0.mk (Kd.R_lower (Kd.R_new' ho0 (Kd.R_lt (by (with_reducible repeat (first | apply Kd.R_alloc | apply Kd.R_drewN | apply Kd.R_drew)); exact HO278.out))) (below_size (by repeat (first | (with_reducible first | exact HB.out | apply below_alloc | apply pw_below_drewN | apply below_drew1 | refine below_set ?_ GE273.out) | exact HB.out)))); have n2_ := Aside0.mk (blk_below (g := gb273) (o := .cells #[.int .i64 a2_0, .string a2_1, .slice A2_2 l2_2.length c2_2, .slice A2_3 l2_3.length c2_3, .int .i64 a2_4, .string a2_5, .slice A2_6 l2_6.length c2_6, .slice A2_7 l2_7.length c2_7, .int .i64 a2_8, .string a2_9, .slice A2_10 l2_10.length c2_10, .slice A2_11 l2_11.length c2_11, .slice A2_12 l2_12.length c2_12, .slice A2_13 l2_13.length c2_13, .slice A2_14 l2_14.length c2_14, .int .i64 a2_15] 42 (0, 0)) (by (with_reducible repeat (first | refine blk_drewN ?_ _ | refine blk_drew ?_ | refine blk_alloc ?_ _)); exact BK273.out) hb); have n3_ := Aside0.mk (below_step (by repeat (first | (with_reducible first | exact HB.out | apply below_alloc | apply pw_below_drewN | apply below_drew1 | refine below_set ?_ GE273.out) | exact HB.out)) hb); clear HO278; clear BK273; clear HB; have HO278 := n0_; have HO281 := n1_; have BK273 := n2_; have HB := n3_; clear n0_ n1_ n2_ n3_; (try clear hb); (try clear hb2); (try clear hk); (try clear hi); (try clear ho0); obtain ⟨Ao23, co23, eo23⟩ := Kd.R_slice HO278.out; subst eo23; obtain ⟨Ao24, co24, eo24⟩ := Kd.R_slice HO281.out; subst eo24) | ((with_reducible refine gate_callee (f := 13) rfl ?_); refine goesL_ (some 34) rfl rfl Try.func13 (by kernel_rfl) rfl #[.slice Ao23 t276.length co23, .slice Ao24 t279.length co24] rfl (by (try simp only [List.map_toArray, List.map_cons, List.map_nil]); first | done | rfl | (simp only [List.length_drop, List.length_take]; rfl)) ?_; (with_reducible refine (treemergelaw31_same.calls kj3 _ _ t276 _ _ t279 true _ ?side1 ?side2 ?side3 ?side4 A16.out).mono ?_); (case side1 => repeat (first | exact (Kd.R_reads' HO278.out).2.2 | (with_reducible refine Kd.C_alloc ?_ _) | (with_reducible refine Kd.C_drewN ?_ _) | (with_reducible refine Kd.C_drew ?_))); (case side2 => exact (Kd.R_reads' HO278.out).2.1); (case side3 => repeat (first | exact (Kd.R_reads' HO281.out).2.2 | (with_reducible refine Kd.C_alloc ?_ _) | (with_reducible refine Kd.C_drewN ?_ _) | (with_reducible refine Kd.C_drew ?_))); (case side4 => exact (Kd.R_reads' HO281.out).2.1); rintro e w' ⟨rfl, ⟨nd, rfl⟩⟩; refine ⟨_, rfl, ?_⟩; (try (rw [drewN_self w22]; generalize hq_ : World.drewN w22 _ = w22; have n0_ : Aside0 (Kd.R (Kd.int .i64) 3 w22 w.heap.size (fun k_ => some k_ ≠ (.slice Ao24 t279.length co24 : Value).ownBlock) (.slice Ao23 t276.length co23) t276) := ⟨by rw [← hq_]; exact (by (with_reducible repeat (first | apply Kd.R_alloc | apply Kd.R_drewN | apply Kd.R_drew)); exact Kd.R_mono HO278.out (fun _ hk => hk.2))⟩; have n1_ : Aside0 (Kd.R (Kd.int .i64) 3 w22 w.heap.size (fun k_ => some k_ ≠ (.slice Ao23 t276.length co23 : Value).ownBlock) (.slice Ao24 t279.length co24) t279) := ⟨by rw [← hq_]; exact (by (with_reducible repeat (first | apply Kd.R_alloc | apply Kd.R_drewN | apply Kd.R_drew)); exact Kd.R_mono HO281.out (fun _ hk => hk.2))⟩; have n2_ : Aside0 (w22.heap[gb273]? = some (.cells #[.int .i64 a2_0, .string a2_1, .slice A2_2 l2_2.length c2_2, .slice A2_3 l2_3.length c2_3, .int .i64 a2_4, .string a2_5, .slice A2_6 l2_6.length c2_6, .slice A2_7 l2_7.length c2_7, .int .i64 a2_8, .string a2_9, .slice A2_10 l2_10.length c2_10, .slice A2_11 l2_11.length c2_11, .slice A2_12 l2_12.length c2_12, .slice A2_13 l2_13.length c2_13, .slice A2_14 l2_14.length c2_14, .int .i64 a2_15] 42 (0, 0))) := ⟨by rw [← hq_]; exact (by (with_reducible repeat (first | refine blk_drewN ?_ _ | refine blk_drew ?_ | refine blk_alloc ?_ _)); exact BK273.out)⟩; have n3_ : Aside0 (Below w.heap.size w w22) := ⟨by rw [← hq_]; exact (by repeat (first | (with_reducible first | exact HB.out | apply below_alloc | apply pw_below_drewN | apply below_drew1 | refine below_set ?_ GE273.out) | exact HB.out))⟩; clear HO278 HO281 BK273 HB hq_; have HO278 := n0_; have HO281 := n1_; have BK273 := n2_; have HB := n3_; clear n0_ n1_ n2_ n3_)); have hcz25_0 : w22.cell? ⟨gb273, 0, none⟩ = some (.int .i64 a2_0) := (blk_cell BK273.out 0).trans rfl; have hcz25_1 : w22.cell? ⟨gb273, 1, none⟩ = some (.string a2_1) := (blk_cell BK273.out 1).trans rfl; have hcz25_2 : w22.cell? ⟨gb273, 2, none⟩ = some (.slice A2_2 l2_2.length c2_2) := (blk_cell BK273.out 2).trans rfl; have hcz25_3 : w22.cell? ⟨gb273, 3, none⟩ = some (.slice A2_3 l2_3.length c2_3) := (blk_cell BK273.out 3).trans rfl; have hcz25_4 : w22.cell? ⟨gb273, 4, none⟩ = some (.int .i64 a2_4) := (blk_cell BK273.out 4).trans rfl; have hcz25_5 : w22.cell? ⟨gb273, 5, none⟩ = some (.string a2_5) := (blk_cell BK273.out 5).trans rfl; have hcz25_6 : w22.cell? ⟨gb273, 6, none⟩ = some (.slice A2_6 l2_6.length c2_6) := (blk_cell BK273.out 6).trans rfl; have hcz25_7 : w22.cell? ⟨gb273, 7, none⟩ = some (.slice A2_7 l2_7.length c2_7) := (blk_cell BK273.out 7).trans rfl; have hcz25_8 : w22.cell? ⟨gb273, 8, none⟩ = some (.int .i64 a2_8) := (blk_cell BK273.out 8).trans rfl; have hcz25_9 : w22.cell? ⟨gb273, 9, none⟩ = some (.string a2_9) := (blk_cell BK273.out 9).trans rfl; have hcz25_10 : w22.cell? ⟨gb273, 10, none⟩ = some (.slice A2_10 l2_10.length c2_10) := (blk_cell BK273.out 10).trans rfl; have hcz25_11 : w22.cell? ⟨gb273, 11, none⟩ = some (.slice A2_11 l2_11.length c2_11) := (blk_cell BK273.out 11).trans rfl; have hcz25_12 : w22.cell? ⟨gb273, 12, none⟩ = some (.slice A2_12 l2_12.length c2_12) := (blk_cell BK273.out 12).trans rfl; have hcz25_13 : w22.cell? ⟨gb273, 13, none⟩ = some (.slice A2_13 l2_13.length c2_13) := (blk_cell BK273.out 13).trans rfl; have hcz25_14 : w22.cell? ⟨gb273, 14, none⟩ = some (.slice A2_14 l2_14.length c2_14) := (blk_cell BK273.out 14).trans rfl; have hcz25_15 : w22.cell? ⟨gb273, 15, none⟩ = some (.int .i64 a2_15) := (blk_cell BK273.out 15).trans rfl; have hfz25_0 := blk_frozen BK273.out 0; have hfz25_1 := blk_frozen BK273.out 1; have hfz25_2 := blk_frozen BK273.out 2; have hfz25_3 := blk_frozen BK273.out 3; have hfz25_4 := blk_frozen BK273.out 4; have hfz25_5 := blk_frozen BK273.out 5; have hfz25_6 := blk_frozen BK273.out 6; have hfz25_7 := blk_frozen BK273.out 7; have hfz25_8 := blk_frozen BK273.out 8; have hfz25_9 := blk_frozen BK273.out 9; have hfz25_10 := blk_frozen BK273.out 10; have hfz25_11 := blk_frozen BK273.out 11; have hfz25_12 := blk_frozen BK273.out 12; have hfz25_13 := blk_frozen BK273.out 13; have hfz25_14 := blk_frozen BK273.out 14; have hfz25_15 := blk_frozen BK273.out 15) | ((with_reducible refine gate_callee (f := 17) rfl ?_); refine goesL_ (some 45) rfl rfl Try.func17 (by kernel_rfl) rfl #[.agg #[.int .i64 a2_0, .string a2_1, .slice A2_2 l2_2.length c2_2, .slice A2_3 l2_3.length c2_3], .agg #[.int .i64 a2_4, .string a2_5, .slice A2_6 l2_6.length c2_6, .slice A2_7 l2_7.length c2_7], .agg #[.int .i64 a2_8, .string a2_9, .slice A2_10 l2_10.length c2_10, .slice A2_11 l2_11.length c2_11], .agg #[.slice A2_12 l2_12.length c2_12, .slice A2_13 l2_13.length c2_13, .slice A2_14 l2_14.length c2_14, .int .i64 a2_15]] rfl (by (try simp only [List.map_toArray, List.map_cons, List.map_nil]); first | done | rfl | (simp only [List.length_drop, List.length_take]; rfl)) ?_; (with_reducible refine (change_Independent.calls a2_0 a2_1 _ _ l2_2 _ _ l2_3 a2_4 a2_5 _ _ l2_6 _ _ l2_7 a2_8 a2_9 _ _ l2_10 _ _ l2_11 _ _ l2_12 _ _ l2_13 _ _ l2_14 a2_15 t283 t284 _ ?side1 ?side2 ?side3 ?side4 ?side5 ?side6 ?side7 ?side8 ?side9 ?side10 ?side11 ?side12 ?side13 ?side14 ?side15 ?side16 ?side17 ?side18 A18.out).mono ?_); (case side1 => repeat (first | exact (Kd.C_below HR2_2.out HB.out) | (with_reducible refine Kd.C_alloc ?_ _) | (with_reducible refine Kd.C_drewN ?_ _) | (with_reducible refine Kd.C_drew ?_))); (case side2 => exact HC2_2.out); (case side3 => repeat (first | exact (Kd.C_below HR2_3.out HB.out) | (with_reducible refine Kd.C_alloc ?_ _) | (with_reducible refine Kd.C_drewN ?_ _) | (with_reducible refine Kd.C_drew ?_))); (case side4 => exact HC2_3.out); (case side5 => repeat (first | exact (Kd.C_below HR2_6.out HB.out) | (with_reducible refine Kd.C_alloc ?_ _) | (with_reducible refine Kd.C_drewN ?_ _) | (with_reducible refine Kd.C_drew ?_))); (case side6 => exact HC2_6.out); (case side7 => repeat (first | exact (Kd.C_below HR2_7.out HB.out) | (with_reducible refine Kd.C_alloc ?_ _) | (with_reducible refine Kd.C_drewN ?_ _) | (with_reducible refine Kd.C_drew ?_))); (case side8 => exact HC2_7.out); (case side9 => repeat (first | exact (Kd.C_below HR2_10.out HB.out) | (with_reducible refine Kd.C_alloc ?_ _) | (with_reducible refine Kd.C_drewN ?_ _) | (with_reducible refine Kd.C_drew ?_))); (case side10 => exact HC2_10.out); (case side11 => repeat (first | exact (Kd.C_below HR2_11.out HB.out) | (with_reducible refine Kd.C_alloc ?_ _) | (with_reducible refine Kd.C_drewN ?_ _) | (with_reducible refine Kd.C_drew ?_))); (case side12 => exact HC2_11.out); (case side13 => repeat (first | exact (Kd.C_below HR2_12.out HB.out) | (with_reducible refine Kd.C_alloc ?_ _) | (with_reducible refine Kd.C_drewN ?_ _) | (with_reducible refine Kd.C_drew ?_))); (case side14 => exact HC2_12.out); (case side15 => repeat (first | exact (Kd.C_below HR2_13.out HB.out) | (with_reducible refine Kd.C_alloc ?_ _) | (with_reducible refine Kd.C_drewN ?_ _) | (with_reducible refine Kd.C_drew ?_))); (case side16 => exact HC2_13.out); (case side17 => repeat (first | exact (Kd.C_below HR2_14.out HB.out) | (with_reducible refine Kd.C_alloc ?_ _) | (with_reducible refine Kd.C_drewN ?_ _) | (with_reducible refine Kd.C_drew ?_))); (case side18 => exact HC2_14.out); rintro e w26 ⟨rfl, hb⟩; refine ⟨_, rfl, ?_⟩; have n0_ := Aside0.mk (Kd.R_below (by (with_reducible repeat (first | apply Kd.R_alloc | apply Kd.R_drewN | apply Kd.R_drew)); exact HO278.out) hb); have n1_ := Aside0.mk (Kd.R_below (by (with_reducible repeat (first | apply Kd.R_alloc | apply Kd.R_drewN | apply Kd.R_drew)); exact HO281.out) hb); have n2_ := Aside0.mk (blk_below (g := gb273) (o := .cells #[.int .i64 a2_0, .string a2_1, .slice A2_2 l2_2.length c2_2, .slice A2_3 l2_3.length c2_3, .int .i64 a2_4, .string a2_5, .slice A2_6 l2_6.length c2_6, .slice A2_7 l2_7.length c2_7, .int .i64 a2_8, .string a2_9, .slice A2_10 l2_10.length c2_10, .slice A2_11 l2_11.length c2_11, .slice A2_12 l2_12.length c2_12, .slice A2_13 l2_13.length c2_13, .slice A2_14 l2_14.length c2_14, .int .i64 a2_15] 42 (0, 0)) (by (with_reducible repeat (first | refine blk_drewN ?_ _ | refine blk_drew ?_ | refine blk_alloc ?_ _)); exact BK273.out) hb); have n3_ := Aside0.mk (below_step (by repeat (first | (with_reducible first | exact HB.out | apply below_alloc | apply pw_below_drewN | apply below_drew1 | refine below_set ?_ GE273.out) | exact HB.out)) hb); clear HO278; clear HO281; clear BK273; clear HB; have HO278 := n0_; have HO281 := n1_; have BK273 := n2_; have HB := n3_; clear n0_ n1_ n2_ n3_; (try clear hb); (try clear hb2); (try clear hk); (try clear hi); have hcz27_0 : w26.cell? ⟨gb273, 0, none⟩ = some (.int .i64 a2_0) := (blk_cell BK273.out 0).trans rfl; have hcz27_1 : w26.cell? ⟨gb273, 1, none⟩ = some (.string a2_1) := (blk_cell BK273.out 1).trans rfl; have hcz27_2 : w26.cell? ⟨gb273, 2, none⟩ = some (.slice A2_2 l2_2.length c2_2) := (blk_cell BK273.out 2).trans rfl; have hcz27_3 : w26.cell? ⟨gb273, 3, none⟩ = some (.slice A2_3 l2_3.length c2_3) := (blk_cell BK273.out 3).trans rfl; have hcz27_4 : w26.cell? ⟨gb273, 4, none⟩ = some (.int .i64 a2_4) := (blk_cell BK273.out 4).trans rfl; have hcz27_5 : w26.cell? ⟨gb273, 5, none⟩ = some (.string a2_5) := (blk_cell BK273.out 5).trans rfl; have hcz27_6 : w26.cell? ⟨gb273, 6, none⟩ = some (.slice A2_6 l2_6.length c2_6) := (blk_cell BK273.out 6).trans rfl; have hcz27_7 : w26.cell? ⟨gb273, 7, none⟩ = some (.slice A2_7 l2_7.length c2_7) := (blk_cell BK273.out 7).trans rfl; have hcz27_8 : w26.cell? ⟨gb273, 8, none⟩ = some (.int .i64 a2_8) := (blk_cell BK273.out 8).trans rfl; have hcz27_9 : w26.cell? ⟨gb273, 9, none⟩ = some (.string a2_9) := (blk_cell BK273.out 9).trans rfl; have hcz27_10 : w26.cell? ⟨gb273, 10, none⟩ = some (.slice A2_10 l2_10.length c2_10) := (blk_cell BK273.out 10).trans rfl; have hcz27_11 : w26.cell? ⟨gb273, 11, none⟩ = some (.slice A2_11 l2_11.length c2_11) := (blk_cell BK273.out 11).trans rfl; have hcz27_12 : w26.cell? ⟨gb273, 12, none⟩ = some (.slice A2_12 l2_12.length c2_12) := (blk_cell BK273.out 12).trans rfl; have hcz27_13 : w26.cell? ⟨gb273, 13, none⟩ = some (.slice A2_13 l2_13.length c2_13) := (blk_cell BK273.out 13).trans rfl; have hcz27_14 : w26.cell? ⟨gb273, 14, none⟩ = some (.slice A2_14 l2_14.length c2_14) := (blk_cell BK273.out 14).trans rfl; have hcz27_15 : w26.cell? ⟨gb273, 15, none⟩ = some (.int .i64 a2_15) := (blk_cell BK273.out 15).trans rfl; have hfz27_0 := blk_frozen BK273.out 0; have hfz27_1 := blk_frozen BK273.out 1; have hfz27_2 := blk_frozen BK273.out 2; have hfz27_3 := blk_frozen BK273.out 3; have hfz27_4 := blk_frozen BK273.out 4; have hfz27_5 := blk_frozen BK273.out 5; have hfz27_6 := blk_frozen BK273.out 6; have hfz27_7 := blk_frozen BK273.out 7; have hfz27_8 := blk_frozen BK273.out 8; have hfz27_9 := blk_frozen BK273.out 9; have hfz27_10 := blk_frozen BK273.out 10; have hfz27_11 := blk_frozen BK273.out 11; have hfz27_12 := blk_frozen BK273.out 12; have hfz27_13 := blk_frozen BK273.out 13; have hfz27_14 := blk_frozen BK273.out 14; have hfz27_15 := blk_frozen BK273.out 15) | ((with_reducible refine gate_dst (N := 9) rfl ?_); (try (refine gate_guard (by rfl) ?_; dsimp only)); refine box_event ?hg (N := 9) ?hd (cs := #[.slice none 0 0, .slice none 0 0, .slice none 0 0, .int .i64 0]) (t := 40) ?hr ?_; (case hd => rfl); (case hg => rfl); (case hr => first | (go_simp; done) | (go_simp; rfl) | (obtain ⟨_, _, rfl⟩ := Kd.R_slice (Aside0.out (by assumption : Aside0 (Kd.R _ _ _ _ _ _ _))); go_simp; done)); intro gb285 hg w28 hbox hb; have n0_ := Aside0.mk (Kd.R_below (by (with_reducible repeat (first | apply Kd.R_alloc | apply Kd.R_drewN | apply Kd.R_drew)); exact HO278.out) hb); have n1_ := Aside0.mk (Kd.R_below (by (with_reducible repeat (first | apply Kd.R_alloc | apply Kd.R_drewN | apply Kd.R_drew)); exact HO281.out) hb); have n2_ := Aside0.mk (blk_below (g := gb273) (o := .cells #[.int .i64 a2_0, .string a2_1, .slice A2_2 l2_2.length c2_2, .slice A2_3 l2_3.length c2_3, .int .i64 a2_4, .string a2_5, .slice A2_6 l2_6.length c2_6, .slice A2_7 l2_7.length c2_7, .int .i64 a2_8, .string a2_9, .slice A2_10 l2_10.length c2_10, .slice A2_11 l2_11.length c2_11, .slice A2_12 l2_12.length c2_12, .slice A2_13 l2_13.length c2_13, .slice A2_14 l2_14.length c2_14, .int .i64 a2_15] 42 (0, 0)) (by (with_reducible repeat (first | refine blk_drewN ?_ _ | refine blk_drew ?_ | refine blk_alloc ?_ _)); exact BK273.out) hb); have n3_ := Aside0.mk (below_step (by repeat (first | (with_reducible first | exact HB.out | apply below_alloc | apply pw_below_drewN | apply below_drew1 | refine below_set ?_ GE273.out) | exact HB.out)) hb); have n4_ := Aside0.mk (hbox); have n5_ := Aside0.mk ((by rw [hg]; exact (below_size (by repeat (first | (with_reducible first | exact HB.out | apply below_alloc | apply pw_below_drewN | apply below_drew1 | refine below_set ?_ GE273.out) | exact HB.out))) : w.heap.size ≤ gb285)); have n6_ := Aside0.mk ((by rw [hg]; exact (below_size (by repeat (first | (with_reducible first | exact HB.out | apply below_alloc | apply pw_below_drewN | apply below_drew1 | refine below_set ?_ GE273.out) | exact HB.out))) : w.heap.size ≤ gb285)); have n7_ := Aside0.mk ((by rw [hg]; exact Nat.ne_of_lt (blk_lt (g := gb273) (o := .cells #[.int .i64 a2_0, .string a2_1, .slice A2_2 l2_2.length c2_2, .slice A2_3 l2_3.length c2_3, .int .i64 a2_4, .string a2_5, .slice A2_6 l2_6.length c2_6, .slice A2_7 l2_7.length c2_7, .int .i64 a2_8, .string a2_9, .slice A2_10 l2_10.length c2_10, .slice A2_11 l2_11.length c2_11, .slice A2_12 l2_12.length c2_12, .slice A2_13 l2_13.length c2_13, .slice A2_14 l2_14.length c2_14, .int .i64 a2_15] 42 (0, 0)) (by (with_reducible repeat (first | refine blk_drewN ?_ _ | refine blk_drew ?_ | refine blk_alloc ?_ _)); exact BK273.out)) : gb273 ≠ gb285)); have n8_ := Aside0.mk ((by rw [hg]; exact Nat.ne_of_gt (blk_lt (g := gb273) (o := .cells #[.int .i64 a2_0, .string a2_1, .slice A2_2 l2_2.length c2_2, .slice A2_3 l2_3.length c2_3, .int .i64 a2_4, .string a2_5, .slice A2_6 l2_6.length c2_6, .slice A2_7 l2_7.length c2_7, .int .i64 a2_8, .string a2_9, .slice A2_10 l2_10.length c2_10, .slice A2_11 l2_11.length c2_11, .slice A2_12 l2_12.length c2_12, .slice A2_13 l2_13.length c2_13, .slice A2_14 l2_14.length c2_14, .int .i64 a2_15] 42 (0, 0)) (by (with_reducible repeat (first | refine blk_drewN ?_ _ | refine blk_drew ?_ | refine blk_alloc ?_ _)); exact BK273.out)) : gb285 ≠ gb273)); clear HO278; clear HO281; clear BK273; clear HB; have HO278 := n0_; have HO281 := n1_; have BK273 := n2_; have HB := n3_; have BK285 := n4_; have GW285 := n5_; have GE285 := n6_; have NB273_285 := n7_; have NB285_273 := n8_; clear n0_ n1_ n2_ n3_ n4_ n5_ n6_ n7_ n8_; clear hb hbox hg; have hnb29 := NB285_273.out; have hnc29 := NB273_285.out; have hcz30_0 : w28.cell? ⟨gb285, 0, none⟩ = some (.slice none 0 0) := (blk_cell BK285.out 0).trans rfl; have hcz30_1 : w28.cell? ⟨gb285, 1, none⟩ = some (.slice none 0 0) := (blk_cell BK285.out 1).trans rfl; have hcz30_2 : w28.cell? ⟨gb285, 2, none⟩ = some (.slice none 0 0) := (blk_cell BK285.out 2).trans rfl; have hcz30_3 : w28.cell? ⟨gb285, 3, none⟩ = some (.int .i64 0) := (blk_cell BK285.out 3).trans rfl; have hfz30_0 := blk_frozen BK285.out 0; have hfz30_1 := blk_frozen BK285.out 1; have hfz30_2 := blk_frozen BK285.out 2; have hfz30_3 := blk_frozen BK285.out 3; have hcz31_0 : w28.cell? ⟨gb273, 0, none⟩ = some (.int .i64 a2_0) := (blk_cell BK273.out 0).trans rfl; have hcz31_1 : w28.cell? ⟨gb273, 1, none⟩ = some (.string a2_1) := (blk_cell BK273.out 1).trans rfl; have hcz31_2 : w28.cell? ⟨gb273, 2, none⟩ = some (.slice A2_2 l2_2.length c2_2) := (blk_cell BK273.out 2).trans rfl; have hcz31_3 : w28.cell? ⟨gb273, 3, none⟩ = some (.slice A2_3 l2_3.length c2_3) := (blk_cell BK273.out 3).trans rfl; have hcz31_4 : w28.cell? ⟨gb273, 4, none⟩ = some (.int .i64 a2_4) := (blk_cell BK273.out 4).trans rfl; have hcz31_5 : w28.cell? ⟨gb273, 5, none⟩ = some (.string a2_5) := (blk_cell BK273.out 5).trans rfl; have hcz31_6 : w28.cell? ⟨gb273, 6, none⟩ = some (.slice A2_6 l2_6.length c2_6) := (blk_cell BK273.out 6).trans rfl; have hcz31_7 : w28.cell? ⟨gb273, 7, none⟩ = some (.slice A2_7 l2_7.length c2_7) := (blk_cell BK273.out 7).trans rfl; have hcz31_8 : w28.cell? ⟨gb273, 8, none⟩ = some (.int .i64 a2_8) := (blk_cell BK273.out 8).trans rfl; have hcz31_9 : w28.cell? ⟨gb273, 9, none⟩ = some (.string a2_9) := (blk_cell BK273.out 9).trans rfl; have hcz31_10 : w28.cell? ⟨gb273, 10, none⟩ = some (.slice A2_10 l2_10.length c2_10) := (blk_cell BK273.out 10).trans rfl; have hcz31_11 : w28.cell? ⟨gb273, 11, none⟩ = some (.slice A2_11 l2_11.length c2_11) := (blk_cell BK273.out 11).trans rfl; have hcz31_12 : w28.cell? ⟨gb273, 12, none⟩ = some (.slice A2_12 l2_12.length c2_12) := (blk_cell BK273.out 12).trans rfl; have hcz31_13 : w28.cell? ⟨gb273, 13, none⟩ = some (.slice A2_13 l2_13.length c2_13) := (blk_cell BK273.out 13).trans rfl; have hcz31_14 : w28.cell? ⟨gb273, 14, none⟩ = some (.slice A2_14 l2_14.length c2_14) := (blk_cell BK273.out 14).trans rfl; have hcz31_15 : w28.cell? ⟨gb273, 15, none⟩ = some (.int .i64 a2_15) := (blk_cell BK273.out 15).trans rfl; have hfz31_0 := blk_frozen BK273.out 0; have hfz31_1 := blk_frozen BK273.out 1; have hfz31_2 := blk_frozen BK273.out 2; have hfz31_3 := blk_frozen BK273.out 3; have hfz31_4 := blk_frozen BK273.out 4; have hfz31_5 := blk_frozen BK273.out 5; have hfz31_6 := blk_frozen BK273.out 6; have hfz31_7 := blk_frozen BK273.out 7; have hfz31_8 := blk_frozen BK273.out 8; have hfz31_9 := blk_frozen BK273.out 9; have hfz31_10 := blk_frozen BK273.out 10; have hfz31_11 := blk_frozen BK273.out 11; have hfz31_12 := blk_frozen BK273.out 12; have hfz31_13 := blk_frozen BK273.out 13; have hfz31_14 := blk_frozen BK273.out 14; have hfz31_15 := blk_frozen BK273.out 15) | ((with_reducible refine gate_callee (f := 17) rfl ?_); refine goesL_ (some 69) rfl rfl Try.func17 (by kernel_rfl) rfl #[.agg #[.int .i64 a2_0, .string a2_1, .slice A2_2 l2_2.length c2_2, .slice A2_3 l2_3.length c2_3], .agg #[.int .i64 a2_8, .string a2_9, .slice A2_10 l2_10.length c2_10, .slice A2_11 l2_11.length c2_11], .agg #[.int .i64 a2_4, .string a2_5, .slice A2_6 l2_6.length c2_6, .slice A2_7 l2_7.length c2_7], .agg #[.slice A2_12 l2_12.length c2_12, .slice A2_14 l2_14.length c2_14, .slice A2_13 l2_13.length c2_13, .int .i64 a2_15]] rfl (by (try simp only [List.map_toArray, List.map_cons, List.map_nil]); first | done | rfl | (simp only [List.length_drop, List.length_take]; rfl)) ?_; (with_reducible refine (change_Independent.calls a2_0 a2_1 _ _ l2_2 _ _ l2_3 a2_8 a2_9 _ _ l2_10 _ _ l2_11 a2_4 a2_5 _ _ l2_6 _ _ l2_7 _ _ l2_12 _ _ l2_14 _ _ l2_13 a2_15 t286 t287 _ ?side1 ?side2 ?side3 ?side4 ?side5 ?side6 ?side7 ?side8 ?side9 ?side10 ?side11 ?side12 ?side13 ?side14 ?side15 ?side16 ?side17 ?side18 A19.out).mono ?_); (case side1 => exact Kd.C_below HR2_2.out (by repeat (first | (with_reducible first | exact HB.out | apply below_alloc | apply pw_below_drewN | apply below_drew1 | refine below_set ?_ GE273.out | refine below_set ?_ GE285.out) | exact HB.out))); (case side2 => exact HC2_2.out); (case side3 => exact Kd.C_below HR2_3.out (by repeat (first | (with_reducible first | exact HB.out | apply below_alloc | apply pw_below_drewN | apply below_drew1 | refine below_set ?_ GE273.out | refine below_set ?_ GE285.out) | exact HB.out))); (case side4 => exact HC2_3.out); (case side5 => exact Kd.C_below HR2_10.out (by repeat (first | (with_reducible first | exact HB.out | apply below_alloc | apply pw_below_drewN | apply below_drew1 | refine below_set ?_ GE273.out | refine below_set ?_ GE285.out) | exact HB.out))); (case side6 => exact HC2_10.out); (case side7 => exact Kd.C_below HR2_11.out (by repeat (first | (with_reducible first | exact HB.out | apply below_alloc | apply pw_below_drewN | apply below_drew1 | refine below_set ?_ GE273.out | refine below_set ?_ GE285.out) | exact HB.out))); (case side8 => exact HC2_11.out); (case side9 => exact Kd.C_below HR2_6.out (by repeat (first | (with_reducible first | exact HB.out | apply below_alloc | apply pw_below_drewN | apply below_drew1 | refine below_set ?_ GE273.out | refine below_set ?_ GE285.out) | exact HB.out))); (case side10 => exact HC2_6.out); (case side11 => exact Kd.C_below HR2_7.out (by repeat (first | (with_reducible first | exact HB.out | apply below_alloc | apply pw_below_drewN | apply below_drew1 | refine below_set ?_ GE273.out | refine below_set ?_ GE285.out) | exact HB.out))); (case side12 => exact HC2_7.out); (case side13 => exact Kd.C_below HR2_12.out (by repeat (first | (with_reducible first | exact HB.out | apply below_alloc | apply pw_below_drewN | apply below_drew1 | refine below_set ?_ GE273.out | refine below_set ?_ GE285.out) | exact HB.out))); (case side14 => exact HC2_12.out); (case side15 => exact Kd.C_below HR2_14.out (by repeat (first | (with_reducible first | exact HB.out | apply below_alloc | apply pw_below_drewN | apply below_drew1 | refine below_set ?_ GE273.out | refine below_set ?_ GE285.out) | exact HB.out))); (case side16 => exact HC2_14.out); (case side17 => exact Kd.C_below HR2_13.out (by repeat (first | (with_reducible first | exact HB.out | apply below_alloc | apply pw_below_drewN | apply below_drew1 | refine below_set ?_ GE273.out | refine below_set ?_ GE285.out) | exact HB.out))); (case side18 => exact HC2_13.out); rintro e w32 ⟨rfl, hb⟩; refine ⟨_, rfl, ?_⟩; have n0_ := Aside0.mk (Kd.R_below (by (with_reducible repeat (first | apply Kd.R_alloc | apply Kd.R_drewN | apply Kd.R_drew)); exact (Kd.R_mono (Kd.R_far (p := ⟨gb285, 3, none⟩) (Kd.R_far (p := ⟨gb285, 2, none⟩) (Kd.R_far (p := ⟨gb285, 1, none⟩) (Kd.R_far (p := ⟨gb285, 0, none⟩) (Kd.R_types HO278.out BK285.out (by decide)) (fun _ hk => hk.2) (.slice A2_12 l2_12.length c2_12)) (fun _ hk => hk.2) (.slice A2_14 l2_14.length c2_14)) (fun _ hk => hk.2) (.slice A2_13 l2_13.length c2_13)) (fun _ hk => hk.2) (.int .i64 a2_15)) (fun _ h_ => h_.1))) hb); have n1_ := Aside0.mk (Kd.R_below (by (with_reducible repeat (first | apply Kd.R_alloc | apply Kd.R_drewN | apply Kd.R_drew)); exact (Kd.R_mono (Kd.R_far (p := ⟨gb285, 3, none⟩) (Kd.R_far (p := ⟨gb285, 2, none⟩) (Kd.R_far (p := ⟨gb285, 1, none⟩) (Kd.R_far (p := ⟨gb285, 0, none⟩) (Kd.R_types HO281.out BK285.out (by decide)) (fun _ hk => hk.2) (.slice A2_12 l2_12.length c2_12)) (fun _ hk => hk.2) (.slice A2_14 l2_14.length c2_14)) (fun _ hk => hk.2) (.slice A2_13 l2_13.length c2_13)) (fun _ hk => hk.2) (.int .i64 a2_15)) (fun _ h_ => h_.1))) hb); have n2_ := Aside0.mk (blk_below (g := gb273) (o := .cells #[.int .i64 a2_0, .string a2_1, .slice A2_2 l2_2.length c2_2, .slice A2_3 l2_3.length c2_3, .int .i64 a2_4, .string a2_5, .slice A2_6 l2_6.length c2_6, .slice A2_7 l2_7.length c2_7, .int .i64 a2_8, .string a2_9, .slice A2_10 l2_10.length c2_10, .slice A2_11 l2_11.length c2_11, .slice A2_12 l2_12.length c2_12, .slice A2_13 l2_13.length c2_13, .slice A2_14 l2_14.length c2_14, .int .i64 a2_15] 42 (0, 0)) (by (with_reducible repeat (first | refine blk_drewN ?_ _ | refine blk_drew ?_ | refine blk_alloc ?_ _)); refine blk_far ?_ NB273_285.out _; (with_reducible repeat (first | refine blk_drewN ?_ _ | refine blk_drew ?_ | refine blk_alloc ?_ _)); refine blk_far ?_ NB273_285.out _; (with_reducible repeat (first | refine blk_drewN ?_ _ | refine blk_drew ?_ | refine blk_alloc ?_ _)); refine blk_far ?_ NB273_285.out _; (with_reducible repeat (first | refine blk_drewN ?_ _ | refine blk_drew ?_ | refine blk_alloc ?_ _)); refine blk_far ?_ NB273_285.out _; (with_reducible repeat (first | refine blk_drewN ?_ _ | refine blk_drew ?_ | refine blk_alloc ?_ _)); exact BK273.out) hb); have n3_ := Aside0.mk (blk_below (g := gb285) (o := .cells #[.slice A2_12 l2_12.length c2_12, .slice A2_14 l2_14.length c2_14, .slice A2_13 l2_13.length c2_13, .int .i64 a2_15] 40 (0, 0)) (by (with_reducible repeat (first | refine blk_drewN ?_ _ | refine blk_drew ?_ | refine blk_alloc ?_ _)); refine blk_put (cs := #[.slice A2_12 l2_12.length c2_12, .slice A2_14 l2_14.length c2_14, .slice A2_13 l2_13.length c2_13, .int .i64 0]) ?_ 3 _ rfl; (with_reducible repeat (first | refine blk_drewN ?_ _ | refine blk_drew ?_ | refine blk_alloc ?_ _)); refine blk_put (cs := #[.slice A2_12 l2_12.length c2_12, .slice A2_14 l2_14.length c2_14, .slice none 0 0, .int .i64 0]) ?_ 2 _ rfl; (with_reducible repeat (first | refine blk_drewN ?_ _ | refine blk_drew ?_ | refine blk_alloc ?_ _)); refine blk_put (cs := #[.slice A2_12 l2_12.length c2_12, .slice none 0 0, .slice none 0 0, .int .i64 0]) ?_ 1 _ rfl; (with_reducible repeat (first | refine blk_drewN ?_ _ | refine blk_drew ?_ | refine blk_alloc ?_ _)); refine blk_put (cs := #[.slice none 0 0, .slice none 0 0, .slice none 0 0, .int .i64 0]) ?_ 0 _ rfl; (with_reducible repeat (first | refine blk_drewN ?_ _ | refine blk_drew ?_ | refine blk_alloc ?_ _)); exact BK285.out) hb); have n4_ := Aside0.mk (below_step (by repeat (first | (with_reducible first | exact HB.out | apply below_alloc | apply pw_below_drewN | apply below_drew1 | refine below_set ?_ GE273.out | refine below_set ?_ GE285.out) | exact HB.out)) hb); clear HO278; clear HO281; clear BK273; clear BK285; clear HB; have HO278 := n0_; have HO281 := n1_; have BK273 := n2_; have BK285 := n3_; have HB := n4_; clear n0_ n1_ n2_ n3_ n4_; (try clear hb); (try clear hb2); (try clear hk); (try clear hi)))
          (try simp only [Act.put, List.setIfInBounds_toArray, List.set_cons_zero, List.set_cons_succ])
          go_cut [81] (fun v81 wc => ∃ (kq : Nat) (x81_19 : Bool), v81 = .bool x81_19 ∧ Aside0 (treemergelaw31_ChangeSides.j1 kq x81_19 a2_0 a2_1 l2_2 l2_3 a2_4 a2_5 l2_6 l2_7 a2_8 a2_9 l2_10 l2_11 l2_12 l2_13 l2_14 a2_15 = some r) ∧ Aside0 (kq ≤ kj3) ∧ Aside0 (wc.heap[gb273]? = some (.cells #[.int .i64 a2_0, .string a2_1, (.slice A2_2 l2_2.length c2_2), (.slice A2_3 l2_3.length c2_3), .int .i64 a2_4, .string a2_5, (.slice A2_6 l2_6.length c2_6), (.slice A2_7 l2_7.length c2_7), .int .i64 a2_8, .string a2_9, (.slice A2_10 l2_10.length c2_10), (.slice A2_11 l2_11.length c2_11), (.slice A2_12 l2_12.length c2_12), (.slice A2_13 l2_13.length c2_13), (.slice A2_14 l2_14.length c2_14), .int .i64 a2_15] 42 (0, 0))) ∧ Aside0 (wc.heap[gb285]? = some (.cells #[(.slice A2_12 l2_12.length c2_12), (.slice A2_14 l2_14.length c2_14), (.slice A2_13 l2_13.length c2_13), .int .i64 a2_15] 40 (0, 0))) ∧ Aside0 (Below w.heap.size w wc))
          case first =>
            have H := HC20.out
            clear HC20
            by_cases c33 : ((t284 == 0) != (t287 == 0)) = true
            · rw [if_pos c33] at H
              have c33b0 : ((t284 == 0) != (t287 == 0)) = true := c33
              (try (have c33b1 : decide ((t284 == 0) = (t287 == 0)) = false := by simpa using c33))
              (try (have c33b2 : ((t284 == 0) == (t287 == 0)) = false := by simpa using c33))
              (try (have c33b3 : ¬ ((t284 == 0) = (t287 == 0)) := by simpa using c33))
              clear c33
              (first | rw [c33b0] | (simp only [i64_w, i32_w]; rw [c33b0]) | skip)
              have H' := Aside0.mk H
              clear H
              go_wp2
              go_meet
              case rel => exact ⟨_, (true), (by first | rfl | (simp; done) | (simp [*]; done)), H', ⟨by have := HJ3.out; first | omega | exact Nat.le_refl _⟩, ⟨by (with_reducible repeat (first | refine blk_drewN ?_ _ | refine blk_drew ?_ | refine blk_alloc ?_ _)); exact BK273.out⟩, ⟨by (with_reducible repeat (first | refine blk_drewN ?_ _ | refine blk_drew ?_ | refine blk_alloc ?_ _)); exact BK285.out⟩, ⟨by repeat (first | (with_reducible first | exact HB.out | apply below_alloc | apply pw_below_drewN | apply below_drew1 | refine below_set ?_ GE273.out | refine below_set ?_ GE285.out) | exact HB.out)⟩⟩
            · rw [if_neg c33] at H
              have c33b0 : ((t284 == 0) != (t287 == 0)) = false := by simpa using c33
              (try (have c33b1 : decide ((t284 == 0) = (t287 == 0)) = true := by simpa using c33))
              (try (have c33b2 : ((t284 == 0) == (t287 == 0)) = true := by simpa using c33))
              clear c33
              (first | rw [c33b0] | (simp only [i64_w, i32_w]; rw [c33b0]) | skip)
              have H' := Aside0.mk H
              clear H
              go_wp2
              go_meet
              case rel => exact ⟨_, ((t283 != t286)), (by first | rfl | (simp; done) | (simp [*]; done)), H', ⟨by have := HJ3.out; first | omega | exact Nat.le_refl _⟩, ⟨by (with_reducible repeat (first | refine blk_drewN ?_ _ | refine blk_drew ?_ | refine blk_alloc ?_ _)); exact BK273.out⟩, ⟨by (with_reducible repeat (first | refine blk_drewN ?_ _ | refine blk_drew ?_ | refine blk_alloc ?_ _)); exact BK285.out⟩, ⟨by repeat (first | (with_reducible first | exact HB.out | apply below_alloc | apply pw_below_drewN | apply below_drew1 | refine below_set ?_ GE273.out | refine below_set ?_ GE285.out) | exact HB.out)⟩⟩
          case rest =>
            clear HC20
            try clear c1
            try clear c2
            try clear p2
            try clear c3
            try clear c6
            try clear c6b0
            try clear c6b1
            try clear c7
            try clear c7b0
            try clear c7b1
            try clear c9
            try clear c11
            try clear c13
            try clear c14
            try clear c17
            try clear c29
            try clear c33
            try clear c33b0
            try clear c33b1
            try clear c33b2
            try clear hcz25_0
            try clear hcz25_1
            try clear hcz25_10
            try clear hcz25_11
            try clear hcz25_12
            try clear hcz25_13
            try clear hcz25_14
            try clear hcz25_15
            try clear hcz25_2
            try clear hcz25_3
            try clear hcz25_4
            try clear hcz25_5
            try clear hcz25_6
            try clear hcz25_7
            try clear hcz25_8
            try clear hcz25_9
            try clear hcz27_0
            try clear hcz27_1
            try clear hcz27_10
            try clear hcz27_11
            try clear hcz27_12
            try clear hcz27_13
            try clear hcz27_14
            try clear hcz27_15
            try clear hcz27_2
            try clear hcz27_3
            try clear hcz27_4
            try clear hcz27_5
            try clear hcz27_6
            try clear hcz27_7
            try clear hcz27_8
            try clear hcz27_9
            try clear hcz30_0
            try clear hcz30_1
            try clear hcz30_2
            try clear hcz30_3
            try clear hcz31_0
            try clear hcz31_1
            try clear hcz31_10
            try clear hcz31_11
            try clear hcz31_12
            try clear hcz31_13
            try clear hcz31_14
            try clear hcz31_15
            try clear hcz31_2
            try clear hcz31_3
            try clear hcz31_4
            try clear hcz31_5
            try clear hcz31_6
            try clear hcz31_7
            try clear hcz31_8
            try clear hcz31_9
            try clear hcz9_0
            try clear hcz9_1
            try clear hcz9_10
            try clear hcz9_11
            try clear hcz9_12
            try clear hcz9_13
            try clear hcz9_14
            try clear hcz9_15
            try clear hcz9_2
            try clear hcz9_3
            try clear hcz9_4
            try clear hcz9_5
            try clear hcz9_6
            try clear hcz9_7
            try clear hcz9_8
            try clear hcz9_9
            try clear hfz25_0
            try clear hfz25_1
            try clear hfz25_10
            try clear hfz25_11
            try clear hfz25_12
            try clear hfz25_13
            try clear hfz25_14
            try clear hfz25_15
            try clear hfz25_2
            try clear hfz25_3
            try clear hfz25_4
            try clear hfz25_5
            try clear hfz25_6
            try clear hfz25_7
            try clear hfz25_8
            try clear hfz25_9
            try clear hfz27_0
            try clear hfz27_1
            try clear hfz27_10
            try clear hfz27_11
            try clear hfz27_12
            try clear hfz27_13
            try clear hfz27_14
            try clear hfz27_15
            try clear hfz27_2
            try clear hfz27_3
            try clear hfz27_4
            try clear hfz27_5
            try clear hfz27_6
            try clear hfz27_7
            try clear hfz27_8
            try clear hfz27_9
            try clear hfz30_0
            try clear hfz30_1
            try clear hfz30_2
            try clear hfz30_3
            try clear hfz31_0
            try clear hfz31_1
            try clear hfz31_10
            try clear hfz31_11
            try clear hfz31_12
            try clear hfz31_13
            try clear hfz31_14
            try clear hfz31_15
            try clear hfz31_2
            try clear hfz31_3
            try clear hfz31_4
            try clear hfz31_5
            try clear hfz31_6
            try clear hfz31_7
            try clear hfz31_8
            try clear hfz31_9
            try clear hfz9_0
            try clear hfz9_1
            try clear hfz9_10
            try clear hfz9_11
            try clear hfz9_12
            try clear hfz9_13
            try clear hfz9_14
            try clear hfz9_15
            try clear hfz9_2
            try clear hfz9_3
            try clear hfz9_4
            try clear hfz9_5
            try clear hfz9_6
            try clear hfz9_7
            try clear hfz9_8
            try clear hfz9_9
            try clear p2
            obtain ⟨kq, x81_19, rfl, HA, HJ19, BK273, BK285, HB⟩ := hcut
            cases kq with
            | zero => exact absurd HA.out (by simp [treemergelaw31_ChangeSides.j1])
            | succ kj19 =>
              have H := HA.out
              clear HA
              simp only [treemergelaw31_ChangeSides.j1] at H
              by_cases c34 : x81_19 = true
              · subst c34
                have H1 : (some false) = some r := by rw [if_pos rfl] at H; exact H
                clear H
                have H := H1
                clear H1
                obtain rfl := Option.some.inj H
                go_wp2
                go_ret
                exact ⟨by first | rfl | (simp [errW_none, errW_some] <;> rfl) | (simp [*, errW_none, errW_some] <;> rfl), by repeat (first | (with_reducible first | exact HB.out | apply below_alloc | apply pw_below_drewN | apply below_drew1 | refine below_set ?_ GE273.out | refine below_set ?_ GE285.out) | exact HB.out)⟩
              · replace c34 := Bool.eq_false_iff.mpr c34
                subst c34
                have H1 : ((change_Independent.f a2_0 a2_1 l2_2 l2_3 a2_0 a2_1 l2_2 l2_3 a2_8 a2_9 l2_10 l2_11 l2_12 l2_12 l2_14 a2_15).bind fun bt288 => (if bt288.2 = 0 then (if bt288.1 = true then ((treemergelaw31_awake.f).bind fun t290 => (some t290)) else (some false)) else ((treemergelaw31_awake.f).bind fun t291 => (some t291)))) = some r := by rw [if_neg (show ¬ (false = true) by decide)] at H; exact H
                clear H
                have H := H1
                clear H1
                replace H := Option.bind_eq_some_iff.mp H
                obtain ⟨⟨t288, t289⟩, A350, H⟩ := H
                replace H : (if t289 = 0 then (if t288 = true then ((treemergelaw31_awake.f).bind fun t290 => (some t290)) else (some false)) else ((treemergelaw31_awake.f).bind fun t291 => (some t291))) = some r := H
                have A35 := Aside0.mk A350
                clear A350
                by_cases c36 : t289 = 0
                · rw [if_pos c36] at H
                  have c36b0 : (t289 == 0) = true := beq_iff_eq.mpr c36
                  have c36b1 : (t289 != 0) = false := bne_eq_false_iff_eq.mpr c36
                  clear c36
                  by_cases c37 : t288 = true
                  · subst c37
                    have H1 : ((treemergelaw31_awake.f).bind fun t290 => (some t290)) = some r := by rw [if_pos rfl] at H; exact H
                    clear H
                    have H := H1
                    clear H1
                    replace H := Option.bind_eq_some_iff.mp H
                    obtain ⟨t290, A380, H⟩ := H
                    replace H : (some t290) = some r := H
                    have A38 := Aside0.mk A380
                    clear A380
                    obtain rfl := Option.some.inj H
                    have hnb39 := NB273_285.out
                    have hnc39 := NB285_273.out
                    have hcz40_0 : wc.cell? ⟨gb273, 0, none⟩ = some (.int .i64 a2_0) := (blk_cell BK273.out 0).trans rfl
                    have hcz40_1 : wc.cell? ⟨gb273, 1, none⟩ = some (.string a2_1) := (blk_cell BK273.out 1).trans rfl
                    have hcz40_2 : wc.cell? ⟨gb273, 2, none⟩ = some (.slice A2_2 l2_2.length c2_2) := (blk_cell BK273.out 2).trans rfl
                    have hcz40_3 : wc.cell? ⟨gb273, 3, none⟩ = some (.slice A2_3 l2_3.length c2_3) := (blk_cell BK273.out 3).trans rfl
                    have hcz40_4 : wc.cell? ⟨gb273, 4, none⟩ = some (.int .i64 a2_4) := (blk_cell BK273.out 4).trans rfl
                    have hcz40_5 : wc.cell? ⟨gb273, 5, none⟩ = some (.string a2_5) := (blk_cell BK273.out 5).trans rfl
                    have hcz40_6 : wc.cell? ⟨gb273, 6, none⟩ = some (.slice A2_6 l2_6.length c2_6) := (blk_cell BK273.out 6).trans rfl
                    have hcz40_7 : wc.cell? ⟨gb273, 7, none⟩ = some (.slice A2_7 l2_7.length c2_7) := (blk_cell BK273.out 7).trans rfl
                    have hcz40_8 : wc.cell? ⟨gb273, 8, none⟩ = some (.int .i64 a2_8) := (blk_cell BK273.out 8).trans rfl
                    have hcz40_9 : wc.cell? ⟨gb273, 9, none⟩ = some (.string a2_9) := (blk_cell BK273.out 9).trans rfl
                    have hcz40_10 : wc.cell? ⟨gb273, 10, none⟩ = some (.slice A2_10 l2_10.length c2_10) := (blk_cell BK273.out 10).trans rfl
                    have hcz40_11 : wc.cell? ⟨gb273, 11, none⟩ = some (.slice A2_11 l2_11.length c2_11) := (blk_cell BK273.out 11).trans rfl
                    have hcz40_12 : wc.cell? ⟨gb273, 12, none⟩ = some (.slice A2_12 l2_12.length c2_12) := (blk_cell BK273.out 12).trans rfl
                    have hcz40_13 : wc.cell? ⟨gb273, 13, none⟩ = some (.slice A2_13 l2_13.length c2_13) := (blk_cell BK273.out 13).trans rfl
                    have hcz40_14 : wc.cell? ⟨gb273, 14, none⟩ = some (.slice A2_14 l2_14.length c2_14) := (blk_cell BK273.out 14).trans rfl
                    have hcz40_15 : wc.cell? ⟨gb273, 15, none⟩ = some (.int .i64 a2_15) := (blk_cell BK273.out 15).trans rfl
                    have hfz40_0 := blk_frozen BK273.out 0
                    have hfz40_1 := blk_frozen BK273.out 1
                    have hfz40_2 := blk_frozen BK273.out 2
                    have hfz40_3 := blk_frozen BK273.out 3
                    have hfz40_4 := blk_frozen BK273.out 4
                    have hfz40_5 := blk_frozen BK273.out 5
                    have hfz40_6 := blk_frozen BK273.out 6
                    have hfz40_7 := blk_frozen BK273.out 7
                    have hfz40_8 := blk_frozen BK273.out 8
                    have hfz40_9 := blk_frozen BK273.out 9
                    have hfz40_10 := blk_frozen BK273.out 10
                    have hfz40_11 := blk_frozen BK273.out 11
                    have hfz40_12 := blk_frozen BK273.out 12
                    have hfz40_13 := blk_frozen BK273.out 13
                    have hfz40_14 := blk_frozen BK273.out 14
                    have hfz40_15 := blk_frozen BK273.out 15
                    have hcz41_0 : wc.cell? ⟨gb285, 0, none⟩ = some (.slice A2_12 l2_12.length c2_12) := (blk_cell BK285.out 0).trans rfl
                    have hcz41_1 : wc.cell? ⟨gb285, 1, none⟩ = some (.slice A2_14 l2_14.length c2_14) := (blk_cell BK285.out 1).trans rfl
                    have hcz41_2 : wc.cell? ⟨gb285, 2, none⟩ = some (.slice A2_13 l2_13.length c2_13) := (blk_cell BK285.out 2).trans rfl
                    have hcz41_3 : wc.cell? ⟨gb285, 3, none⟩ = some (.int .i64 a2_15) := (blk_cell BK285.out 3).trans rfl
                    have hfz41_0 := blk_frozen BK285.out 0
                    have hfz41_1 := blk_frozen BK285.out 1
                    have hfz41_2 := blk_frozen BK285.out 2
                    have hfz41_3 := blk_frozen BK285.out 3
                    go_wp2_with (first | ((with_reducible refine gate_callee (f := 17) rfl ?_); refine goesL_ (some 103) rfl rfl Try.func17 (by kernel_rfl) rfl #[.agg #[.int .i64 a2_0, .string a2_1, .slice A2_2 l2_2.length c2_2, .slice A2_3 l2_3.length c2_3], .agg #[.int .i64 a2_0, .string a2_1, .slice A2_2 l2_2.length c2_2, .slice A2_3 l2_3.length c2_3], .agg #[.int .i64 a2_8, .string a2_9, .slice A2_10 l2_10.length c2_10, .slice A2_11 l2_11.length c2_11], .agg #[.slice A2_12 l2_12.length c2_12, .slice A2_12 l2_12.length c2_12, .slice A2_14 l2_14.length c2_14, .int .i64 a2_15]] rfl (by (try simp only [List.map_toArray, List.map_cons, List.map_nil]); first | done | rfl | (simp only [List.length_drop, List.length_take]; rfl)) ?_; (with_reducible refine (change_Independent.calls a2_0 a2_1 _ _ l2_2 _ _ l2_3 a2_0 a2_1 _ _ l2_2 _ _ l2_3 a2_8 a2_9 _ _ l2_10 _ _ l2_11 _ _ l2_12 _ _ l2_12 _ _ l2_14 a2_15 true t289 _ ?side1 ?side2 ?side3 ?side4 ?side5 ?side6 ?side7 ?side8 ?side9 ?side10 ?side11 ?side12 ?side13 ?side14 ?side15 ?side16 ?side17 ?side18 A35.out).mono ?_); (case side1 => exact Kd.C_below HR2_2.out (by repeat (first | (with_reducible first | exact HB.out | apply below_alloc | apply pw_below_drewN | apply below_drew1 | refine below_set ?_ GE273.out | refine below_set ?_ GE285.out) | exact HB.out))); (case side2 => exact HC2_2.out); (case side3 => exact Kd.C_below HR2_3.out (by repeat (first | (with_reducible first | exact HB.out | apply below_alloc | apply pw_below_drewN | apply below_drew1 | refine below_set ?_ GE273.out | refine below_set ?_ GE285.out) | exact HB.out))); (case side4 => exact HC2_3.out); (case side5 => exact Kd.C_below HR2_2.out (by repeat (first | (with_reducible first | exact HB.out | apply below_alloc | apply pw_below_drewN | apply below_drew1 | refine below_set ?_ GE273.out | refine below_set ?_ GE285.out) | exact HB.out))); (case side6 => exact HC2_2.out); (case side7 => exact Kd.C_below HR2_3.out (by repeat (first | (with_reducible first | exact HB.out | apply below_alloc | apply pw_below_drewN | apply below_drew1 | refine below_set ?_ GE273.out | refine below_set ?_ GE285.out) | exact HB.out))); (case side8 => exact HC2_3.out); (case side9 => exact Kd.C_below HR2_10.out (by repeat (first | (with_reducible first | exact HB.out | apply below_alloc | apply pw_below_drewN | apply below_drew1 | refine below_set ?_ GE273.out | refine below_set ?_ GE285.out) | exact HB.out))); (case side10 => exact HC2_10.out); (case side11 => exact Kd.C_below HR2_11.out (by repeat (first | (with_reducible first | exact HB.out | apply below_alloc | apply pw_below_drewN | apply below_drew1 | refine below_set ?_ GE273.out | refine below_set ?_ GE285.out) | exact HB.out))); (case side12 => exact HC2_11.out); (case side13 => exact Kd.C_below HR2_12.out (by repeat (first | (with_reducible first | exact HB.out | apply below_alloc | apply pw_below_drewN | apply below_drew1 | refine below_set ?_ GE273.out | refine below_set ?_ GE285.out) | exact HB.out))); (case side14 => exact HC2_12.out); (case side15 => exact Kd.C_below HR2_12.out (by repeat (first | (with_reducible first | exact HB.out | apply below_alloc | apply pw_below_drewN | apply below_drew1 | refine below_set ?_ GE273.out | refine below_set ?_ GE285.out) | exact HB.out))); (case side16 => exact HC2_12.out); (case side17 => exact Kd.C_below HR2_14.out (by repeat (first | (with_reducible first | exact HB.out | apply below_alloc | apply pw_below_drewN | apply below_drew1 | refine below_set ?_ GE273.out | refine below_set ?_ GE285.out) | exact HB.out))); (case side18 => exact HC2_14.out); rintro e w42 ⟨rfl, hb⟩; refine ⟨_, rfl, ?_⟩; have n0_ := Aside0.mk (blk_below (g := gb273) (o := .cells #[.int .i64 a2_0, .string a2_1, .slice A2_2 l2_2.length c2_2, .slice A2_3 l2_3.length c2_3, .int .i64 a2_4, .string a2_5, .slice A2_6 l2_6.length c2_6, .slice A2_7 l2_7.length c2_7, .int .i64 a2_8, .string a2_9, .slice A2_10 l2_10.length c2_10, .slice A2_11 l2_11.length c2_11, .slice A2_12 l2_12.length c2_12, .slice A2_13 l2_13.length c2_13, .slice A2_14 l2_14.length c2_14, .int .i64 a2_15] 42 (0, 0)) (by (with_reducible repeat (first | refine blk_drewN ?_ _ | refine blk_drew ?_ | refine blk_alloc ?_ _)); refine blk_far ?_ NB273_285.out _; (with_reducible repeat (first | refine blk_drewN ?_ _ | refine blk_drew ?_ | refine blk_alloc ?_ _)); refine blk_far ?_ NB273_285.out _; (with_reducible repeat (first | refine blk_drewN ?_ _ | refine blk_drew ?_ | refine blk_alloc ?_ _)); refine blk_far ?_ NB273_285.out _; (with_reducible repeat (first | refine blk_drewN ?_ _ | refine blk_drew ?_ | refine blk_alloc ?_ _)); refine blk_far ?_ NB273_285.out _; (with_reducible repeat (first | refine blk_drewN ?_ _ | refine blk_drew ?_ | refine blk_alloc ?_ _)); exact BK273.out) hb); have n1_ := Aside0.mk (blk_below (g := gb285) (o := .cells #[.slice A2_12 l2_12.length c2_12, .slice A2_12 l2_12.length c2_12, .slice A2_14 l2_14.length c2_14, .int .i64 a2_15] 40 (0, 0)) (by (with_reducible repeat (first | refine blk_drewN ?_ _ | refine blk_drew ?_ | refine blk_alloc ?_ _)); refine blk_put (cs := #[.slice A2_12 l2_12.length c2_12, .slice A2_12 l2_12.length c2_12, .slice A2_14 l2_14.length c2_14, .int .i64 a2_15]) ?_ 3 _ rfl; (with_reducible repeat (first | refine blk_drewN ?_ _ | refine blk_drew ?_ | refine blk_alloc ?_ _)); refine blk_put (cs := #[.slice A2_12 l2_12.length c2_12, .slice A2_12 l2_12.length c2_12, .slice A2_13 l2_13.length c2_13, .int .i64 a2_15]) ?_ 2 _ rfl; (with_reducible repeat (first | refine blk_drewN ?_ _ | refine blk_drew ?_ | refine blk_alloc ?_ _)); refine blk_put (cs := #[.slice A2_12 l2_12.length c2_12, .slice A2_14 l2_14.length c2_14, .slice A2_13 l2_13.length c2_13, .int .i64 a2_15]) ?_ 1 _ rfl; (with_reducible repeat (first | refine blk_drewN ?_ _ | refine blk_drew ?_ | refine blk_alloc ?_ _)); refine blk_put (cs := #[.slice A2_12 l2_12.length c2_12, .slice A2_14 l2_14.length c2_14, .slice A2_13 l2_13.length c2_13, .int .i64 a2_15]) ?_ 0 _ rfl; (with_reducible repeat (first | refine blk_drewN ?_ _ | refine blk_drew ?_ | refine blk_alloc ?_ _)); exact BK285.out) hb); have n2_ := Aside0.mk (below_step (by repeat (first | (with_reducible first | exact HB.out | apply below_alloc | apply pw_below_drewN | apply below_drew1 | refine below_set ?_ GE273.out | refine below_set ?_ GE285.out) | exact HB.out)) hb); clear BK273; clear BK285; clear HB; have BK273 := n0_; have BK285 := n1_; have HB := n2_; clear n0_ n1_ n2_; (try clear hb); (try clear hb2); (try clear hk); (try clear hi)) | (go_at_call 9; (with_reducible refine (treemergelaw31_awake.calls  t290 _ A38.out).mono ?_); rintro e w43 ⟨rfl, hb⟩; have n0_ := Aside0.mk (blk_below (g := gb273) (o := .cells #[.int .i64 a2_0, .string a2_1, .slice A2_2 l2_2.length c2_2, .slice A2_3 l2_3.length c2_3, .int .i64 a2_4, .string a2_5, .slice A2_6 l2_6.length c2_6, .slice A2_7 l2_7.length c2_7, .int .i64 a2_8, .string a2_9, .slice A2_10 l2_10.length c2_10, .slice A2_11 l2_11.length c2_11, .slice A2_12 l2_12.length c2_12, .slice A2_13 l2_13.length c2_13, .slice A2_14 l2_14.length c2_14, .int .i64 a2_15] 42 (0, 0)) (by (with_reducible repeat (first | refine blk_drewN ?_ _ | refine blk_drew ?_ | refine blk_alloc ?_ _)); exact BK273.out) hb); have n1_ := Aside0.mk (blk_below (g := gb285) (o := .cells #[.slice A2_12 l2_12.length c2_12, .slice A2_12 l2_12.length c2_12, .slice A2_14 l2_14.length c2_14, .int .i64 a2_15] 40 (0, 0)) (by (with_reducible repeat (first | refine blk_drewN ?_ _ | refine blk_drew ?_ | refine blk_alloc ?_ _)); exact BK285.out) hb); have n2_ := Aside0.mk (below_step (by repeat (first | (with_reducible first | exact HB.out | apply below_alloc | apply pw_below_drewN | apply below_drew1 | refine below_set ?_ GE273.out | refine below_set ?_ GE285.out) | exact HB.out)) hb); clear BK273; clear BK285; clear HB; have BK273 := n0_; have BK285 := n1_; have HB := n2_; clear n0_ n1_ n2_; (try clear hb); (try clear hb2); (try clear hk); (try clear hi)))
                    go_ret
                    exact ⟨by first | rfl | (simp [errW_none, errW_some] <;> rfl) | (simp [*, errW_none, errW_some] <;> rfl), by repeat (first | (with_reducible first | exact HB.out | apply below_alloc | apply pw_below_drewN | apply below_drew1 | refine below_set ?_ GE273.out | refine below_set ?_ GE285.out) | exact HB.out)⟩
                  · replace c37 := Bool.eq_false_iff.mpr c37
                    subst c37
                    have H1 : (some false) = some r := by rw [if_neg (show ¬ (false = true) by decide)] at H; exact H
                    clear H
                    have H := H1
                    clear H1
                    obtain rfl := Option.some.inj H
                    have hnb44 := NB273_285.out
                    have hnc44 := NB285_273.out
                    have hcz45_0 : wc.cell? ⟨gb273, 0, none⟩ = some (.int .i64 a2_0) := (blk_cell BK273.out 0).trans rfl
                    have hcz45_1 : wc.cell? ⟨gb273, 1, none⟩ = some (.string a2_1) := (blk_cell BK273.out 1).trans rfl
                    have hcz45_2 : wc.cell? ⟨gb273, 2, none⟩ = some (.slice A2_2 l2_2.length c2_2) := (blk_cell BK273.out 2).trans rfl
                    have hcz45_3 : wc.cell? ⟨gb273, 3, none⟩ = some (.slice A2_3 l2_3.length c2_3) := (blk_cell BK273.out 3).trans rfl
                    have hcz45_4 : wc.cell? ⟨gb273, 4, none⟩ = some (.int .i64 a2_4) := (blk_cell BK273.out 4).trans rfl
                    have hcz45_5 : wc.cell? ⟨gb273, 5, none⟩ = some (.string a2_5) := (blk_cell BK273.out 5).trans rfl
                    have hcz45_6 : wc.cell? ⟨gb273, 6, none⟩ = some (.slice A2_6 l2_6.length c2_6) := (blk_cell BK273.out 6).trans rfl
                    have hcz45_7 : wc.cell? ⟨gb273, 7, none⟩ = some (.slice A2_7 l2_7.length c2_7) := (blk_cell BK273.out 7).trans rfl
                    have hcz45_8 : wc.cell? ⟨gb273, 8, none⟩ = some (.int .i64 a2_8) := (blk_cell BK273.out 8).trans rfl
                    have hcz45_9 : wc.cell? ⟨gb273, 9, none⟩ = some (.string a2_9) := (blk_cell BK273.out 9).trans rfl
                    have hcz45_10 : wc.cell? ⟨gb273, 10, none⟩ = some (.slice A2_10 l2_10.length c2_10) := (blk_cell BK273.out 10).trans rfl
                    have hcz45_11 : wc.cell? ⟨gb273, 11, none⟩ = some (.slice A2_11 l2_11.length c2_11) := (blk_cell BK273.out 11).trans rfl
                    have hcz45_12 : wc.cell? ⟨gb273, 12, none⟩ = some (.slice A2_12 l2_12.length c2_12) := (blk_cell BK273.out 12).trans rfl
                    have hcz45_13 : wc.cell? ⟨gb273, 13, none⟩ = some (.slice A2_13 l2_13.length c2_13) := (blk_cell BK273.out 13).trans rfl
                    have hcz45_14 : wc.cell? ⟨gb273, 14, none⟩ = some (.slice A2_14 l2_14.length c2_14) := (blk_cell BK273.out 14).trans rfl
                    have hcz45_15 : wc.cell? ⟨gb273, 15, none⟩ = some (.int .i64 a2_15) := (blk_cell BK273.out 15).trans rfl
                    have hfz45_0 := blk_frozen BK273.out 0
                    have hfz45_1 := blk_frozen BK273.out 1
                    have hfz45_2 := blk_frozen BK273.out 2
                    have hfz45_3 := blk_frozen BK273.out 3
                    have hfz45_4 := blk_frozen BK273.out 4
                    have hfz45_5 := blk_frozen BK273.out 5
                    have hfz45_6 := blk_frozen BK273.out 6
                    have hfz45_7 := blk_frozen BK273.out 7
                    have hfz45_8 := blk_frozen BK273.out 8
                    have hfz45_9 := blk_frozen BK273.out 9
                    have hfz45_10 := blk_frozen BK273.out 10
                    have hfz45_11 := blk_frozen BK273.out 11
                    have hfz45_12 := blk_frozen BK273.out 12
                    have hfz45_13 := blk_frozen BK273.out 13
                    have hfz45_14 := blk_frozen BK273.out 14
                    have hfz45_15 := blk_frozen BK273.out 15
                    have hcz46_0 : wc.cell? ⟨gb285, 0, none⟩ = some (.slice A2_12 l2_12.length c2_12) := (blk_cell BK285.out 0).trans rfl
                    have hcz46_1 : wc.cell? ⟨gb285, 1, none⟩ = some (.slice A2_14 l2_14.length c2_14) := (blk_cell BK285.out 1).trans rfl
                    have hcz46_2 : wc.cell? ⟨gb285, 2, none⟩ = some (.slice A2_13 l2_13.length c2_13) := (blk_cell BK285.out 2).trans rfl
                    have hcz46_3 : wc.cell? ⟨gb285, 3, none⟩ = some (.int .i64 a2_15) := (blk_cell BK285.out 3).trans rfl
                    have hfz46_0 := blk_frozen BK285.out 0
                    have hfz46_1 := blk_frozen BK285.out 1
                    have hfz46_2 := blk_frozen BK285.out 2
                    have hfz46_3 := blk_frozen BK285.out 3
                    go_wp2_with (first | ((with_reducible refine gate_callee (f := 17) rfl ?_); refine goesL_ (some 103) rfl rfl Try.func17 (by kernel_rfl) rfl #[.agg #[.int .i64 a2_0, .string a2_1, .slice A2_2 l2_2.length c2_2, .slice A2_3 l2_3.length c2_3], .agg #[.int .i64 a2_0, .string a2_1, .slice A2_2 l2_2.length c2_2, .slice A2_3 l2_3.length c2_3], .agg #[.int .i64 a2_8, .string a2_9, .slice A2_10 l2_10.length c2_10, .slice A2_11 l2_11.length c2_11], .agg #[.slice A2_12 l2_12.length c2_12, .slice A2_12 l2_12.length c2_12, .slice A2_14 l2_14.length c2_14, .int .i64 a2_15]] rfl (by (try simp only [List.map_toArray, List.map_cons, List.map_nil]); first | done | rfl | (simp only [List.length_drop, List.length_take]; rfl)) ?_; (with_reducible refine (change_Independent.calls a2_0 a2_1 _ _ l2_2 _ _ l2_3 a2_0 a2_1 _ _ l2_2 _ _ l2_3 a2_8 a2_9 _ _ l2_10 _ _ l2_11 _ _ l2_12 _ _ l2_12 _ _ l2_14 a2_15 false t289 _ ?side1 ?side2 ?side3 ?side4 ?side5 ?side6 ?side7 ?side8 ?side9 ?side10 ?side11 ?side12 ?side13 ?side14 ?side15 ?side16 ?side17 ?side18 A35.out).mono ?_); (case side1 => exact Kd.C_below HR2_2.out (by repeat (first | (with_reducible first | exact HB.out | apply below_alloc | apply pw_below_drewN | apply below_drew1 | refine below_set ?_ GE273.out | refine below_set ?_ GE285.out) | exact HB.out))); (case side2 => exact HC2_2.out); (case side3 => exact Kd.C_below HR2_3.out (by repeat (first | (with_reducible first | exact HB.out | apply below_alloc | apply pw_below_drewN | apply below_drew1 | refine below_set ?_ GE273.out | refine below_set ?_ GE285.out) | exact HB.out))); (case side4 => exact HC2_3.out); (case side5 => exact Kd.C_below HR2_2.out (by repeat (first | (with_reducible first | exact HB.out | apply below_alloc | apply pw_below_drewN | apply below_drew1 | refine below_set ?_ GE273.out | refine below_set ?_ GE285.out) | exact HB.out))); (case side6 => exact HC2_2.out); (case side7 => exact Kd.C_below HR2_3.out (by repeat (first | (with_reducible first | exact HB.out | apply below_alloc | apply pw_below_drewN | apply below_drew1 | refine below_set ?_ GE273.out | refine below_set ?_ GE285.out) | exact HB.out))); (case side8 => exact HC2_3.out); (case side9 => exact Kd.C_below HR2_10.out (by repeat (first | (with_reducible first | exact HB.out | apply below_alloc | apply pw_below_drewN | apply below_drew1 | refine below_set ?_ GE273.out | refine below_set ?_ GE285.out) | exact HB.out))); (case side10 => exact HC2_10.out); (case side11 => exact Kd.C_below HR2_11.out (by repeat (first | (with_reducible first | exact HB.out | apply below_alloc | apply pw_below_drewN | apply below_drew1 | refine below_set ?_ GE273.out | refine below_set ?_ GE285.out) | exact HB.out))); (case side12 => exact HC2_11.out); (case side13 => exact Kd.C_below HR2_12.out (by repeat (first | (with_reducible first | exact HB.out | apply below_alloc | apply pw_below_drewN | apply below_drew1 | refine below_set ?_ GE273.out | refine below_set ?_ GE285.out) | exact HB.out))); (case side14 => exact HC2_12.out); (case side15 => exact Kd.C_below HR2_12.out (by repeat (first | (with_reducible first | exact HB.out | apply below_alloc | apply pw_below_drewN | apply below_drew1 | refine below_set ?_ GE273.out | refine below_set ?_ GE285.out) | exact HB.out))); (case side16 => exact HC2_12.out); (case side17 => exact Kd.C_below HR2_14.out (by repeat (first | (with_reducible first | exact HB.out | apply below_alloc | apply pw_below_drewN | apply below_drew1 | refine below_set ?_ GE273.out | refine below_set ?_ GE285.out) | exact HB.out))); (case side18 => exact HC2_14.out); rintro e w47 ⟨rfl, hb⟩; refine ⟨_, rfl, ?_⟩; have n0_ := Aside0.mk (blk_below (g := gb273) (o := .cells #[.int .i64 a2_0, .string a2_1, .slice A2_2 l2_2.length c2_2, .slice A2_3 l2_3.length c2_3, .int .i64 a2_4, .string a2_5, .slice A2_6 l2_6.length c2_6, .slice A2_7 l2_7.length c2_7, .int .i64 a2_8, .string a2_9, .slice A2_10 l2_10.length c2_10, .slice A2_11 l2_11.length c2_11, .slice A2_12 l2_12.length c2_12, .slice A2_13 l2_13.length c2_13, .slice A2_14 l2_14.length c2_14, .int .i64 a2_15] 42 (0, 0)) (by (with_reducible repeat (first | refine blk_drewN ?_ _ | refine blk_drew ?_ | refine blk_alloc ?_ _)); refine blk_far ?_ NB273_285.out _; (with_reducible repeat (first | refine blk_drewN ?_ _ | refine blk_drew ?_ | refine blk_alloc ?_ _)); refine blk_far ?_ NB273_285.out _; (with_reducible repeat (first | refine blk_drewN ?_ _ | refine blk_drew ?_ | refine blk_alloc ?_ _)); refine blk_far ?_ NB273_285.out _; (with_reducible repeat (first | refine blk_drewN ?_ _ | refine blk_drew ?_ | refine blk_alloc ?_ _)); refine blk_far ?_ NB273_285.out _; (with_reducible repeat (first | refine blk_drewN ?_ _ | refine blk_drew ?_ | refine blk_alloc ?_ _)); exact BK273.out) hb); have n1_ := Aside0.mk (blk_below (g := gb285) (o := .cells #[.slice A2_12 l2_12.length c2_12, .slice A2_12 l2_12.length c2_12, .slice A2_14 l2_14.length c2_14, .int .i64 a2_15] 40 (0, 0)) (by (with_reducible repeat (first | refine blk_drewN ?_ _ | refine blk_drew ?_ | refine blk_alloc ?_ _)); refine blk_put (cs := #[.slice A2_12 l2_12.length c2_12, .slice A2_12 l2_12.length c2_12, .slice A2_14 l2_14.length c2_14, .int .i64 a2_15]) ?_ 3 _ rfl; (with_reducible repeat (first | refine blk_drewN ?_ _ | refine blk_drew ?_ | refine blk_alloc ?_ _)); refine blk_put (cs := #[.slice A2_12 l2_12.length c2_12, .slice A2_12 l2_12.length c2_12, .slice A2_13 l2_13.length c2_13, .int .i64 a2_15]) ?_ 2 _ rfl; (with_reducible repeat (first | refine blk_drewN ?_ _ | refine blk_drew ?_ | refine blk_alloc ?_ _)); refine blk_put (cs := #[.slice A2_12 l2_12.length c2_12, .slice A2_14 l2_14.length c2_14, .slice A2_13 l2_13.length c2_13, .int .i64 a2_15]) ?_ 1 _ rfl; (with_reducible repeat (first | refine blk_drewN ?_ _ | refine blk_drew ?_ | refine blk_alloc ?_ _)); refine blk_put (cs := #[.slice A2_12 l2_12.length c2_12, .slice A2_14 l2_14.length c2_14, .slice A2_13 l2_13.length c2_13, .int .i64 a2_15]) ?_ 0 _ rfl; (with_reducible repeat (first | refine blk_drewN ?_ _ | refine blk_drew ?_ | refine blk_alloc ?_ _)); exact BK285.out) hb); have n2_ := Aside0.mk (below_step (by repeat (first | (with_reducible first | exact HB.out | apply below_alloc | apply pw_below_drewN | apply below_drew1 | refine below_set ?_ GE273.out | refine below_set ?_ GE285.out) | exact HB.out)) hb); clear BK273; clear BK285; clear HB; have BK273 := n0_; have BK285 := n1_; have HB := n2_; clear n0_ n1_ n2_; (try clear hb); (try clear hb2); (try clear hk); (try clear hi)))
                    go_ret
                    exact ⟨by first | rfl | (simp [errW_none, errW_some] <;> rfl) | (simp [*, errW_none, errW_some] <;> rfl), by repeat (first | (with_reducible first | exact HB.out | apply below_alloc | apply pw_below_drewN | apply below_drew1 | refine below_set ?_ GE273.out | refine below_set ?_ GE285.out) | exact HB.out)⟩
                · rw [if_neg c36] at H
                  have c36b0 : (t289 == 0) = false := beq_eq_false_iff_ne.mpr c36
                  have c36b1 : (t289 != 0) = true := bne_iff_ne.mpr c36
                  replace H := Option.bind_eq_some_iff.mp H
                  obtain ⟨t291, A480, H⟩ := H
                  replace H : (some t291) = some r := H
                  have A48 := Aside0.mk A480
                  clear A480
                  obtain rfl := Option.some.inj H
                  have hnb49 := NB273_285.out
                  have hnc49 := NB285_273.out
                  have hcz50_0 : wc.cell? ⟨gb273, 0, none⟩ = some (.int .i64 a2_0) := (blk_cell BK273.out 0).trans rfl
                  have hcz50_1 : wc.cell? ⟨gb273, 1, none⟩ = some (.string a2_1) := (blk_cell BK273.out 1).trans rfl
                  have hcz50_2 : wc.cell? ⟨gb273, 2, none⟩ = some (.slice A2_2 l2_2.length c2_2) := (blk_cell BK273.out 2).trans rfl
                  have hcz50_3 : wc.cell? ⟨gb273, 3, none⟩ = some (.slice A2_3 l2_3.length c2_3) := (blk_cell BK273.out 3).trans rfl
                  have hcz50_4 : wc.cell? ⟨gb273, 4, none⟩ = some (.int .i64 a2_4) := (blk_cell BK273.out 4).trans rfl
                  have hcz50_5 : wc.cell? ⟨gb273, 5, none⟩ = some (.string a2_5) := (blk_cell BK273.out 5).trans rfl
                  have hcz50_6 : wc.cell? ⟨gb273, 6, none⟩ = some (.slice A2_6 l2_6.length c2_6) := (blk_cell BK273.out 6).trans rfl
                  have hcz50_7 : wc.cell? ⟨gb273, 7, none⟩ = some (.slice A2_7 l2_7.length c2_7) := (blk_cell BK273.out 7).trans rfl
                  have hcz50_8 : wc.cell? ⟨gb273, 8, none⟩ = some (.int .i64 a2_8) := (blk_cell BK273.out 8).trans rfl
                  have hcz50_9 : wc.cell? ⟨gb273, 9, none⟩ = some (.string a2_9) := (blk_cell BK273.out 9).trans rfl
                  have hcz50_10 : wc.cell? ⟨gb273, 10, none⟩ = some (.slice A2_10 l2_10.length c2_10) := (blk_cell BK273.out 10).trans rfl
                  have hcz50_11 : wc.cell? ⟨gb273, 11, none⟩ = some (.slice A2_11 l2_11.length c2_11) := (blk_cell BK273.out 11).trans rfl
                  have hcz50_12 : wc.cell? ⟨gb273, 12, none⟩ = some (.slice A2_12 l2_12.length c2_12) := (blk_cell BK273.out 12).trans rfl
                  have hcz50_13 : wc.cell? ⟨gb273, 13, none⟩ = some (.slice A2_13 l2_13.length c2_13) := (blk_cell BK273.out 13).trans rfl
                  have hcz50_14 : wc.cell? ⟨gb273, 14, none⟩ = some (.slice A2_14 l2_14.length c2_14) := (blk_cell BK273.out 14).trans rfl
                  have hcz50_15 : wc.cell? ⟨gb273, 15, none⟩ = some (.int .i64 a2_15) := (blk_cell BK273.out 15).trans rfl
                  have hfz50_0 := blk_frozen BK273.out 0
                  have hfz50_1 := blk_frozen BK273.out 1
                  have hfz50_2 := blk_frozen BK273.out 2
                  have hfz50_3 := blk_frozen BK273.out 3
                  have hfz50_4 := blk_frozen BK273.out 4
                  have hfz50_5 := blk_frozen BK273.out 5
                  have hfz50_6 := blk_frozen BK273.out 6
                  have hfz50_7 := blk_frozen BK273.out 7
                  have hfz50_8 := blk_frozen BK273.out 8
                  have hfz50_9 := blk_frozen BK273.out 9
                  have hfz50_10 := blk_frozen BK273.out 10
                  have hfz50_11 := blk_frozen BK273.out 11
                  have hfz50_12 := blk_frozen BK273.out 12
                  have hfz50_13 := blk_frozen BK273.out 13
                  have hfz50_14 := blk_frozen BK273.out 14
                  have hfz50_15 := blk_frozen BK273.out 15
                  have hcz51_0 : wc.cell? ⟨gb285, 0, none⟩ = some (.slice A2_12 l2_12.length c2_12) := (blk_cell BK285.out 0).trans rfl
                  have hcz51_1 : wc.cell? ⟨gb285, 1, none⟩ = some (.slice A2_14 l2_14.length c2_14) := (blk_cell BK285.out 1).trans rfl
                  have hcz51_2 : wc.cell? ⟨gb285, 2, none⟩ = some (.slice A2_13 l2_13.length c2_13) := (blk_cell BK285.out 2).trans rfl
                  have hcz51_3 : wc.cell? ⟨gb285, 3, none⟩ = some (.int .i64 a2_15) := (blk_cell BK285.out 3).trans rfl
                  have hfz51_0 := blk_frozen BK285.out 0
                  have hfz51_1 := blk_frozen BK285.out 1
                  have hfz51_2 := blk_frozen BK285.out 2
                  have hfz51_3 := blk_frozen BK285.out 3
                  go_wp2_with (first | ((with_reducible refine gate_callee (f := 17) rfl ?_); refine goesL_ (some 103) rfl rfl Try.func17 (by kernel_rfl) rfl #[.agg #[.int .i64 a2_0, .string a2_1, .slice A2_2 l2_2.length c2_2, .slice A2_3 l2_3.length c2_3], .agg #[.int .i64 a2_0, .string a2_1, .slice A2_2 l2_2.length c2_2, .slice A2_3 l2_3.length c2_3], .agg #[.int .i64 a2_8, .string a2_9, .slice A2_10 l2_10.length c2_10, .slice A2_11 l2_11.length c2_11], .agg #[.slice A2_12 l2_12.length c2_12, .slice A2_12 l2_12.length c2_12, .slice A2_14 l2_14.length c2_14, .int .i64 a2_15]] rfl (by (try simp only [List.map_toArray, List.map_cons, List.map_nil]); first | done | rfl | (simp only [List.length_drop, List.length_take]; rfl)) ?_; (with_reducible refine (change_Independent.calls a2_0 a2_1 _ _ l2_2 _ _ l2_3 a2_0 a2_1 _ _ l2_2 _ _ l2_3 a2_8 a2_9 _ _ l2_10 _ _ l2_11 _ _ l2_12 _ _ l2_12 _ _ l2_14 a2_15 t288 t289 _ ?side1 ?side2 ?side3 ?side4 ?side5 ?side6 ?side7 ?side8 ?side9 ?side10 ?side11 ?side12 ?side13 ?side14 ?side15 ?side16 ?side17 ?side18 A35.out).mono ?_); (case side1 => exact Kd.C_below HR2_2.out (by repeat (first | (with_reducible first | exact HB.out | apply below_alloc | apply pw_below_drewN | apply below_drew1 | refine below_set ?_ GE273.out | refine below_set ?_ GE285.out) | exact HB.out))); (case side2 => exact HC2_2.out); (case side3 => exact Kd.C_below HR2_3.out (by repeat (first | (with_reducible first | exact HB.out | apply below_alloc | apply pw_below_drewN | apply below_drew1 | refine below_set ?_ GE273.out | refine below_set ?_ GE285.out) | exact HB.out))); (case side4 => exact HC2_3.out); (case side5 => exact Kd.C_below HR2_2.out (by repeat (first | (with_reducible first | exact HB.out | apply below_alloc | apply pw_below_drewN | apply below_drew1 | refine below_set ?_ GE273.out | refine below_set ?_ GE285.out) | exact HB.out))); (case side6 => exact HC2_2.out); (case side7 => exact Kd.C_below HR2_3.out (by repeat (first | (with_reducible first | exact HB.out | apply below_alloc | apply pw_below_drewN | apply below_drew1 | refine below_set ?_ GE273.out | refine below_set ?_ GE285.out) | exact HB.out))); (case side8 => exact HC2_3.out); (case side9 => exact Kd.C_below HR2_10.out (by repeat (first | (with_reducible first | exact HB.out | apply below_alloc | apply pw_below_drewN | apply below_drew1 | refine below_set ?_ GE273.out | refine below_set ?_ GE285.out) | exact HB.out))); (case side10 => exact HC2_10.out); (case side11 => exact Kd.C_below HR2_11.out (by repeat (first | (with_reducible first | exact HB.out | apply below_alloc | apply pw_below_drewN | apply below_drew1 | refine below_set ?_ GE273.out | refine below_set ?_ GE285.out) | exact HB.out))); (case side12 => exact HC2_11.out); (case side13 => exact Kd.C_below HR2_12.out (by repeat (first | (with_reducible first | exact HB.out | apply below_alloc | apply pw_below_drewN | apply below_drew1 | refine below_set ?_ GE273.out | refine below_set ?_ GE285.out) | exact HB.out))); (case side14 => exact HC2_12.out); (case side15 => exact Kd.C_below HR2_12.out (by repeat (first | (with_reducible first | exact HB.out | apply below_alloc | apply pw_below_drewN | apply below_drew1 | refine below_set ?_ GE273.out | refine below_set ?_ GE285.out) | exact HB.out))); (case side16 => exact HC2_12.out); (case side17 => exact Kd.C_below HR2_14.out (by repeat (first | (with_reducible first | exact HB.out | apply below_alloc | apply pw_below_drewN | apply below_drew1 | refine below_set ?_ GE273.out | refine below_set ?_ GE285.out) | exact HB.out))); (case side18 => exact HC2_14.out); rintro e w52 ⟨rfl, hb⟩; refine ⟨_, rfl, ?_⟩; have n0_ := Aside0.mk (blk_below (g := gb273) (o := .cells #[.int .i64 a2_0, .string a2_1, .slice A2_2 l2_2.length c2_2, .slice A2_3 l2_3.length c2_3, .int .i64 a2_4, .string a2_5, .slice A2_6 l2_6.length c2_6, .slice A2_7 l2_7.length c2_7, .int .i64 a2_8, .string a2_9, .slice A2_10 l2_10.length c2_10, .slice A2_11 l2_11.length c2_11, .slice A2_12 l2_12.length c2_12, .slice A2_13 l2_13.length c2_13, .slice A2_14 l2_14.length c2_14, .int .i64 a2_15] 42 (0, 0)) (by (with_reducible repeat (first | refine blk_drewN ?_ _ | refine blk_drew ?_ | refine blk_alloc ?_ _)); refine blk_far ?_ NB273_285.out _; (with_reducible repeat (first | refine blk_drewN ?_ _ | refine blk_drew ?_ | refine blk_alloc ?_ _)); refine blk_far ?_ NB273_285.out _; (with_reducible repeat (first | refine blk_drewN ?_ _ | refine blk_drew ?_ | refine blk_alloc ?_ _)); refine blk_far ?_ NB273_285.out _; (with_reducible repeat (first | refine blk_drewN ?_ _ | refine blk_drew ?_ | refine blk_alloc ?_ _)); refine blk_far ?_ NB273_285.out _; (with_reducible repeat (first | refine blk_drewN ?_ _ | refine blk_drew ?_ | refine blk_alloc ?_ _)); exact BK273.out) hb); have n1_ := Aside0.mk (blk_below (g := gb285) (o := .cells #[.slice A2_12 l2_12.length c2_12, .slice A2_12 l2_12.length c2_12, .slice A2_14 l2_14.length c2_14, .int .i64 a2_15] 40 (0, 0)) (by (with_reducible repeat (first | refine blk_drewN ?_ _ | refine blk_drew ?_ | refine blk_alloc ?_ _)); refine blk_put (cs := #[.slice A2_12 l2_12.length c2_12, .slice A2_12 l2_12.length c2_12, .slice A2_14 l2_14.length c2_14, .int .i64 a2_15]) ?_ 3 _ rfl; (with_reducible repeat (first | refine blk_drewN ?_ _ | refine blk_drew ?_ | refine blk_alloc ?_ _)); refine blk_put (cs := #[.slice A2_12 l2_12.length c2_12, .slice A2_12 l2_12.length c2_12, .slice A2_13 l2_13.length c2_13, .int .i64 a2_15]) ?_ 2 _ rfl; (with_reducible repeat (first | refine blk_drewN ?_ _ | refine blk_drew ?_ | refine blk_alloc ?_ _)); refine blk_put (cs := #[.slice A2_12 l2_12.length c2_12, .slice A2_14 l2_14.length c2_14, .slice A2_13 l2_13.length c2_13, .int .i64 a2_15]) ?_ 1 _ rfl; (with_reducible repeat (first | refine blk_drewN ?_ _ | refine blk_drew ?_ | refine blk_alloc ?_ _)); refine blk_put (cs := #[.slice A2_12 l2_12.length c2_12, .slice A2_14 l2_14.length c2_14, .slice A2_13 l2_13.length c2_13, .int .i64 a2_15]) ?_ 0 _ rfl; (with_reducible repeat (first | refine blk_drewN ?_ _ | refine blk_drew ?_ | refine blk_alloc ?_ _)); exact BK285.out) hb); have n2_ := Aside0.mk (below_step (by repeat (first | (with_reducible first | exact HB.out | apply below_alloc | apply pw_below_drewN | apply below_drew1 | refine below_set ?_ GE273.out | refine below_set ?_ GE285.out) | exact HB.out)) hb); clear BK273; clear BK285; clear HB; have BK273 := n0_; have BK285 := n1_; have HB := n2_; clear n0_ n1_ n2_; (try clear hb); (try clear hb2); (try clear hk); (try clear hi)) | (go_at_call 9; (with_reducible refine (treemergelaw31_awake.calls  t291 _ A48.out).mono ?_); rintro e w53 ⟨rfl, hb⟩; have n0_ := Aside0.mk (blk_below (g := gb273) (o := .cells #[.int .i64 a2_0, .string a2_1, .slice A2_2 l2_2.length c2_2, .slice A2_3 l2_3.length c2_3, .int .i64 a2_4, .string a2_5, .slice A2_6 l2_6.length c2_6, .slice A2_7 l2_7.length c2_7, .int .i64 a2_8, .string a2_9, .slice A2_10 l2_10.length c2_10, .slice A2_11 l2_11.length c2_11, .slice A2_12 l2_12.length c2_12, .slice A2_13 l2_13.length c2_13, .slice A2_14 l2_14.length c2_14, .int .i64 a2_15] 42 (0, 0)) (by (with_reducible repeat (first | refine blk_drewN ?_ _ | refine blk_drew ?_ | refine blk_alloc ?_ _)); exact BK273.out) hb); have n1_ := Aside0.mk (blk_below (g := gb285) (o := .cells #[.slice A2_12 l2_12.length c2_12, .slice A2_12 l2_12.length c2_12, .slice A2_14 l2_14.length c2_14, .int .i64 a2_15] 40 (0, 0)) (by (with_reducible repeat (first | refine blk_drewN ?_ _ | refine blk_drew ?_ | refine blk_alloc ?_ _)); exact BK285.out) hb); have n2_ := Aside0.mk (below_step (by repeat (first | (with_reducible first | exact HB.out | apply below_alloc | apply pw_below_drewN | apply below_drew1 | refine below_set ?_ GE273.out | refine below_set ?_ GE285.out) | exact HB.out)) hb); clear BK273; clear BK285; clear HB; have BK273 := n0_; have BK285 := n1_; have HB := n2_; clear n0_ n1_ n2_; (try clear hb); (try clear hb2); (try clear hk); (try clear hi)))
                  go_ret
                  exact ⟨by first | rfl | (simp [errW_none, errW_some] <;> rfl) | (simp [*, errW_none, errW_some] <;> rfl), by repeat (first | (with_reducible first | exact HB.out | apply below_alloc | apply pw_below_drewN | apply below_drew1 | refine below_set ?_ GE273.out | refine below_set ?_ GE285.out) | exact HB.out)⟩
        · replace c17 := Bool.eq_false_iff.mpr c17
          subst c17
          have H1 : (some false) = some r := by rw [if_neg (show ¬ (false = true) by decide)] at H; exact H
          clear H
          have H := H1
          clear H1
          obtain rfl := Option.some.inj H
          go_wp2_with (first | ((with_reducible refine gate_callee (f := 14) rfl ?_); refine goesL_ (some 30) rfl rfl Try.func14 (by kernel_rfl) rfl #[.slice A0 l0.length c0, .slice A1 l1.length c1] rfl (by (try simp only [List.map_toArray, List.map_cons, List.map_nil]); first | done | rfl | (simp only [List.length_drop, List.length_take]; rfl)) ?_; (with_reducible refine (change_Overlap.calls _ _ l0 _ _ l1 t276 _ ?side1 ?side2 ?side3 ?side4 A14.out).mono ?_); (case side1 => repeat (first | exact (Kd.C_below HR0.out HB.out) | (with_reducible refine Kd.C_alloc ?_ _) | (with_reducible refine Kd.C_drewN ?_ _) | (with_reducible refine Kd.C_drew ?_))); (case side2 => exact HC0.out); (case side3 => repeat (first | exact (Kd.C_below HR1.out HB.out) | (with_reducible refine Kd.C_alloc ?_ _) | (with_reducible refine Kd.C_drewN ?_ _) | (with_reducible refine Kd.C_drew ?_))); (case side4 => exact HC1.out); rintro e w54 ⟨v277, rfl, ho0, hb⟩; refine ⟨_, rfl, ?_⟩; have n0_ := Aside0.mk (Kd.R_lower ho0 (below_size (by repeat (first | (with_reducible first | exact HB.out | apply below_alloc | apply pw_below_drewN | apply below_drew1 | refine below_set ?_ GE273.out) | exact HB.out)))); have n1_ := Aside0.mk (blk_below (g := gb273) (o := .cells #[.int .i64 a2_0, .string a2_1, .slice A2_2 l2_2.length c2_2, .slice A2_3 l2_3.length c2_3, .int .i64 a2_4, .string a2_5, .slice A2_6 l2_6.length c2_6, .slice A2_7 l2_7.length c2_7, .int .i64 a2_8, .string a2_9, .slice A2_10 l2_10.length c2_10, .slice A2_11 l2_11.length c2_11, .slice A2_12 l2_12.length c2_12, .slice A2_13 l2_13.length c2_13, .slice A2_14 l2_14.length c2_14, .int .i64 a2_15] 42 (0, 0)) (by (with_reducible repeat (first | refine blk_drewN ?_ _ | refine blk_drew ?_ | refine blk_alloc ?_ _)); exact BK273.out) hb); have n2_ := Aside0.mk (below_step (by repeat (first | (with_reducible first | exact HB.out | apply below_alloc | apply pw_below_drewN | apply below_drew1 | refine below_set ?_ GE273.out) | exact HB.out)) hb); clear BK273; clear HB; have HO278 := n0_; have BK273 := n1_; have HB := n2_; clear n0_ n1_ n2_; (try clear hb); (try clear hb2); (try clear hk); (try clear hi); (try clear ho0)) | ((with_reducible refine gate_callee (f := 14) rfl ?_); refine goesL_ (some 33) rfl rfl Try.func14 (by kernel_rfl) rfl #[.slice A1 l1.length c1, .slice A0 l0.length c0] rfl (by (try simp only [List.map_toArray, List.map_cons, List.map_nil]); first | done | rfl | (simp only [List.length_drop, List.length_take]; rfl)) ?_; (with_reducible refine (change_Overlap.calls _ _ l1 _ _ l0 t279 _ ?side1 ?side2 ?side3 ?side4 A15.out).mono ?_); (case side1 => repeat (first | exact (Kd.C_below HR1.out HB.out) | (with_reducible refine Kd.C_alloc ?_ _) | (with_reducible refine Kd.C_drewN ?_ _) | (with_reducible refine Kd.C_drew ?_))); (case side2 => exact HC1.out); (case side3 => repeat (first | exact (Kd.C_below HR0.out HB.out) | (with_reducible refine Kd.C_alloc ?_ _) | (with_reducible refine Kd.C_drewN ?_ _) | (with_reducible refine Kd.C_drew ?_))); (case side4 => exact HC0.out); rintro e w55 ⟨v280, rfl, ho0, hb⟩; refine ⟨_, rfl, ?_⟩; have n0_ := Aside0.mk (Kd.R_elder' (by (with_reducible repeat (first | apply Kd.R_alloc | apply Kd.R_drewN | apply Kd.R_drew)); exact HO278.out) (Kd.R_base ho0) hb); have n1_ := Aside0.mk (Kd.R_lower (Kd.R_new' ho0 (Kd.R_lt (by (with_reducible repeat (first | apply Kd.R_alloc | apply Kd.R_drewN | apply Kd.R_drew)); exact HO278.out))) (below_size (by repeat (first | (with_reducible first | exact HB.out | apply below_alloc | apply pw_below_drewN | apply below_drew1 | refine below_set ?_ GE273.out) | exact HB.out)))); have n2_ := Aside0.mk (blk_below (g := gb273) (o := .cells #[.int .i64 a2_0, .string a2_1, .slice A2_2 l2_2.length c2_2, .slice A2_3 l2_3.length c2_3, .int .i64 a2_4, .string a2_5, .slice A2_6 l2_6.length c2_6, .slice A2_7 l2_7.length c2_7, .int .i64 a2_8, .string a2_9, .slice A2_10 l2_10.length c2_10, .slice A2_11 l2_11.length c2_11, .slice A2_12 l2_12.length c2_12, .slice A2_13 l2_13.length c2_13, .slice A2_14 l2_14.length c2_14, .int .i64 a2_15] 42 (0, 0)) (by (with_reducible repeat (first | refine blk_drewN ?_ _ | refine blk_drew ?_ | refine blk_alloc ?_ _)); exact BK273.out) hb); have n3_ := Aside0.mk (below_step (by repeat (first | (with_reducible first | exact HB.out | apply below_alloc | apply pw_below_drewN | apply below_drew1 | refine below_set ?_ GE273.out) | exact HB.out)) hb); clear HO278; clear BK273; clear HB; have HO278 := n0_; have HO281 := n1_; have BK273 := n2_; have HB := n3_; clear n0_ n1_ n2_ n3_; (try clear hb); (try clear hb2); (try clear hk); (try clear hi); (try clear ho0); obtain ⟨Ao56, co56, eo56⟩ := Kd.R_slice HO278.out; subst eo56; obtain ⟨Ao57, co57, eo57⟩ := Kd.R_slice HO281.out; subst eo57) | ((with_reducible refine gate_callee (f := 13) rfl ?_); refine goesL_ (some 34) rfl rfl Try.func13 (by kernel_rfl) rfl #[.slice Ao56 t276.length co56, .slice Ao57 t279.length co57] rfl (by (try simp only [List.map_toArray, List.map_cons, List.map_nil]); first | done | rfl | (simp only [List.length_drop, List.length_take]; rfl)) ?_; (with_reducible refine (treemergelaw31_same.calls kj3 _ _ t276 _ _ t279 false _ ?side1 ?side2 ?side3 ?side4 A16.out).mono ?_); (case side1 => repeat (first | exact (Kd.R_reads' HO278.out).2.2 | (with_reducible refine Kd.C_alloc ?_ _) | (with_reducible refine Kd.C_drewN ?_ _) | (with_reducible refine Kd.C_drew ?_))); (case side2 => exact (Kd.R_reads' HO278.out).2.1); (case side3 => repeat (first | exact (Kd.R_reads' HO281.out).2.2 | (with_reducible refine Kd.C_alloc ?_ _) | (with_reducible refine Kd.C_drewN ?_ _) | (with_reducible refine Kd.C_drew ?_))); (case side4 => exact (Kd.R_reads' HO281.out).2.1); rintro e w' ⟨rfl, ⟨nd, rfl⟩⟩; refine ⟨_, rfl, ?_⟩))
          go_ret
          exact ⟨by first | rfl | (simp [errW_none, errW_some] <;> rfl) | (simp [*, errW_none, errW_some] <;> rfl), by repeat (first | (with_reducible first | exact HB.out | apply below_alloc | apply pw_below_drewN | apply below_drew1 | refine below_set ?_ GE273.out) | exact HB.out)⟩

end Go.Proofs.Ytcfjdehpbckomaa.Q
