-- Written by a program of this session (mk.py) out of the translation; Lean checks it.
import Derived.Test.YtdbgdkbpamekpaaQ0
import Derived.Test.YtdbgdkbpamekpaaQ1
import Derived.Test.YtdbgdkbpamekpaaQ6
import Derived.Test.YtdbgdkbpamekpaaQ7
import Derived.Test.YtdbgdkbpamekpaaQ8
import Derived.Test.YtdbgdkbpamekpaaQ9
import Derived.Test.YtdbgdkbpamekpaaQ13
namespace Go.Proofs.Ytdbgdkbpamekpaa.Q
open Go.RowKit Go.Proofs.YtdbgdkbpamekpaaW.PrintWords Go.Proofs.YtdbgdkbpamekpaaW.PrintLast Go.Proofs.YtdbgdkbpamekpaaW.PrintMore
attribute [local go_sem] max2_int min2_int max_two min_two max_three min_three max_four min_four   -- for this text's walks alone
set_option linter.unusedVariables false
set_option linter.unusedSimpArgs false

/-! ### treemergeref32_Free: function 19 -/
def treemergeref32_Free.l0 : Nat → List Int → List Int → List Int → Int → Option (List Int × Bool)
 | 0, _, _, _, _ => none
 | k + 1, x14, x15, x16, x17 => if x17 < (x15.length : Int) then (if 0 ≤ x17 then ((treemergeref32_Has.f k x14 (rd x15 x17)).bind fun t411 => (if t411 = true then (treemergeref32_Free.l0 k x14 x15 x16 (wrap64 (x17 + 1))) else ((treemergeref32_put.f k x16 (rd x15 x17)).bind fun t413 => (treemergeref32_Free.l0 k x14 x15 t413 (wrap64 (x17 + 1)))))) else (none)) else ((treemergeref32_joined.f k x14 x16).bind fun t407 => (some (t407, false)))
def treemergeref32_Free.f (k : Nat) (l0 : List Int) (l1 : List Int) (l2 : List Int) (l3 : List ByteArray) : Option (List Int × Bool) := (treemergeref32_Merge.f k l0 l1 l2).bind fun bt393 => (if bt393.2 = true then (some (bt393.1, true)) else ((treemergeref32_parts.f k l0 l1 l2 l3).bind fun bt397 => ((treemergeref32_Once.f k bt397.1).bind fun t401 => ((treemergeref32_Kept.f k l0 l1 l2).bind fun t404 => (treemergeref32_Free.l0 k t401 t404 ([] : List Int) 0)))))
theorem treemergeref32_Free.mono_l : ∀ k, (∀ y0 y1 y2 y3, LeO (treemergeref32_Free.l0 k y0 y1 y2 y3) (treemergeref32_Free.l0 (k + 1) y0 y1 y2 y3))
 | 0 => fun _ _ _ _ r h => by simp [treemergeref32_Free.l0] at h
 | k + 1 => by
  have ih0 := treemergeref32_Free.mono_l k
  ·intro y0 y1 y2 y3
   unfold treemergeref32_Free.l0
   repeat' first
   | (with_reducible exact ih0 _ _ _ _)
   | (with_reducible exact treemergeref32_Has.mono _ _ _)
   | (with_reducible exact treemergeref32_Kept.mono _ _ _ _)
   | (with_reducible exact treemergeref32_Merge.mono _ _ _ _)
   | (with_reducible exact treemergeref32_Once.mono _ _)
   | (with_reducible exact treemergeref32_joined.mono _ _ _)
   | (with_reducible exact treemergeref32_parts.mono _ _ _ _ _)
   | (with_reducible exact treemergeref32_put.mono _ _ _)
   | (with_reducible exact LeO.refl _)
   | (with_reducible exact LeO.none _)
   | (with_reducible refine LeO.ite ?_ ?_)
   | (with_reducible refine LeO.bind ?_ (fun _ => ?_))
theorem treemergeref32_Free.mono : ∀ a0 a1 a2 a3 k, LeO (treemergeref32_Free.f k a0 a1 a2 a3) (treemergeref32_Free.f (k + 1) a0 a1 a2 a3) := by
 intro a0 a1 a2 a3 k
 have ih0 := treemergeref32_Free.mono_l k
 unfold treemergeref32_Free.f
 repeat' first
   | (with_reducible exact ih0 _ _ _ _)
   | (with_reducible exact treemergeref32_Has.mono _ _ _)
   | (with_reducible exact treemergeref32_Kept.mono _ _ _ _)
   | (with_reducible exact treemergeref32_Merge.mono _ _ _ _)
   | (with_reducible exact treemergeref32_Once.mono _ _)
   | (with_reducible exact treemergeref32_joined.mono _ _ _)
   | (with_reducible exact treemergeref32_parts.mono _ _ _ _ _)
   | (with_reducible exact treemergeref32_put.mono _ _ _)
   | (with_reducible exact LeO.refl _)
   | (with_reducible exact LeO.none _)
   | (with_reducible refine LeO.ite ?_ ?_)
   | (with_reducible refine LeO.bind ?_ (fun _ => ?_))
set_option maxHeartbeats 8000000 in
set_option maxRecDepth 100000 in
theorem treemergeref32_Free.calls (k : Nat) (A0 : Option Addr) (c0 : Nat) (l0 : List Int) (A1 : Option Addr) (c1 : Nat) (l1 : List Int) (A2 : Option Addr) (c2 : Nat) (l2 : List Int) (A3 : Option Addr) (c3 : Nat) (l3 : List ByteArray) (r1 : List Int) (r2 : Bool) (w : World) (hr0 : Kd.C (Kd.int .i64) w A0 l0.length l0) (hc0 : l0.length ≤ c0) (hr1 : Kd.C (Kd.int .i64) w A1 l1.length l1) (hc1 : l1.length ≤ c1) (hr2 : Kd.C (Kd.int .i64) w A2 l2.length l2) (hc2 : l2.length ≤ c2) (hr3 : Kd.C Kd.string w A3 l3.length l3) (hc3 : l3.length ≤ c3) (h : treemergeref32_Free.f k l0 l1 l2 l3 = some (r1, r2)) :
  Calls Try.prog 19 #[.slice A0 l0.length c0, .slice A1 l1.length c1, .slice A2 l2.length c2, .slice A3 l3.length c3] w fun e w' => ∃ v0_ : Value, e = .returned (.tuple #[v0_, .bool r2]) ∧ Kd.R (Kd.int .i64) 3 w' w.heap.size (fun _ => True) v0_ r1 ∧ Below w.heap.size w w' := by
 have HR0 := Aside0.mk hr0
 have HC0 := Aside0.mk hc0
 clear hr0 hc0
 have HR1 := Aside0.mk hr1
 have HC1 := Aside0.mk hc1
 clear hr1 hc1
 have HR2 := Aside0.mk hr2
 have HC2 := Aside0.mk hc2
 clear hr2 hc2
 have HR3 := Aside0.mk hr3
 have HC3 := Aside0.mk hc3
 clear hr3 hc3
 have HB := Aside0.mk (Below.refl w.heap.size w)
 have H : ((treemergeref32_Merge.f k l0 l1 l2).bind fun bt393 => (if bt393.2 = true then (some (bt393.1, true)) else ((treemergeref32_parts.f k l0 l1 l2 l3).bind fun bt397 => ((treemergeref32_Once.f k bt397.1).bind fun t401 => ((treemergeref32_Kept.f k l0 l1 l2).bind fun t404 => (treemergeref32_Free.l0 k t401 t404 ([] : List Int) 0)))))) = some (r1, r2) := h
 clear h
 replace H := Option.bind_eq_some_iff.mp H
 obtain ⟨⟨t393, t394⟩, A50, H⟩ := H
 replace H : (if t394 = true then (some (t393, true)) else ((treemergeref32_parts.f k l0 l1 l2 l3).bind fun bt397 => ((treemergeref32_Once.f k bt397.1).bind fun t401 => ((treemergeref32_Kept.f k l0 l1 l2).bind fun t404 => (treemergeref32_Free.l0 k t401 t404 ([] : List Int) 0))))) = some (r1, r2) := H
 have A5 := Aside0.mk A50
 clear A50
 by_cases c6 : t394 = true
 ·subst c6
  have H1 : (some (t393, true)) = some (r1, r2) := by rw [if_pos rfl] at H; exact H
  clear H
  have H := H1
  clear H1
  simp only [Option.some.injEq, Prod.mk.injEq] at H
  obtain ⟨rfl, rfl⟩ := H
  go_enter Try.func19, Try.ntmps19
  go_wp2_with (first | ((with_reducible refine gate_callee (f := 18) rfl ?_); refine goesL_ (some 22) rfl rfl Try.func18 (by kernel_rfl) rfl #[.slice A0 l0.length c0, .slice A1 l1.length c1, .slice A2 l2.length c2] rfl MX ?_; (with_reducible refine (treemergeref32_Merge.calls k _ _ l0 _ _ l1 _ _ l2 t393 true _ ?side1 ?side2 ?side3 ?side4 ?side5 ?side6 A5.out).mono ?_); (case side1 => exact CX HR0.out); (case side2 => exact HC0.out); (case side3 => exact CX HR1.out); (case side4 => exact HC1.out); (case side5 => exact CX HR2.out); (case side6 => exact HC2.out); rintro e w7 ⟨v395, rfl, ho0, hb⟩; refine ⟨_, rfl, ?_⟩; have n0_ := Aside0.mk (Kd.R_lower ho0 (below_size (BX HB.out))); have n1_ := Aside0.mk (below_step (BX HB.out) hb); clear HB; have HO396 := n0_; have HB := n1_; clear n0_ n1_; (try clear hb); (try clear hb2); (try clear hk); (try clear hi); (try clear ho0)))
  go_ret2
  exact ⟨_, by first | rfl | (simp [errW_none, errW_some] <;> rfl) | (simp [*, errW_none, errW_some] <;> rfl), by (with_reducible repeat (first | apply Kd.R_alloc | apply Kd.R_drewN | apply Kd.R_drew)); exact HO396.out, BX HB.out⟩
 ·replace c6 := Bool.eq_false_iff.mpr c6
  subst c6
  have H1 : ((treemergeref32_parts.f k l0 l1 l2 l3).bind fun bt397 => ((treemergeref32_Once.f k bt397.1).bind fun t401 => ((treemergeref32_Kept.f k l0 l1 l2).bind fun t404 => (treemergeref32_Free.l0 k t401 t404 ([] : List Int) 0)))) = some (r1, r2) := by rw [if_neg (show ¬ (false = true) by decide)] at H; exact H
  clear H
  have H := H1
  clear H1
  replace H := Option.bind_eq_some_iff.mp H
  obtain ⟨⟨t397, t398⟩, A80, H⟩ := H
  replace H : ((treemergeref32_Once.f k t397).bind fun t401 => ((treemergeref32_Kept.f k l0 l1 l2).bind fun t404 => (treemergeref32_Free.l0 k t401 t404 ([] : List Int) 0))) = some (r1, r2) := H
  have A8 := Aside0.mk A80
  clear A80
  replace H := Option.bind_eq_some_iff.mp H
  obtain ⟨t401, A90, H⟩ := H
  have A9 := Aside0.mk A90
  clear A90
  replace H := Option.bind_eq_some_iff.mp H
  obtain ⟨t404, A100, H⟩ := H
  have A10 := Aside0.mk A100
  clear A100
  have H' := Aside0.mk H
  clear H
  go_enter Try.func19, Try.ntmps19
  go_wp2_with (first | ((with_reducible refine gate_callee (f := 18) rfl ?_); refine goesL_ (some 22) rfl rfl Try.func18 (by kernel_rfl) rfl #[.slice A0 l0.length c0, .slice A1 l1.length c1, .slice A2 l2.length c2] rfl MX ?_; (with_reducible refine (treemergeref32_Merge.calls k _ _ l0 _ _ l1 _ _ l2 t393 false _ ?side1 ?side2 ?side3 ?side4 ?side5 ?side6 A5.out).mono ?_); (case side1 => exact CX HR0.out); (case side2 => exact HC0.out); (case side3 => exact CX HR1.out); (case side4 => exact HC1.out); (case side5 => exact CX HR2.out); (case side6 => exact HC2.out); rintro e w11 ⟨v395, rfl, ho0, hb⟩; refine ⟨_, rfl, ?_⟩; have n0_ := Aside0.mk (Kd.R_lower ho0 (below_size (BX HB.out))); have n1_ := Aside0.mk (below_step (BX HB.out) hb); clear HB; have HO396 := n0_; have HB := n1_; clear n0_ n1_; (try clear hb); (try clear hb2); (try clear hk); (try clear hi); (try clear ho0)) | ((with_reducible refine gate_callee (f := 32) rfl ?_); refine goesL_ (some 32) rfl rfl Try.func32 (by kernel_rfl) rfl #[.slice A0 l0.length c0, .slice A1 l1.length c1, .slice A2 l2.length c2, .slice A3 l3.length c3] rfl MX ?_; (with_reducible refine (treemergeref32_parts.calls k _ _ l0 _ _ l1 _ _ l2 _ _ l3 t397 t398 _ ?side1 ?side2 ?side3 ?side4 ?side5 ?side6 ?side7 ?side8 A8.out).mono ?_); (case side1 => exact CX (Kd.C_below HR0.out HB.out)); (case side2 => exact HC0.out); (case side3 => exact CX (Kd.C_below HR1.out HB.out)); (case side4 => exact HC1.out); (case side5 => exact CX (Kd.C_below HR2.out HB.out)); (case side6 => exact HC2.out); (case side7 => exact CX (Kd.C_below HR3.out HB.out)); (case side8 => exact HC3.out); rintro e w12 ⟨v399, rfl, ho0, hb⟩; refine ⟨_, rfl, ?_⟩; have n0_ := Aside0.mk (Kd.R_elder' (RX HO396.out) (Kd.R_base ho0) hb); have n1_ := Aside0.mk (Kd.R_lower (Kd.R_new' ho0 (Kd.R_lt (RX HO396.out))) (below_size (BX HB.out))); have n2_ := Aside0.mk (below_step (BX HB.out) hb); clear HO396; clear HB; have HO396 := n0_; have HO400 := n1_; have HB := n2_; clear n0_ n1_ n2_; (try clear hb); (try clear hb2); (try clear hk); (try clear hi); (try clear ho0); obtain ⟨Ao13, co13, eo13⟩ := Kd.R_slice HO400.out; subst eo13) | ((with_reducible refine gate_callee (f := 22) rfl ?_); refine goesL_ (some 36) rfl rfl Try.func22 (by kernel_rfl) rfl #[.slice Ao13 t397.length co13] rfl MX ?_; (with_reducible refine (treemergeref32_Once.calls k _ _ t397 t401 _ ?side1 ?side2 A9.out).mono ?_); (case side1 => exact CX ((Kd.R_reads' HO400.out).2.2)); (case side2 => exact (Kd.R_reads' HO400.out).2.1); rintro e w14 ⟨v402, rfl, ho0, hb⟩; refine ⟨_, rfl, ?_⟩; have n0_ := Aside0.mk (Kd.R_elder' (RX HO396.out) (Kd.R_base ho0) hb); have n1_ := Aside0.mk (Kd.R_elder' (RX HO400.out) (Kd.R_base ho0) hb); have n2_ := Aside0.mk (Kd.R_lower (Kd.R_new' (Kd.R_new' ho0 (Kd.R_lt (RX HO396.out))) (Kd.R_lt (RX HO400.out))) (below_size (BX HB.out))); have n3_ := Aside0.mk (below_step (BX HB.out) hb); clear HO396; clear HO400; clear HB; have HO396 := n0_; have HO400 := n1_; have HO403 := n2_; have HB := n3_; clear n0_ n1_ n2_ n3_; (try clear hb); (try clear hb2); (try clear hk); (try clear hi); (try clear ho0)) | ((with_reducible refine gate_callee (f := 21) rfl ?_); refine goesL_ (some 40) rfl rfl Try.func21 (by kernel_rfl) rfl #[.slice A0 l0.length c0, .slice A1 l1.length c1, .slice A2 l2.length c2] rfl MX ?_; (with_reducible refine (treemergeref32_Kept.calls k _ _ l0 _ _ l1 _ _ l2 t404 _ ?side1 ?side2 ?side3 ?side4 ?side5 ?side6 A10.out).mono ?_); (case side1 => exact CX (Kd.C_below HR0.out HB.out)); (case side2 => exact HC0.out); (case side3 => exact CX (Kd.C_below HR1.out HB.out)); (case side4 => exact HC1.out); (case side5 => exact CX (Kd.C_below HR2.out HB.out)); (case side6 => exact HC2.out); rintro e w15 ⟨v405, rfl, ho0, hb⟩; refine ⟨_, rfl, ?_⟩; have n0_ := Aside0.mk (Kd.R_elder' (RX HO396.out) (Kd.R_base ho0) hb); have n1_ := Aside0.mk (Kd.R_elder' (RX HO400.out) (Kd.R_base ho0) hb); have n2_ := Aside0.mk (Kd.R_elder' (RX HO403.out) (Kd.R_base ho0) hb); have n3_ := Aside0.mk (Kd.R_lower (Kd.R_new' (Kd.R_new' (Kd.R_new' ho0 (Kd.R_lt (RX HO396.out))) (Kd.R_lt (RX HO400.out))) (Kd.R_lt (RX HO403.out))) (below_size (BX HB.out))); have n4_ := Aside0.mk (below_step (BX HB.out) hb); clear HO396; clear HO400; clear HO403; clear HB; have HO396 := n0_; have HO400 := n1_; have HO403 := n2_; have HO406 := n3_; have HB := n4_; clear n0_ n1_ n2_ n3_ n4_; (try clear hb); (try clear hb2); (try clear hk); (try clear hi); (try clear ho0)))
  go_loopg [16, 17] k (fun kq v16 v17 w' => ∃ (x16_1 : List Int) (x17_1 : Int), v17 = .int .i64 x17_1 ∧ Aside0 (treemergeref32_Free.l0 kq t401 t404 x16_1 x17_1 = some (r1, r2)) ∧ Aside0 (kq ≤ k) ∧ Aside0 (Kd.R (Kd.int .i64) 3 w' w.heap.size (fun k_ => some k_ ≠ (v405 : Value).ownBlock ∧ some k_ ≠ (v16 : Value).ownBlock) v402 t401) ∧ Aside0 (Kd.R (Kd.int .i64) 3 w' w.heap.size (fun k_ => some k_ ≠ (v402 : Value).ownBlock ∧ some k_ ≠ (v16 : Value).ownBlock) v405 t404) ∧ Aside0 (Kd.R (Kd.int .i64) 3 w' w.heap.size (fun k_ => some k_ ≠ (v402 : Value).ownBlock ∧ some k_ ≠ (v405 : Value).ownBlock) v16 x16_1) ∧ Aside0 (Below w.heap.size w w'))
  case atStart => exact ⟨(([] : List Int)), (0), SX, H', ⟨Nat.le_refl _⟩, ⟨by (with_reducible repeat (first | apply Kd.R_alloc | apply Kd.R_drewN | apply Kd.R_drew)); exact Kd.R_mono HO403.out (fun _ hk => ⟨hk.2, (by simp [Value.ownBlock])⟩)⟩, ⟨by (with_reducible repeat (first | apply Kd.R_alloc | apply Kd.R_drewN | apply Kd.R_drew)); exact Kd.R_mono HO406.out (fun _ hk => ⟨hk.2, (by simp [Value.ownBlock])⟩)⟩, ⟨NX⟩, ⟨BX HB.out⟩⟩
  case round =>
   clear H'
   try clear c1
   try clear c2
   try clear p2
   try clear c3
   try clear c6
   obtain ⟨x16_1, x17_1, rfl, HA, HK1, HO_14, HO_15, HO_16, HB⟩ := hrel
   cases gk with
   | zero => exact absurd HA.out (by simp [treemergeref32_Free.l0])
   | succ k1 =>
    have H := HA.out
    clear HA
    simp only [treemergeref32_Free.l0] at H
    by_cases c16 : x17_1 < (t404.length : Int)
    ·rw [if_pos c16] at H
     have c16b0 : decide (x17_1 < (t404.length : Int)) = true := decide_eq_true c16
     clear c16
     by_cases c17 : 0 ≤ x17_1
     ·rw [if_pos c17] at H
      have c17b0 : decide (0 ≤ x17_1) = true := decide_eq_true c17
      clear c17
      replace H := Option.bind_eq_some_iff.mp H
      obtain ⟨t411, A180, H⟩ := H
      have A18 := Aside0.mk A180
      clear A180
      by_cases c19 : t411 = true
      ·subst c19
       have H1 : (treemergeref32_Free.l0 k1 t401 t404 x16_1 (wrap64 (x17_1 + 1))) = some (r1, r2) := by rw [if_pos rfl] at H; exact H
       clear H
       have H := H1
       clear H1
       have H' := Aside0.mk H
       clear H
       obtain ⟨Ao20, co20, eo20⟩ := Kd.R_slice HO_15.out
       subst eo20
       have p410 : 0 ≤ (x17_1 : Int) := of_decide_eq_true AX
       have q410 : x17_1 < (t404.length : Int) := of_decide_eq_true AX
       obtain ⟨ad410, e410, hx410_0⟩ := Kd.at_int (Kd.R_reads' HO_15.out).2.2 x17_1 p410 q410
       cases e410
       replace p410 := eq_true p410
       replace q410 := eq_true q410
       obtain ⟨Ao21, co21, eo21⟩ := Kd.R_slice HO_14.out
       subst eo21
       go_wp2_with (first | ((with_reducible refine gate_callee (f := 17) rfl ?_); refine goesL_ (some 52) rfl rfl Try.func17 (by kernel_rfl) rfl #[.slice Ao21 t401.length co21, .int .i64 (rd t404 x17_1)] rfl MX ?_; (with_reducible refine (treemergeref32_Has.calls k1 _ _ t401 (rd t404 x17_1) true _ ?side1 ?side2 A18.out).mono ?_); (case side1 => exact CX ((Kd.R_reads' HO_14.out).2.2)); (case side2 => exact (Kd.R_reads' HO_14.out).2.1); rintro e w' ⟨rfl, ⟨nd, rfl⟩⟩; refine ⟨_, rfl, ?_⟩))
       go_roundg k1
       case measure => have := HK1.out; omega
       case rel => exact ⟨(x16_1), (wrap64 (x17_1 + 1)), SX, H', ⟨by have := HK1.out; omega⟩, ⟨RX HO_14.out⟩, ⟨RX HO_15.out⟩, ⟨RX HO_16.out⟩, ⟨BX HB.out⟩⟩
      ·replace c19 := Bool.eq_false_iff.mpr c19
       subst c19
       have H1 : ((treemergeref32_put.f k1 x16_1 (rd t404 x17_1)).bind fun t413 => (treemergeref32_Free.l0 k1 t401 t404 t413 (wrap64 (x17_1 + 1)))) = some (r1, r2) := by rw [if_neg (show ¬ (false = true) by decide)] at H; exact H
       clear H
       have H := H1
       clear H1
       replace H := Option.bind_eq_some_iff.mp H
       obtain ⟨t413, A220, H⟩ := H
       have A22 := Aside0.mk A220
       clear A220
       have H' := Aside0.mk H
       clear H
       obtain ⟨Ao23, co23, eo23⟩ := Kd.R_slice HO_15.out
       subst eo23
       have p410 : 0 ≤ (x17_1 : Int) := of_decide_eq_true AX
       have q410 : x17_1 < (t404.length : Int) := of_decide_eq_true AX
       obtain ⟨ad410, e410, hx410_0⟩ := Kd.at_int (Kd.R_reads' HO_15.out).2.2 x17_1 p410 q410
       cases e410
       replace p410 := eq_true p410
       replace q410 := eq_true q410
       obtain ⟨Ao24, co24, eo24⟩ := Kd.R_slice HO_14.out
       subst eo24
       go_wp2_with (first | ((with_reducible refine gate_callee (f := 17) rfl ?_); refine goesL_ (some 52) rfl rfl Try.func17 (by kernel_rfl) rfl #[.slice Ao24 t401.length co24, .int .i64 (rd t404 x17_1)] rfl MX ?_; (with_reducible refine (treemergeref32_Has.calls k1 _ _ t401 (rd t404 x17_1) false _ ?side1 ?side2 A18.out).mono ?_); (case side1 => exact CX ((Kd.R_reads' HO_14.out).2.2)); (case side2 => exact (Kd.R_reads' HO_14.out).2.1); rintro e w' ⟨rfl, ⟨nd, rfl⟩⟩; refine ⟨_, rfl, ?_⟩; have p412 : 0 ≤ (x17_1 : Int) := of_decide_eq_true AX; have q412 : x17_1 < (t404.length : Int) := of_decide_eq_true AX; obtain ⟨ad412, e412, hx412_0⟩ := Kd.at_int (Kd.R_reads' HO_15.out).2.2 x17_1 p412 q412; obtain rfl : ad410 = ad412 := (by injection e412); replace p412 := eq_true p412; replace q412 := eq_true q412; obtain ⟨Ao25, co25, eo25⟩ := Kd.R_slice HO_16.out; subst eo25) | ((with_reducible refine gate_callee (f := 33) rfl ?_); refine goesL_ (some 59) rfl rfl Try.func33 (by kernel_rfl) rfl #[.slice Ao25 x16_1.length co25, .int .i64 (rd t404 x17_1)] rfl MX ?_; (with_reducible refine (treemergeref32_put.calls k1 _ _ x16_1 (rd t404 x17_1) t413 _ ?side1 ?side2 A22.out).mono ?_); (case side1 => exact CX ((Kd.R_reads' HO_16.out).2.2)); (case side2 => exact (Kd.R_reads' HO_16.out).2.1); rintro e w26 ⟨v414, rfl, ho0, hb⟩; refine ⟨_, rfl, ?_⟩; have n0_ := Aside0.mk (Kd.R_elder' (RX HO_14.out) (Kd.R_base ho0) hb); have n1_ := Aside0.mk (Kd.R_elder' (RX HO_15.out) (Kd.R_base ho0) hb); have n2_ := Aside0.mk (Kd.R_elder' (RX HO_16.out) (Kd.R_base ho0) hb); have n3_ := Aside0.mk (Kd.R_lower (Kd.R_new' (Kd.R_new' (Kd.R_new' ho0 (Kd.R_lt (RX HO_14.out))) (Kd.R_lt (RX HO_15.out))) (Kd.R_lt (RX HO_16.out))) (below_size (BX HB.out))); have n4_ := Aside0.mk (below_step (BX HB.out) hb); clear HO_14; clear HO_15; clear HO_16; clear HB; have HO_14 := n0_; have HO_15 := n1_; have HO_16 := n2_; have HO415 := n3_; have HB := n4_; clear n0_ n1_ n2_ n3_ n4_; (try clear hb); (try clear hb2); (try clear hk); (try clear hi); (try clear ho0)))
       go_roundg k1
       case measure => have := HK1.out; omega
       case rel => exact ⟨(t413), (wrap64 (x17_1 + 1)), SX, H', ⟨by have := HK1.out; omega⟩, ⟨by (with_reducible repeat (first | apply Kd.R_alloc | apply Kd.R_drewN | apply Kd.R_drew)); exact Kd.R_mono HO_14.out (fun _ hk => ⟨hk.1.1, hk.2⟩)⟩, ⟨by (with_reducible repeat (first | apply Kd.R_alloc | apply Kd.R_drewN | apply Kd.R_drew)); exact Kd.R_mono HO_15.out (fun _ hk => ⟨hk.1.1, hk.2⟩)⟩, ⟨by (with_reducible repeat (first | apply Kd.R_alloc | apply Kd.R_drewN | apply Kd.R_drew)); exact Kd.R_mono HO415.out (fun _ hk => ⟨hk.1.1.2, hk.1.2⟩)⟩, ⟨BX HB.out⟩⟩
     ·rw [if_neg c17] at H
      exact absurd H (by simp)
    ·rw [if_neg c16] at H
     have c16b0 : decide (x17_1 < (t404.length : Int)) = false := decide_eq_false c16
     clear c16
     replace H := Option.bind_eq_some_iff.mp H
     obtain ⟨t407, A270, H⟩ := H
     have A27 := Aside0.mk A270
     clear A270
     simp only [Option.some.injEq, Prod.mk.injEq] at H
     obtain ⟨rfl, rfl⟩ := H
     obtain ⟨Ao28, co28, eo28⟩ := Kd.R_slice HO_15.out
     subst eo28
     obtain ⟨Ao29, co29, eo29⟩ := Kd.R_slice HO_14.out
     subst eo29
     obtain ⟨Ao30, co30, eo30⟩ := Kd.R_slice HO_16.out
     subst eo30
     go_wp2_with (first | ((with_reducible refine gate_callee (f := 34) rfl ?_); refine goesL_ (some 62) rfl rfl Try.func34 (by kernel_rfl) rfl #[.slice Ao29 t401.length co29, .slice Ao30 x16_1.length co30] rfl MX ?_; (with_reducible refine (treemergeref32_joined.calls k1 (fun k_ => some k_ = (.slice Ao29 t401.length co29 : Value).ownBlock) (.slice Ao29 t401.length co29) t401 _ _ x16_1 t407 w _ ?side1 ?side2 ?side3 ?side4 A27.out).mono ?_); (case side1 => repeat (first | (with_reducible first | exact HB.out | apply below_alloc | apply pw_below_drewN | apply below_drew1) | exact HB.out)); (case side2 => exact Kd.R_tight rfl HO_14.out); (case side3 => exact Kd.C_kept_own (HO_16.out) (fun k_ hk_ hs_ => (hk_.1) hs_)); (case side4 => exact (Kd.R_reads' HO_16.out).2.1); rintro e w31 ⟨v408, rfl, ho0, hb, hkp⟩; refine ⟨_, rfl, ?_⟩; have n0_ := Aside0.mk (Kd.R_mono (ok' := fun k_ => some k_ ≠ (.slice Ao30 x16_1.length co30 : Value).ownBlock ∧ some k_ ≠ (v408 : Value).ownBlock) (Kd.R_keptB (HO_15.out) hkp (fun k_ hk_ hs_ => (hk_.1) hs_)) (fun k_ hk_ => ⟨hk_.1.2, fun e_ => Or.elim (ho0.1 k_ e_.symm) (fun hs_ => hk_.2.1 hs_) (fun hn_ => Nat.not_le.2 hk_.2.2 hn_)⟩)); have n1_ := Aside0.mk (Kd.R_mono (ok' := fun k_ => some k_ ≠ (.slice Ao28 t404.length co28 : Value).ownBlock ∧ some k_ ≠ (v408 : Value).ownBlock) (Kd.R_keptB (HO_16.out) hkp (fun k_ hk_ hs_ => (hk_.1) hs_)) (fun k_ hk_ => ⟨hk_.1.2, fun e_ => Or.elim (ho0.1 k_ e_.symm) (fun hs_ => hk_.2.1 hs_) (fun hn_ => Nat.not_le.2 hk_.2.2 hn_)⟩)); have n2_ := Aside0.mk (Kd.R_mono (ok' := fun k_ => some k_ ≠ (.slice Ao28 t404.length co28 : Value).ownBlock ∧ some k_ ≠ (.slice Ao30 x16_1.length co30 : Value).ownBlock) ho0 (fun k_ hk_ => ⟨Or.elim hk_ (fun hs_ => fun e_ => (((HO_15.out).1 k_ e_.symm).1) hs_) (fun hn_ => (Kd.fresh' (Kd.R_lt (RX HO_15.out)) k_ hn_)), Or.elim hk_ (fun hs_ => fun e_ => (((HO_16.out).1 k_ e_.symm).1) hs_) (fun hn_ => (Kd.fresh' (Kd.R_lt (RX HO_16.out)) k_ hn_))⟩)); have n3_ := Aside0.mk (hb); clear HO_15; clear HO_16; clear HB; clear HO_14; have HO_15 := n0_; have HO_16 := n1_; have HO409 := n2_; have HB := n3_; clear n0_ n1_ n2_ n3_; (try clear hb); (try clear hkp); (try clear ho0)))
     go_ret2
     exact ⟨_, by first | rfl | (simp [errW_none, errW_some] <;> rfl) | (simp [*, errW_none, errW_some] <;> rfl), by (with_reducible repeat (first | apply Kd.R_alloc | apply Kd.R_drewN | apply Kd.R_drew)); exact Kd.R_mono HO409.out (fun _ hk => trivial), BX HB.out⟩

/-! ### treemergelaw32_SequenceFrees: function 6 -/
def treemergelaw32_SequenceFrees.j0 : Nat → List Int → List Int → List Int → List ByteArray → Bool → Option (Bool)
 | 0, _, _, _, _, _ => none
 | k + 1, x0, x1, x2, x3, x22 => if x22 = true then ((treemergelaw32_awake.f k).bind fun t418 => (some t418)) else ((sequence_Free.f k x0 x1 x2 x3).bind fun bt419 => ((treemergeref32_Free.f k x0 x1 x2 x3).bind fun bt423 => ((treemergelaw32_awake.f k).bind fun t427 => (if t427 = true then (if (bt419.2 == bt423.2) = true then ((treemergeref32_Equal.f k bt419.1 bt423.1).bind fun t428 => (some t428)) else (some false)) else (some false)))))
def treemergelaw32_SequenceFrees.f (k : Nat) (l0 : List Int) (l1 : List Int) (l2 : List Int) (l3 : List ByteArray) : Option (Bool) := (treemergelaw32_short.f l0 l1 l2).bind fun t416 => (if t416 = true then ((treemergeref03_Short.f k l3 60 100).bind fun t417 => (treemergelaw32_SequenceFrees.j0 k l0 l1 l2 l3 (!t417))) else (treemergelaw32_SequenceFrees.j0 k l0 l1 l2 l3 true))
theorem treemergelaw32_SequenceFrees.mono_l : ∀ k, (∀ y0 y1 y2 y3 y4, LeO (treemergelaw32_SequenceFrees.j0 k y0 y1 y2 y3 y4) (treemergelaw32_SequenceFrees.j0 (k + 1) y0 y1 y2 y3 y4))
 | 0 => fun _ _ _ _ _ r h => by simp [treemergelaw32_SequenceFrees.j0] at h
 | k + 1 => by
  have ih0 := treemergelaw32_SequenceFrees.mono_l k
  ·intro y0 y1 y2 y3 y4
   unfold treemergelaw32_SequenceFrees.j0
   repeat' first
   | (with_reducible exact ih0 _ _ _ _ _)
   | (with_reducible exact sequence_Free.mono _ _ _ _ _)
   | (with_reducible exact treemergelaw32_awake.mono _)
   | (with_reducible exact treemergeref03_Short.mono _ _ _ _)
   | (with_reducible exact treemergeref32_Equal.mono _ _ _)
   | (with_reducible exact treemergeref32_Free.mono _ _ _ _ _)
   | (with_reducible exact LeO.refl _)
   | (with_reducible exact LeO.none _)
   | (with_reducible refine LeO.ite ?_ ?_)
   | (with_reducible refine LeO.bind ?_ (fun _ => ?_))
theorem treemergelaw32_SequenceFrees.mono : ∀ a0 a1 a2 a3 k, LeO (treemergelaw32_SequenceFrees.f k a0 a1 a2 a3) (treemergelaw32_SequenceFrees.f (k + 1) a0 a1 a2 a3) := by
 intro a0 a1 a2 a3 k
 have ih0 := treemergelaw32_SequenceFrees.mono_l k
 unfold treemergelaw32_SequenceFrees.f
 repeat' first
   | (with_reducible exact ih0 _ _ _ _ _)
   | (with_reducible exact sequence_Free.mono _ _ _ _ _)
   | (with_reducible exact treemergelaw32_awake.mono _)
   | (with_reducible exact treemergeref03_Short.mono _ _ _ _)
   | (with_reducible exact treemergeref32_Equal.mono _ _ _)
   | (with_reducible exact treemergeref32_Free.mono _ _ _ _ _)
   | (with_reducible exact LeO.refl _)
   | (with_reducible exact LeO.none _)
   | (with_reducible refine LeO.ite ?_ ?_)
   | (with_reducible refine LeO.bind ?_ (fun _ => ?_))
set_option maxHeartbeats 8000000 in
set_option maxRecDepth 100000 in
theorem treemergelaw32_SequenceFrees.calls (k : Nat) (A0 : Option Addr) (c0 : Nat) (l0 : List Int) (A1 : Option Addr) (c1 : Nat) (l1 : List Int) (A2 : Option Addr) (c2 : Nat) (l2 : List Int) (A3 : Option Addr) (c3 : Nat) (l3 : List ByteArray) (r : Bool) (w : World) (hr0 : Kd.C (Kd.int .i64) w A0 l0.length l0) (hc0 : l0.length ≤ c0) (hr1 : Kd.C (Kd.int .i64) w A1 l1.length l1) (hc1 : l1.length ≤ c1) (hr2 : Kd.C (Kd.int .i64) w A2 l2.length l2) (hc2 : l2.length ≤ c2) (hr3 : Kd.C Kd.string w A3 l3.length l3) (hc3 : l3.length ≤ c3) (h : treemergelaw32_SequenceFrees.f k l0 l1 l2 l3 = some r) :
  Calls Try.prog 6 #[.slice A0 l0.length c0, .slice A1 l1.length c1, .slice A2 l2.length c2, .slice A3 l3.length c3] w fun e w' => e = .returned (.bool r) ∧ Below w.heap.size w w' := by
 have HR0 := Aside0.mk hr0
 have HC0 := Aside0.mk hc0
 clear hr0 hc0
 have HR1 := Aside0.mk hr1
 have HC1 := Aside0.mk hc1
 clear hr1 hc1
 have HR2 := Aside0.mk hr2
 have HC2 := Aside0.mk hc2
 clear hr2 hc2
 have HR3 := Aside0.mk hr3
 have HC3 := Aside0.mk hc3
 clear hr3 hc3
 have HB := Aside0.mk (Below.refl w.heap.size w)
 have H : ((treemergelaw32_short.f l0 l1 l2).bind fun t416 => (if t416 = true then ((treemergeref03_Short.f k l3 60 100).bind fun t417 => (treemergelaw32_SequenceFrees.j0 k l0 l1 l2 l3 (!t417))) else (treemergelaw32_SequenceFrees.j0 k l0 l1 l2 l3 true))) = some r := h
 clear h
 have HC5 := Aside0.mk H
 clear H
 go_enter Try.func6, Try.ntmps6
 go_upto_region 1 with (fail)
 go_cut [22] (fun v22 wc => ∃ (kq : Nat) (x22_4 : Bool), v22 = .bool x22_4 ∧ Aside0 (treemergelaw32_SequenceFrees.j0 kq l0 l1 l2 l3 x22_4 = some r) ∧ Aside0 (kq ≤ k) ∧ Aside0 (Below w.heap.size w wc))
 case first =>
  have H := HC5.out
  clear HC5
  replace H := Option.bind_eq_some_iff.mp H
  obtain ⟨t416, A60, H⟩ := H
  have A6 := Aside0.mk A60
  clear A60
  by_cases c7 : t416 = true
  ·subst c7
   have H1 : ((treemergeref03_Short.f k l3 60 100).bind fun t417 => (treemergelaw32_SequenceFrees.j0 k l0 l1 l2 l3 (!t417))) = some r := by rw [if_pos rfl] at H; exact H
   clear H
   have H := H1
   clear H1
   replace H := Option.bind_eq_some_iff.mp H
   obtain ⟨t417, A80, H⟩ := H
   have A8 := Aside0.mk A80
   clear A80
   have H' := Aside0.mk H
   clear H
   go_wp2_with (first | ((with_reducible refine gate_callee (f := 10) rfl ?_); refine goesL_ (some 16) rfl rfl Try.func10 (by kernel_rfl) rfl #[.slice A0 l0.length c0, .slice A1 l1.length c1, .slice A2 l2.length c2] rfl MX ?_; (with_reducible refine (treemergelaw32_short.calls _ _ l0 _ _ l1 _ _ l2 true _ ?side1 ?side2 ?side3 ?side4 ?side5 ?side6 A6.out).mono ?_); (case side1 => exact CX (Kd.C_below HR0.out HB.out)); (case side2 => exact HC0.out); (case side3 => exact CX (Kd.C_below HR1.out HB.out)); (case side4 => exact HC1.out); (case side5 => exact CX (Kd.C_below HR2.out HB.out)); (case side6 => exact HC2.out); rintro e w' ⟨rfl, ⟨nd, rfl⟩⟩; refine ⟨_, rfl, ?_⟩) | (go_at_call 11; (with_reducible refine (treemergeref03_Short.calls k _ _ l3 60 100 t417 _ ?side1 ?side2 A8.out).mono ?_); (case side1 => exact CX (Kd.C_below HR3.out (BX HB.out))); (case side2 => exact HC3.out); rintro e w' ⟨rfl, ⟨nd, rfl⟩⟩))
   go_meet
   case rel => exact ⟨_, (!t417), SX, H', ⟨by first | omega | exact Nat.le_refl _⟩, ⟨BX HB.out⟩⟩
  ·replace c7 := Bool.eq_false_iff.mpr c7
   subst c7
   have H1 : (treemergelaw32_SequenceFrees.j0 k l0 l1 l2 l3 true) = some r := by rw [if_neg (show ¬ (false = true) by decide)] at H; exact H
   clear H
   have H := H1
   clear H1
   have H' := Aside0.mk H
   clear H
   go_wp2_with (first | ((with_reducible refine gate_callee (f := 10) rfl ?_); refine goesL_ (some 16) rfl rfl Try.func10 (by kernel_rfl) rfl #[.slice A0 l0.length c0, .slice A1 l1.length c1, .slice A2 l2.length c2] rfl MX ?_; (with_reducible refine (treemergelaw32_short.calls _ _ l0 _ _ l1 _ _ l2 false _ ?side1 ?side2 ?side3 ?side4 ?side5 ?side6 A6.out).mono ?_); (case side1 => exact CX (Kd.C_below HR0.out HB.out)); (case side2 => exact HC0.out); (case side3 => exact CX (Kd.C_below HR1.out HB.out)); (case side4 => exact HC1.out); (case side5 => exact CX (Kd.C_below HR2.out HB.out)); (case side6 => exact HC2.out); rintro e w' ⟨rfl, ⟨nd, rfl⟩⟩; refine ⟨_, rfl, ?_⟩))
   go_meet
   case rel => exact ⟨_, (true), SX, H', ⟨by first | omega | exact Nat.le_refl _⟩, ⟨BX HB.out⟩⟩
 case rest =>
  clear HC5
  try clear c1
  try clear c2
  try clear p2
  try clear c3
  try clear c6
  try clear c7
  obtain ⟨kq, x22_4, rfl, HA, HJ4, HB⟩ := hcut
  cases kq with
  | zero => exact absurd HA.out (by simp [treemergelaw32_SequenceFrees.j0])
  | succ kj4 =>
   have H := HA.out
   clear HA
   simp only [treemergelaw32_SequenceFrees.j0] at H
   by_cases c9 : x22_4 = true
   ·subst c9
    have H1 : ((treemergelaw32_awake.f kj4).bind fun t418 => (some t418)) = some r := by rw [if_pos rfl] at H; exact H
    clear H
    have H := H1
    clear H1
    replace H := Option.bind_eq_some_iff.mp H
    obtain ⟨t418, A100, H⟩ := H
    have A10 := Aside0.mk A100
    clear A100
    obtain rfl := Option.some.inj H
    go_wp2_with (first | ((with_reducible refine gate_callee (f := 12) rfl ?_); refine goesL_ (some 23) rfl rfl Try.func12 (by kernel_rfl) rfl #[] rfl MX ?_; (with_reducible refine (treemergelaw32_awake.calls kj4  t418 _ A10.out).mono ?_); rintro e w11 ⟨rfl, hb⟩; refine ⟨_, rfl, ?_⟩; have n0_ := Aside0.mk (below_step (BX HB.out) hb); clear HB; have HB := n0_; clear n0_; (try clear hb); (try clear hb2); (try clear hk); (try clear hi)))
    go_ret
    exact ⟨by first | rfl | (simp [errW_none, errW_some] <;> rfl) | (simp [*, errW_none, errW_some] <;> rfl), BX HB.out⟩
   ·replace c9 := Bool.eq_false_iff.mpr c9
    subst c9
    have H1 : ((sequence_Free.f kj4 l0 l1 l2 l3).bind fun bt419 => ((treemergeref32_Free.f kj4 l0 l1 l2 l3).bind fun bt423 => ((treemergelaw32_awake.f kj4).bind fun t427 => (if t427 = true then (if (bt419.2 == bt423.2) = true then ((treemergeref32_Equal.f kj4 bt419.1 bt423.1).bind fun t428 => (some t428)) else (some false)) else (some false))))) = some r := by rw [if_neg (show ¬ (false = true) by decide)] at H; exact H
    clear H
    have H := H1
    clear H1
    replace H := Option.bind_eq_some_iff.mp H
    obtain ⟨⟨t419, t420⟩, A120, H⟩ := H
    replace H : ((treemergeref32_Free.f kj4 l0 l1 l2 l3).bind fun bt423 => ((treemergelaw32_awake.f kj4).bind fun t427 => (if t427 = true then (if (t420 == bt423.2) = true then ((treemergeref32_Equal.f kj4 t419 bt423.1).bind fun t428 => (some t428)) else (some false)) else (some false)))) = some r := H
    have A12 := Aside0.mk A120
    clear A120
    replace H := Option.bind_eq_some_iff.mp H
    obtain ⟨⟨t423, t424⟩, A130, H⟩ := H
    replace H : ((treemergelaw32_awake.f kj4).bind fun t427 => (if t427 = true then (if (t420 == t424) = true then ((treemergeref32_Equal.f kj4 t419 t423).bind fun t428 => (some t428)) else (some false)) else (some false))) = some r := H
    have A13 := Aside0.mk A130
    clear A130
    replace H := Option.bind_eq_some_iff.mp H
    obtain ⟨t427, A140, H⟩ := H
    have A14 := Aside0.mk A140
    clear A140
    by_cases c15 : t427 = true
    ·subst c15
     have H1 : (if (t420 == t424) = true then ((treemergeref32_Equal.f kj4 t419 t423).bind fun t428 => (some t428)) else (some false)) = some r := by rw [if_pos rfl] at H; exact H
     clear H
     have H := H1
     clear H1
     by_cases c16 : (t420 == t424) = true
     ·rw [if_pos c16] at H
      have c16b0 : (t420 == t424) = true := c16
      (try (have c16b1 : decide (t420 = t424) = true := by simpa using c16))
      (try (have c16b2 : (t420 == t424) = true := by simpa using c16))
      clear c16
      replace H := Option.bind_eq_some_iff.mp H
      obtain ⟨t428, A170, H⟩ := H
      have A17 := Aside0.mk A170
      clear A170
      obtain rfl := Option.some.inj H
      go_wp2_with (first | ((with_reducible refine gate_callee (f := 14) rfl ?_); refine goesL_ (some 29) rfl rfl Try.func14 (by kernel_rfl) rfl #[.slice A0 l0.length c0, .slice A1 l1.length c1, .slice A2 l2.length c2, .slice A3 l3.length c3] rfl MX ?_; (with_reducible refine (sequence_Free.calls kj4 _ _ l0 _ _ l1 _ _ l2 _ _ l3 t419 t420 _ ?side1 ?side2 ?side3 ?side4 ?side5 ?side6 ?side7 ?side8 A12.out).mono ?_); (case side1 => exact CX (Kd.C_below HR0.out HB.out)); (case side2 => exact HC0.out); (case side3 => exact CX (Kd.C_below HR1.out HB.out)); (case side4 => exact HC1.out); (case side5 => exact CX (Kd.C_below HR2.out HB.out)); (case side6 => exact HC2.out); (case side7 => exact CX (Kd.C_below HR3.out HB.out)); (case side8 => exact HC3.out); rintro e w18 ⟨v421, rfl, ho0, hb⟩; refine ⟨_, rfl, ?_⟩; have n0_ := Aside0.mk (Kd.R_lower ho0 (below_size (BX HB.out))); have n1_ := Aside0.mk (below_step (BX HB.out) hb); clear HB; have HO422 := n0_; have HB := n1_; clear n0_ n1_; (try clear hb); (try clear hb2); (try clear hk); (try clear hi); (try clear ho0)) | ((with_reducible refine gate_callee (f := 19) rfl ?_); refine goesL_ (some 37) rfl rfl Try.func19 (by kernel_rfl) rfl #[.slice A0 l0.length c0, .slice A1 l1.length c1, .slice A2 l2.length c2, .slice A3 l3.length c3] rfl MX ?_; (with_reducible refine (treemergeref32_Free.calls kj4 _ _ l0 _ _ l1 _ _ l2 _ _ l3 t423 t424 _ ?side1 ?side2 ?side3 ?side4 ?side5 ?side6 ?side7 ?side8 A13.out).mono ?_); (case side1 => exact CX (Kd.C_below HR0.out HB.out)); (case side2 => exact HC0.out); (case side3 => exact CX (Kd.C_below HR1.out HB.out)); (case side4 => exact HC1.out); (case side5 => exact CX (Kd.C_below HR2.out HB.out)); (case side6 => exact HC2.out); (case side7 => exact CX (Kd.C_below HR3.out HB.out)); (case side8 => exact HC3.out); rintro e w19 ⟨v425, rfl, ho0, hb⟩; refine ⟨_, rfl, ?_⟩; have n0_ := Aside0.mk (Kd.R_elder' (RX HO422.out) (Kd.R_base ho0) hb); have n1_ := Aside0.mk (Kd.R_lower (Kd.R_new' ho0 (Kd.R_lt (RX HO422.out))) (below_size (BX HB.out))); have n2_ := Aside0.mk (below_step (BX HB.out) hb); clear HO422; clear HB; have HO422 := n0_; have HO426 := n1_; have HB := n2_; clear n0_ n1_ n2_; (try clear hb); (try clear hb2); (try clear hk); (try clear hi); (try clear ho0)) | ((with_reducible refine gate_callee (f := 12) rfl ?_); refine goesL_ (some 40) rfl rfl Try.func12 (by kernel_rfl) rfl #[] rfl MX ?_; (with_reducible refine (treemergelaw32_awake.calls kj4  true _ A14.out).mono ?_); rintro e w20 ⟨rfl, hb⟩; refine ⟨_, rfl, ?_⟩; have n0_ := Aside0.mk (Kd.R_below (RX HO422.out) hb); have n1_ := Aside0.mk (Kd.R_below (RX HO426.out) hb); have n2_ := Aside0.mk (below_step (BX HB.out) hb); clear HO422; clear HO426; clear HB; have HO422 := n0_; have HO426 := n1_; have HB := n2_; clear n0_ n1_ n2_; (try clear hb); (try clear hb2); (try clear hk); (try clear hi); obtain ⟨Ao21, co21, eo21⟩ := Kd.R_slice HO422.out; subst eo21; obtain ⟨Ao22, co22, eo22⟩ := Kd.R_slice HO426.out; subst eo22) | (go_at_call 16; (with_reducible refine (treemergeref32_Equal.calls kj4 _ _ t419 _ _ t423 t428 _ ?side1 ?side2 ?side3 ?side4 A17.out).mono ?_); (case side1 => exact CX ((Kd.R_reads' HO422.out).2.2)); (case side2 => exact (Kd.R_reads' HO422.out).2.1); (case side3 => exact CX ((Kd.R_reads' HO426.out).2.2)); (case side4 => exact (Kd.R_reads' HO426.out).2.1); rintro e w' ⟨rfl, ⟨nd, rfl⟩⟩))
      go_ret
      exact ⟨by first | rfl | (simp [errW_none, errW_some] <;> rfl) | (simp [*, errW_none, errW_some] <;> rfl), BX HB.out⟩
     ·rw [if_neg c16] at H
      have c16b0 : (t420 == t424) = false := by simpa using c16
      (try (have c16b1 : decide (t420 = t424) = false := by simpa using c16))
      (try (have c16b2 : (t420 == t424) = false := by simpa using c16))
      (try (have c16b3 : ¬ (t420 = t424) := by simpa using c16))
      clear c16
      obtain rfl := Option.some.inj H
      go_wp2_with (first | ((with_reducible refine gate_callee (f := 14) rfl ?_); refine goesL_ (some 29) rfl rfl Try.func14 (by kernel_rfl) rfl #[.slice A0 l0.length c0, .slice A1 l1.length c1, .slice A2 l2.length c2, .slice A3 l3.length c3] rfl MX ?_; (with_reducible refine (sequence_Free.calls kj4 _ _ l0 _ _ l1 _ _ l2 _ _ l3 t419 t420 _ ?side1 ?side2 ?side3 ?side4 ?side5 ?side6 ?side7 ?side8 A12.out).mono ?_); (case side1 => exact CX (Kd.C_below HR0.out HB.out)); (case side2 => exact HC0.out); (case side3 => exact CX (Kd.C_below HR1.out HB.out)); (case side4 => exact HC1.out); (case side5 => exact CX (Kd.C_below HR2.out HB.out)); (case side6 => exact HC2.out); (case side7 => exact CX (Kd.C_below HR3.out HB.out)); (case side8 => exact HC3.out); rintro e w23 ⟨v421, rfl, ho0, hb⟩; refine ⟨_, rfl, ?_⟩; have n0_ := Aside0.mk (Kd.R_lower ho0 (below_size (BX HB.out))); have n1_ := Aside0.mk (below_step (BX HB.out) hb); clear HB; have HO422 := n0_; have HB := n1_; clear n0_ n1_; (try clear hb); (try clear hb2); (try clear hk); (try clear hi); (try clear ho0)) | ((with_reducible refine gate_callee (f := 19) rfl ?_); refine goesL_ (some 37) rfl rfl Try.func19 (by kernel_rfl) rfl #[.slice A0 l0.length c0, .slice A1 l1.length c1, .slice A2 l2.length c2, .slice A3 l3.length c3] rfl MX ?_; (with_reducible refine (treemergeref32_Free.calls kj4 _ _ l0 _ _ l1 _ _ l2 _ _ l3 t423 t424 _ ?side1 ?side2 ?side3 ?side4 ?side5 ?side6 ?side7 ?side8 A13.out).mono ?_); (case side1 => exact CX (Kd.C_below HR0.out HB.out)); (case side2 => exact HC0.out); (case side3 => exact CX (Kd.C_below HR1.out HB.out)); (case side4 => exact HC1.out); (case side5 => exact CX (Kd.C_below HR2.out HB.out)); (case side6 => exact HC2.out); (case side7 => exact CX (Kd.C_below HR3.out HB.out)); (case side8 => exact HC3.out); rintro e w24 ⟨v425, rfl, ho0, hb⟩; refine ⟨_, rfl, ?_⟩; have n0_ := Aside0.mk (Kd.R_elder' (RX HO422.out) (Kd.R_base ho0) hb); have n1_ := Aside0.mk (Kd.R_lower (Kd.R_new' ho0 (Kd.R_lt (RX HO422.out))) (below_size (BX HB.out))); have n2_ := Aside0.mk (below_step (BX HB.out) hb); clear HO422; clear HB; have HO422 := n0_; have HO426 := n1_; have HB := n2_; clear n0_ n1_ n2_; (try clear hb); (try clear hb2); (try clear hk); (try clear hi); (try clear ho0)) | ((with_reducible refine gate_callee (f := 12) rfl ?_); refine goesL_ (some 40) rfl rfl Try.func12 (by kernel_rfl) rfl #[] rfl MX ?_; (with_reducible refine (treemergelaw32_awake.calls kj4  true _ A14.out).mono ?_); rintro e w25 ⟨rfl, hb⟩; refine ⟨_, rfl, ?_⟩; have n0_ := Aside0.mk (Kd.R_below (RX HO422.out) hb); have n1_ := Aside0.mk (Kd.R_below (RX HO426.out) hb); have n2_ := Aside0.mk (below_step (BX HB.out) hb); clear HO422; clear HO426; clear HB; have HO422 := n0_; have HO426 := n1_; have HB := n2_; clear n0_ n1_ n2_; (try clear hb); (try clear hb2); (try clear hk); (try clear hi)))
      go_ret
      exact ⟨by first | rfl | (simp [errW_none, errW_some] <;> rfl) | (simp [*, errW_none, errW_some] <;> rfl), BX HB.out⟩
    ·replace c15 := Bool.eq_false_iff.mpr c15
     subst c15
     have H1 : (some false) = some r := by rw [if_neg (show ¬ (false = true) by decide)] at H; exact H
     clear H
     have H := H1
     clear H1
     obtain rfl := Option.some.inj H
     go_wp2_with (first | ((with_reducible refine gate_callee (f := 14) rfl ?_); refine goesL_ (some 29) rfl rfl Try.func14 (by kernel_rfl) rfl #[.slice A0 l0.length c0, .slice A1 l1.length c1, .slice A2 l2.length c2, .slice A3 l3.length c3] rfl MX ?_; (with_reducible refine (sequence_Free.calls kj4 _ _ l0 _ _ l1 _ _ l2 _ _ l3 t419 t420 _ ?side1 ?side2 ?side3 ?side4 ?side5 ?side6 ?side7 ?side8 A12.out).mono ?_); (case side1 => exact CX (Kd.C_below HR0.out HB.out)); (case side2 => exact HC0.out); (case side3 => exact CX (Kd.C_below HR1.out HB.out)); (case side4 => exact HC1.out); (case side5 => exact CX (Kd.C_below HR2.out HB.out)); (case side6 => exact HC2.out); (case side7 => exact CX (Kd.C_below HR3.out HB.out)); (case side8 => exact HC3.out); rintro e w26 ⟨v421, rfl, ho0, hb⟩; refine ⟨_, rfl, ?_⟩; have n0_ := Aside0.mk (Kd.R_lower ho0 (below_size (BX HB.out))); have n1_ := Aside0.mk (below_step (BX HB.out) hb); clear HB; have HO422 := n0_; have HB := n1_; clear n0_ n1_; (try clear hb); (try clear hb2); (try clear hk); (try clear hi); (try clear ho0)) | ((with_reducible refine gate_callee (f := 19) rfl ?_); refine goesL_ (some 37) rfl rfl Try.func19 (by kernel_rfl) rfl #[.slice A0 l0.length c0, .slice A1 l1.length c1, .slice A2 l2.length c2, .slice A3 l3.length c3] rfl MX ?_; (with_reducible refine (treemergeref32_Free.calls kj4 _ _ l0 _ _ l1 _ _ l2 _ _ l3 t423 t424 _ ?side1 ?side2 ?side3 ?side4 ?side5 ?side6 ?side7 ?side8 A13.out).mono ?_); (case side1 => exact CX (Kd.C_below HR0.out HB.out)); (case side2 => exact HC0.out); (case side3 => exact CX (Kd.C_below HR1.out HB.out)); (case side4 => exact HC1.out); (case side5 => exact CX (Kd.C_below HR2.out HB.out)); (case side6 => exact HC2.out); (case side7 => exact CX (Kd.C_below HR3.out HB.out)); (case side8 => exact HC3.out); rintro e w27 ⟨v425, rfl, ho0, hb⟩; refine ⟨_, rfl, ?_⟩; have n0_ := Aside0.mk (Kd.R_elder' (RX HO422.out) (Kd.R_base ho0) hb); have n1_ := Aside0.mk (Kd.R_lower (Kd.R_new' ho0 (Kd.R_lt (RX HO422.out))) (below_size (BX HB.out))); have n2_ := Aside0.mk (below_step (BX HB.out) hb); clear HO422; clear HB; have HO422 := n0_; have HO426 := n1_; have HB := n2_; clear n0_ n1_ n2_; (try clear hb); (try clear hb2); (try clear hk); (try clear hi); (try clear ho0)) | ((with_reducible refine gate_callee (f := 12) rfl ?_); refine goesL_ (some 40) rfl rfl Try.func12 (by kernel_rfl) rfl #[] rfl MX ?_; (with_reducible refine (treemergelaw32_awake.calls kj4  false _ A14.out).mono ?_); rintro e w28 ⟨rfl, hb⟩; refine ⟨_, rfl, ?_⟩; have n0_ := Aside0.mk (Kd.R_below (RX HO422.out) hb); have n1_ := Aside0.mk (Kd.R_below (RX HO426.out) hb); have n2_ := Aside0.mk (below_step (BX HB.out) hb); clear HO422; clear HO426; clear HB; have HO422 := n0_; have HO426 := n1_; have HB := n2_; clear n0_ n1_ n2_; (try clear hb); (try clear hb2); (try clear hk); (try clear hi)))
     go_ret
     exact ⟨by first | rfl | (simp [errW_none, errW_some] <;> rfl) | (simp [*, errW_none, errW_some] <;> rfl), BX HB.out⟩

end Go.Proofs.Ytdbgdkbpamekpaa.Q
