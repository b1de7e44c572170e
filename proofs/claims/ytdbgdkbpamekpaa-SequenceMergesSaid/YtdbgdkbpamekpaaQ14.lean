-- Written by a program of this session (mk.py) out of the translation; Lean checks it.
import Derived.Test.YtdbgdkbpamekpaaQ0
import Derived.Test.YtdbgdkbpamekpaaQ1
import Derived.Test.YtdbgdkbpamekpaaQ6
import Derived.Test.YtdbgdkbpamekpaaQ7
import Derived.Test.YtdbgdkbpamekpaaQ13
namespace Go.Proofs.Ytdbgdkbpamekpaa.Q
open Go.RowKit Go.Proofs.YtdbgdkbpamekpaaW.PrintWords Go.Proofs.YtdbgdkbpamekpaaW.PrintLast Go.Proofs.YtdbgdkbpamekpaaW.PrintMore
attribute [local go_sem] max2_int min2_int max_two min_two max_three min_three max_four min_four   -- for this text's walks alone
set_option linter.unusedVariables false
set_option linter.unusedSimpArgs false

/-! ### treemergelaw32_SequenceMerges: function 5 -/
def treemergelaw32_SequenceMerges.f (k : Nat) (l0 : List Int) (l1 : List Int) (l2 : List Int) : Option (Bool) := (treemergelaw32_short.f l0 l1 l2).bind fun t392 => (if t392 = true then ((sequence_Merge.f k l0 l1 l2).bind fun bt394 => ((treemergeref32_Merge.f k l0 l1 l2).bind fun bt398 => ((treemergelaw32_awake.f k).bind fun t402 => (if t402 = true then (if (bt394.2 == bt398.2) = true then ((treemergeref32_Equal.f k bt394.1 bt398.1).bind fun t403 => (some t403)) else (some false)) else (some false))))) else ((treemergelaw32_awake.f k).bind fun t393 => (some t393)))
theorem treemergelaw32_SequenceMerges.mono : ∀ a0 a1 a2 k, LeO (treemergelaw32_SequenceMerges.f k a0 a1 a2) (treemergelaw32_SequenceMerges.f (k + 1) a0 a1 a2) := by
 intro a0 a1 a2 k
 unfold treemergelaw32_SequenceMerges.f
 repeat' first
   | (with_reducible exact sequence_Merge.mono _ _ _ _)
   | (with_reducible exact treemergelaw32_awake.mono _)
   | (with_reducible exact treemergeref32_Equal.mono _ _ _)
   | (with_reducible exact treemergeref32_Merge.mono _ _ _ _)
   | (with_reducible exact LeO.refl _)
   | (with_reducible exact LeO.none _)
   | (with_reducible refine LeO.ite ?_ ?_)
   | (with_reducible refine LeO.bind ?_ (fun _ => ?_))
   | exact sequence_Merge.mono _ _ _ _
   | exact treemergelaw32_awake.mono _
   | exact treemergeref32_Equal.mono _ _ _
   | exact treemergeref32_Merge.mono _ _ _ _
   | exact LeO.none _
   | refine LeO.ite ?_ ?_
   | refine LeO.bind ?_ (fun _ => ?_)
set_option maxHeartbeats 8000000 in
set_option maxRecDepth 100000 in
theorem treemergelaw32_SequenceMerges.calls (k : Nat) (A0 : Option Addr) (c0 : Nat) (l0 : List Int) (A1 : Option Addr) (c1 : Nat) (l1 : List Int) (A2 : Option Addr) (c2 : Nat) (l2 : List Int) (r : Bool) (w : World) (hr0 : Kd.C (Kd.int .i64) w A0 l0.length l0) (hc0 : l0.length ≤ c0) (hr1 : Kd.C (Kd.int .i64) w A1 l1.length l1) (hc1 : l1.length ≤ c1) (hr2 : Kd.C (Kd.int .i64) w A2 l2.length l2) (hc2 : l2.length ≤ c2) (h : treemergelaw32_SequenceMerges.f k l0 l1 l2 = some r) :
  Calls Try.prog 5 #[.slice A0 l0.length c0, .slice A1 l1.length c1, .slice A2 l2.length c2] w fun e w' => e = .returned (.bool r) ∧ Below w.heap.size w w' := by
 have HR0 := Aside0.mk hr0
 have HC0 := Aside0.mk hc0
 clear hr0 hc0
 have HR1 := Aside0.mk hr1
 have HC1 := Aside0.mk hc1
 clear hr1 hc1
 have HR2 := Aside0.mk hr2
 have HC2 := Aside0.mk hc2
 clear hr2 hc2
 have HB := Aside0.mk (Below.refl w.heap.size w)
 have H : ((treemergelaw32_short.f l0 l1 l2).bind fun t392 => (if t392 = true then ((sequence_Merge.f k l0 l1 l2).bind fun bt394 => ((treemergeref32_Merge.f k l0 l1 l2).bind fun bt398 => ((treemergelaw32_awake.f k).bind fun t402 => (if t402 = true then (if (bt394.2 == bt398.2) = true then ((treemergeref32_Equal.f k bt394.1 bt398.1).bind fun t403 => (some t403)) else (some false)) else (some false))))) else ((treemergelaw32_awake.f k).bind fun t393 => (some t393)))) = some r := h
 clear h
 replace H := Option.bind_eq_some_iff.mp H
 obtain ⟨t392, A40, H⟩ := H
 replace H : (if t392 = true then ((sequence_Merge.f k l0 l1 l2).bind fun bt394 => ((treemergeref32_Merge.f k l0 l1 l2).bind fun bt398 => ((treemergelaw32_awake.f k).bind fun t402 => (if t402 = true then (if (bt394.2 == bt398.2) = true then ((treemergeref32_Equal.f k bt394.1 bt398.1).bind fun t403 => (some t403)) else (some false)) else (some false))))) else ((treemergelaw32_awake.f k).bind fun t393 => (some t393))) = some r := H
 have A4 := Aside0.mk A40
 clear A40
 by_cases c5 : t392 = true
 ·subst c5
  have H1 : ((sequence_Merge.f k l0 l1 l2).bind fun bt394 => ((treemergeref32_Merge.f k l0 l1 l2).bind fun bt398 => ((treemergelaw32_awake.f k).bind fun t402 => (if t402 = true then (if (bt394.2 == bt398.2) = true then ((treemergeref32_Equal.f k bt394.1 bt398.1).bind fun t403 => (some t403)) else (some false)) else (some false))))) = some r := by rw [if_pos rfl] at H; exact H
  clear H
  have H := H1
  clear H1
  replace H := Option.bind_eq_some_iff.mp H
  obtain ⟨⟨t394, t395⟩, A60, H⟩ := H
  replace H : ((treemergeref32_Merge.f k l0 l1 l2).bind fun bt398 => ((treemergelaw32_awake.f k).bind fun t402 => (if t402 = true then (if (t395 == bt398.2) = true then ((treemergeref32_Equal.f k t394 bt398.1).bind fun t403 => (some t403)) else (some false)) else (some false)))) = some r := H
  have A6 := Aside0.mk A60
  clear A60
  replace H := Option.bind_eq_some_iff.mp H
  obtain ⟨⟨t398, t399⟩, A70, H⟩ := H
  replace H : ((treemergelaw32_awake.f k).bind fun t402 => (if t402 = true then (if (t395 == t399) = true then ((treemergeref32_Equal.f k t394 t398).bind fun t403 => (some t403)) else (some false)) else (some false))) = some r := H
  have A7 := Aside0.mk A70
  clear A70
  replace H := Option.bind_eq_some_iff.mp H
  obtain ⟨t402, A80, H⟩ := H
  replace H : (if t402 = true then (if (t395 == t399) = true then ((treemergeref32_Equal.f k t394 t398).bind fun t403 => (some t403)) else (some false)) else (some false)) = some r := H
  have A8 := Aside0.mk A80
  clear A80
  by_cases c9 : t402 = true
  ·subst c9
   have H1 : (if (t395 == t399) = true then ((treemergeref32_Equal.f k t394 t398).bind fun t403 => (some t403)) else (some false)) = some r := by rw [if_pos rfl] at H; exact H
   clear H
   have H := H1
   clear H1
   by_cases c10 : (t395 == t399) = true
   ·rw [if_pos c10] at H
    have c10b0 : (t395 == t399) = true := c10
    (try (have c10b1 : decide (t395 = t399) = true := by simpa using c10))
    (try (have c10b2 : (t395 == t399) = true := by simpa using c10))
    clear c10
    replace H := Option.bind_eq_some_iff.mp H
    obtain ⟨t403, A110, H⟩ := H
    replace H : (some t403) = some r := H
    have A11 := Aside0.mk A110
    clear A110
    obtain rfl := Option.some.inj H
    go_enter Try.func5, Try.ntmps5
    go_wp2_with (first | ((with_reducible refine gate_callee (f := 10) rfl ?_); refine goesL_ (some 14) rfl rfl Try.func10 (by kernel_rfl) rfl #[.slice A0 l0.length c0, .slice A1 l1.length c1, .slice A2 l2.length c2] rfl MX ?_; (with_reducible refine (treemergelaw32_short.calls _ _ l0 _ _ l1 _ _ l2 true _ ?side1 ?side2 ?side3 ?side4 ?side5 ?side6 A4.out).mono ?_); (case side1 => exact CX HR0.out); (case side2 => exact HC0.out); (case side3 => exact CX HR1.out); (case side4 => exact HC1.out); (case side5 => exact CX HR2.out); (case side6 => exact HC2.out); rintro e w' ⟨rfl, ⟨nd, rfl⟩⟩; refine ⟨_, rfl, ?_⟩) | ((with_reducible refine gate_callee (f := 13) rfl ?_); refine goesL_ (some 21) rfl rfl Try.func13 (by kernel_rfl) rfl #[.slice A0 l0.length c0, .slice A1 l1.length c1, .slice A2 l2.length c2] rfl MX ?_; (with_reducible refine (sequence_Merge.calls k _ _ l0 _ _ l1 _ _ l2 t394 t395 _ ?side1 ?side2 ?side3 ?side4 ?side5 ?side6 A6.out).mono ?_); (case side1 => exact CX HR0.out); (case side2 => exact HC0.out); (case side3 => exact CX HR1.out); (case side4 => exact HC1.out); (case side5 => exact CX HR2.out); (case side6 => exact HC2.out); rintro e w12 ⟨v396, rfl, ho0, hb⟩; refine ⟨_, rfl, ?_⟩; have n0_ := Aside0.mk (Kd.R_lower ho0 (below_size (BX HB.out))); have n1_ := Aside0.mk (below_step (BX HB.out) hb); clear HB; have HO397 := n0_; have HB := n1_; clear n0_ n1_; (try clear hb); (try clear hb2); (try clear hk); (try clear hi); (try clear ho0)) | ((with_reducible refine gate_callee (f := 18) rfl ?_); refine goesL_ (some 28) rfl rfl Try.func18 (by kernel_rfl) rfl #[.slice A0 l0.length c0, .slice A1 l1.length c1, .slice A2 l2.length c2] rfl MX ?_; (with_reducible refine (treemergeref32_Merge.calls k _ _ l0 _ _ l1 _ _ l2 t398 t399 _ ?side1 ?side2 ?side3 ?side4 ?side5 ?side6 A7.out).mono ?_); (case side1 => exact CX (Kd.C_below HR0.out HB.out)); (case side2 => exact HC0.out); (case side3 => exact CX (Kd.C_below HR1.out HB.out)); (case side4 => exact HC1.out); (case side5 => exact CX (Kd.C_below HR2.out HB.out)); (case side6 => exact HC2.out); rintro e w13 ⟨v400, rfl, ho0, hb⟩; refine ⟨_, rfl, ?_⟩; have n0_ := Aside0.mk (Kd.R_elder' (RX HO397.out) (Kd.R_base ho0) hb); have n1_ := Aside0.mk (Kd.R_lower (Kd.R_new' ho0 (Kd.R_lt (RX HO397.out))) (below_size (BX HB.out))); have n2_ := Aside0.mk (below_step (BX HB.out) hb); clear HO397; clear HB; have HO397 := n0_; have HO401 := n1_; have HB := n2_; clear n0_ n1_ n2_; (try clear hb); (try clear hb2); (try clear hk); (try clear hi); (try clear ho0)) | ((with_reducible refine gate_callee (f := 12) rfl ?_); refine goesL_ (some 31) rfl rfl Try.func12 (by kernel_rfl) rfl #[] rfl MX ?_; (with_reducible refine (treemergelaw32_awake.calls k  true _ A8.out).mono ?_); rintro e w14 ⟨rfl, hb⟩; refine ⟨_, rfl, ?_⟩; have n0_ := Aside0.mk (Kd.R_below (RX HO397.out) hb); have n1_ := Aside0.mk (Kd.R_below (RX HO401.out) hb); have n2_ := Aside0.mk (below_step (BX HB.out) hb); clear HO397; clear HO401; clear HB; have HO397 := n0_; have HO401 := n1_; have HB := n2_; clear n0_ n1_ n2_; (try clear hb); (try clear hb2); (try clear hk); (try clear hi); obtain ⟨Ao15, co15, eo15⟩ := Kd.R_slice HO397.out; subst eo15; obtain ⟨Ao16, co16, eo16⟩ := Kd.R_slice HO401.out; subst eo16) | (go_at_call 16; (with_reducible refine (treemergeref32_Equal.calls k _ _ t394 _ _ t398 t403 _ ?side1 ?side2 ?side3 ?side4 A11.out).mono ?_); (case side1 => exact CX ((Kd.R_reads' HO397.out).2.2)); (case side2 => exact (Kd.R_reads' HO397.out).2.1); (case side3 => exact CX ((Kd.R_reads' HO401.out).2.2)); (case side4 => exact (Kd.R_reads' HO401.out).2.1); rintro e w' ⟨rfl, ⟨nd, rfl⟩⟩))
    go_ret
    exact ⟨by first | rfl | (simp [errW_none, errW_some] <;> rfl) | (simp [*, errW_none, errW_some] <;> rfl), BX HB.out⟩
   ·rw [if_neg c10] at H
    have c10b0 : (t395 == t399) = false := by simpa using c10
    (try (have c10b1 : decide (t395 = t399) = false := by simpa using c10))
    (try (have c10b2 : (t395 == t399) = false := by simpa using c10))
    (try (have c10b3 : ¬ (t395 = t399) := by simpa using c10))
    clear c10
    obtain rfl := Option.some.inj H
    go_enter Try.func5, Try.ntmps5
    go_wp2_with (first | ((with_reducible refine gate_callee (f := 10) rfl ?_); refine goesL_ (some 14) rfl rfl Try.func10 (by kernel_rfl) rfl #[.slice A0 l0.length c0, .slice A1 l1.length c1, .slice A2 l2.length c2] rfl MX ?_; (with_reducible refine (treemergelaw32_short.calls _ _ l0 _ _ l1 _ _ l2 true _ ?side1 ?side2 ?side3 ?side4 ?side5 ?side6 A4.out).mono ?_); (case side1 => exact CX HR0.out); (case side2 => exact HC0.out); (case side3 => exact CX HR1.out); (case side4 => exact HC1.out); (case side5 => exact CX HR2.out); (case side6 => exact HC2.out); rintro e w' ⟨rfl, ⟨nd, rfl⟩⟩; refine ⟨_, rfl, ?_⟩) | ((with_reducible refine gate_callee (f := 13) rfl ?_); refine goesL_ (some 21) rfl rfl Try.func13 (by kernel_rfl) rfl #[.slice A0 l0.length c0, .slice A1 l1.length c1, .slice A2 l2.length c2] rfl MX ?_; (with_reducible refine (sequence_Merge.calls k _ _ l0 _ _ l1 _ _ l2 t394 t395 _ ?side1 ?side2 ?side3 ?side4 ?side5 ?side6 A6.out).mono ?_); (case side1 => exact CX HR0.out); (case side2 => exact HC0.out); (case side3 => exact CX HR1.out); (case side4 => exact HC1.out); (case side5 => exact CX HR2.out); (case side6 => exact HC2.out); rintro e w17 ⟨v396, rfl, ho0, hb⟩; refine ⟨_, rfl, ?_⟩; have n0_ := Aside0.mk (Kd.R_lower ho0 (below_size (BX HB.out))); have n1_ := Aside0.mk (below_step (BX HB.out) hb); clear HB; have HO397 := n0_; have HB := n1_; clear n0_ n1_; (try clear hb); (try clear hb2); (try clear hk); (try clear hi); (try clear ho0)) | ((with_reducible refine gate_callee (f := 18) rfl ?_); refine goesL_ (some 28) rfl rfl Try.func18 (by kernel_rfl) rfl #[.slice A0 l0.length c0, .slice A1 l1.length c1, .slice A2 l2.length c2] rfl MX ?_; (with_reducible refine (treemergeref32_Merge.calls k _ _ l0 _ _ l1 _ _ l2 t398 t399 _ ?side1 ?side2 ?side3 ?side4 ?side5 ?side6 A7.out).mono ?_); (case side1 => exact CX (Kd.C_below HR0.out HB.out)); (case side2 => exact HC0.out); (case side3 => exact CX (Kd.C_below HR1.out HB.out)); (case side4 => exact HC1.out); (case side5 => exact CX (Kd.C_below HR2.out HB.out)); (case side6 => exact HC2.out); rintro e w18 ⟨v400, rfl, ho0, hb⟩; refine ⟨_, rfl, ?_⟩; have n0_ := Aside0.mk (Kd.R_elder' (RX HO397.out) (Kd.R_base ho0) hb); have n1_ := Aside0.mk (Kd.R_lower (Kd.R_new' ho0 (Kd.R_lt (RX HO397.out))) (below_size (BX HB.out))); have n2_ := Aside0.mk (below_step (BX HB.out) hb); clear HO397; clear HB; have HO397 := n0_; have HO401 := n1_; have HB := n2_; clear n0_ n1_ n2_; (try clear hb); (try clear hb2); (try clear hk); (try clear hi); (try clear ho0)) | ((with_reducible refine gate_callee (f := 12) rfl ?_); refine goesL_ (some 31) rfl rfl Try.func12 (by kernel_rfl) rfl #[] rfl MX ?_; (with_reducible refine (treemergelaw32_awake.calls k  true _ A8.out).mono ?_); rintro e w19 ⟨rfl, hb⟩; refine ⟨_, rfl, ?_⟩; have n0_ := Aside0.mk (Kd.R_below (RX HO397.out) hb); have n1_ := Aside0.mk (Kd.R_below (RX HO401.out) hb); have n2_ := Aside0.mk (below_step (BX HB.out) hb); clear HO397; clear HO401; clear HB; have HO397 := n0_; have HO401 := n1_; have HB := n2_; clear n0_ n1_ n2_; (try clear hb); (try clear hb2); (try clear hk); (try clear hi)))
    go_ret
    exact ⟨by first | rfl | (simp [errW_none, errW_some] <;> rfl) | (simp [*, errW_none, errW_some] <;> rfl), BX HB.out⟩
  ·replace c9 := Bool.eq_false_iff.mpr c9
   subst c9
   have H1 : (some false) = some r := by rw [if_neg (show ¬ (false = true) by decide)] at H; exact H
   clear H
   have H := H1
   clear H1
   obtain rfl := Option.some.inj H
   go_enter Try.func5, Try.ntmps5
   go_wp2_with (first | ((with_reducible refine gate_callee (f := 10) rfl ?_); refine goesL_ (some 14) rfl rfl Try.func10 (by kernel_rfl) rfl #[.slice A0 l0.length c0, .slice A1 l1.length c1, .slice A2 l2.length c2] rfl MX ?_; (with_reducible refine (treemergelaw32_short.calls _ _ l0 _ _ l1 _ _ l2 true _ ?side1 ?side2 ?side3 ?side4 ?side5 ?side6 A4.out).mono ?_); (case side1 => exact CX HR0.out); (case side2 => exact HC0.out); (case side3 => exact CX HR1.out); (case side4 => exact HC1.out); (case side5 => exact CX HR2.out); (case side6 => exact HC2.out); rintro e w' ⟨rfl, ⟨nd, rfl⟩⟩; refine ⟨_, rfl, ?_⟩) | ((with_reducible refine gate_callee (f := 13) rfl ?_); refine goesL_ (some 21) rfl rfl Try.func13 (by kernel_rfl) rfl #[.slice A0 l0.length c0, .slice A1 l1.length c1, .slice A2 l2.length c2] rfl MX ?_; (with_reducible refine (sequence_Merge.calls k _ _ l0 _ _ l1 _ _ l2 t394 t395 _ ?side1 ?side2 ?side3 ?side4 ?side5 ?side6 A6.out).mono ?_); (case side1 => exact CX HR0.out); (case side2 => exact HC0.out); (case side3 => exact CX HR1.out); (case side4 => exact HC1.out); (case side5 => exact CX HR2.out); (case side6 => exact HC2.out); rintro e w20 ⟨v396, rfl, ho0, hb⟩; refine ⟨_, rfl, ?_⟩; have n0_ := Aside0.mk (Kd.R_lower ho0 (below_size (BX HB.out))); have n1_ := Aside0.mk (below_step (BX HB.out) hb); clear HB; have HO397 := n0_; have HB := n1_; clear n0_ n1_; (try clear hb); (try clear hb2); (try clear hk); (try clear hi); (try clear ho0)) | ((with_reducible refine gate_callee (f := 18) rfl ?_); refine goesL_ (some 28) rfl rfl Try.func18 (by kernel_rfl) rfl #[.slice A0 l0.length c0, .slice A1 l1.length c1, .slice A2 l2.length c2] rfl MX ?_; (with_reducible refine (treemergeref32_Merge.calls k _ _ l0 _ _ l1 _ _ l2 t398 t399 _ ?side1 ?side2 ?side3 ?side4 ?side5 ?side6 A7.out).mono ?_); (case side1 => exact CX (Kd.C_below HR0.out HB.out)); (case side2 => exact HC0.out); (case side3 => exact CX (Kd.C_below HR1.out HB.out)); (case side4 => exact HC1.out); (case side5 => exact CX (Kd.C_below HR2.out HB.out)); (case side6 => exact HC2.out); rintro e w21 ⟨v400, rfl, ho0, hb⟩; refine ⟨_, rfl, ?_⟩; have n0_ := Aside0.mk (Kd.R_elder' (RX HO397.out) (Kd.R_base ho0) hb); have n1_ := Aside0.mk (Kd.R_lower (Kd.R_new' ho0 (Kd.R_lt (RX HO397.out))) (below_size (BX HB.out))); have n2_ := Aside0.mk (below_step (BX HB.out) hb); clear HO397; clear HB; have HO397 := n0_; have HO401 := n1_; have HB := n2_; clear n0_ n1_ n2_; (try clear hb); (try clear hb2); (try clear hk); (try clear hi); (try clear ho0)) | ((with_reducible refine gate_callee (f := 12) rfl ?_); refine goesL_ (some 31) rfl rfl Try.func12 (by kernel_rfl) rfl #[] rfl MX ?_; (with_reducible refine (treemergelaw32_awake.calls k  false _ A8.out).mono ?_); rintro e w22 ⟨rfl, hb⟩; refine ⟨_, rfl, ?_⟩; have n0_ := Aside0.mk (Kd.R_below (RX HO397.out) hb); have n1_ := Aside0.mk (Kd.R_below (RX HO401.out) hb); have n2_ := Aside0.mk (below_step (BX HB.out) hb); clear HO397; clear HO401; clear HB; have HO397 := n0_; have HO401 := n1_; have HB := n2_; clear n0_ n1_ n2_; (try clear hb); (try clear hb2); (try clear hk); (try clear hi)))
   go_ret
   exact ⟨by first | rfl | (simp [errW_none, errW_some] <;> rfl) | (simp [*, errW_none, errW_some] <;> rfl), BX HB.out⟩
 ·replace c5 := Bool.eq_false_iff.mpr c5
  subst c5
  have H1 : ((treemergelaw32_awake.f k).bind fun t393 => (some t393)) = some r := by rw [if_neg (show ¬ (false = true) by decide)] at H; exact H
  clear H
  have H := H1
  clear H1
  replace H := Option.bind_eq_some_iff.mp H
  obtain ⟨t393, A230, H⟩ := H
  replace H : (some t393) = some r := H
  have A23 := Aside0.mk A230
  clear A230
  obtain rfl := Option.some.inj H
  go_enter Try.func5, Try.ntmps5
  go_wp2_with (first | ((with_reducible refine gate_callee (f := 10) rfl ?_); refine goesL_ (some 14) rfl rfl Try.func10 (by kernel_rfl) rfl #[.slice A0 l0.length c0, .slice A1 l1.length c1, .slice A2 l2.length c2] rfl MX ?_; (with_reducible refine (treemergelaw32_short.calls _ _ l0 _ _ l1 _ _ l2 false _ ?side1 ?side2 ?side3 ?side4 ?side5 ?side6 A4.out).mono ?_); (case side1 => exact CX HR0.out); (case side2 => exact HC0.out); (case side3 => exact CX HR1.out); (case side4 => exact HC1.out); (case side5 => exact CX HR2.out); (case side6 => exact HC2.out); rintro e w' ⟨rfl, ⟨nd, rfl⟩⟩; refine ⟨_, rfl, ?_⟩) | ((with_reducible refine gate_callee (f := 12) rfl ?_); refine goesL_ (some 16) rfl rfl Try.func12 (by kernel_rfl) rfl #[] rfl MX ?_; (with_reducible refine (treemergelaw32_awake.calls k  t393 _ A23.out).mono ?_); rintro e w24 ⟨rfl, hb⟩; refine ⟨_, rfl, ?_⟩; have n0_ := Aside0.mk (below_step (BX HB.out) hb); clear HB; have HB := n0_; clear n0_; (try clear hb); (try clear hb2); (try clear hk); (try clear hi)))
  go_ret
  exact ⟨by first | rfl | (simp [errW_none, errW_some] <;> rfl) | (simp [*, errW_none, errW_some] <;> rfl), BX HB.out⟩

end Go.Proofs.Ytdbgdkbpamekpaa.Q
