-- Written by a program of this session (mk.py) out of the translation; Lean checks it.
import Derived.Test.YtdbgdkbpamekpaaQ0
import Derived.Test.YtdbgdkbpamekpaaQ1
import Derived.Test.YtdbgdkbpamekpaaQ7
namespace Go.Proofs.Ytdbgdkbpamekpaa.Q
open Go.RowKit Go.Proofs.YtdbgdkbpamekpaaW.PrintWords Go.Proofs.YtdbgdkbpamekpaaW.PrintLast Go.Proofs.YtdbgdkbpamekpaaW.PrintMore
attribute [local go_sem] max2_int min2_int max_two min_two max_three min_three max_four min_four   -- for this text's walks alone
set_option linter.unusedVariables false
set_option linter.unusedSimpArgs false

/-! ### treemergeref32_Kept: function 21 -/
mutual
def treemergeref32_Kept.l0 : Nat → List Int → List Int → List Int → List Int → Int → Option (List Int)
 | 0, _, _, _, _, _ => none
 | k + 1, x0, x1, x2, x7, x8 => if x8 < (x0.length : Int) then (if 0 ≤ x8 then ((treemergeref32_Has.f k x1 (rd x0 x8)).bind fun t185 => (if t185 = true then ((treemergeref32_Has.f k x2 (rd x0 x8)).bind fun t187 => (if t187 = true then ((treemergeref32_Has.f k x7 (rd x0 x8)).bind fun t189 => (if t189 = true then (treemergeref32_Kept.l0 k x0 x1 x2 x7 (wrap64 (x8 + 1))) else (if x7.length < 17592186044416 then (treemergeref32_Kept.l0 k x0 x1 x2 (x7 ++ [rd x0 x8]) (wrap64 (x8 + 1))) else (none)))) else (treemergeref32_Kept.l0 k x0 x1 x2 x7 (wrap64 (x8 + 1))))) else (treemergeref32_Kept.l0 k x0 x1 x2 x7 (wrap64 (x8 + 1))))) else (none)) else (treemergeref32_Kept.l1 k x0 x1 x2 x7 ([] : List Int) 0)
def treemergeref32_Kept.l1 : Nat → List Int → List Int → List Int → List Int → List Int → Int → Option (List Int)
 | 0, _, _, _, _, _, _ => none
 | k + 1, x0, x1, x2, x7, x9, x10 => if x10 < (x1.length : Int) then (if 0 ≤ x10 then ((treemergeref32_Has.f k x0 (rd x1 x10)).bind fun t195 => (if t195 = true then (treemergeref32_Kept.l1 k x0 x1 x2 x7 x9 (wrap64 (x10 + 1))) else ((treemergeref32_Has.f k x9 (rd x1 x10)).bind fun t197 => (if t197 = true then (treemergeref32_Kept.l1 k x0 x1 x2 x7 x9 (wrap64 (x10 + 1))) else ((treemergeref32_put.f k x9 (rd x1 x10)).bind fun t199 => (treemergeref32_Kept.l1 k x0 x1 x2 x7 t199 (wrap64 (x10 + 1)))))))) else (none)) else (treemergeref32_Kept.l2 k x0 x2 x7 x9 0)
def treemergeref32_Kept.l2 : Nat → List Int → List Int → List Int → List Int → Int → Option (List Int)
 | 0, _, _, _, _, _ => none
 | k + 1, x0, x2, x7, x9, x11 => if x11 < (x2.length : Int) then (if 0 ≤ x11 then ((treemergeref32_Has.f k x0 (rd x2 x11)).bind fun t203 => (if t203 = true then (treemergeref32_Kept.l2 k x0 x2 x7 x9 (wrap64 (x11 + 1))) else ((treemergeref32_Has.f k x9 (rd x2 x11)).bind fun t205 => (if t205 = true then (treemergeref32_Kept.l2 k x0 x2 x7 x9 (wrap64 (x11 + 1))) else ((treemergeref32_put.f k x9 (rd x2 x11)).bind fun t207 => (treemergeref32_Kept.l2 k x0 x2 x7 t207 (wrap64 (x11 + 1)))))))) else (none)) else (treemergeref32_Kept.l3 k x7 x9 0)
def treemergeref32_Kept.l3 : Nat → List Int → List Int → Int → Option (List Int)
 | 0, _, _, _ => none
 | k + 1, x7, x9, x12 => if x12 < (x9.length : Int) then (if 0 ≤ x12 then (if x7.length < 17592186044416 then (treemergeref32_Kept.l3 k (x7 ++ [rd x9 x12]) x9 (wrap64 (x12 + 1))) else (none)) else (none)) else (some x7)
end
def treemergeref32_Kept.f (k : Nat) (l0 : List Int) (l1 : List Int) (l2 : List Int) : Option (List Int) := treemergeref32_Kept.l0 k l0 l1 l2 ([] : List Int) 0
theorem treemergeref32_Kept.mono_l : ∀ k, (∀ y0 y1 y2 y3 y4, LeO (treemergeref32_Kept.l0 k y0 y1 y2 y3 y4) (treemergeref32_Kept.l0 (k + 1) y0 y1 y2 y3 y4)) ∧ (∀ y0 y1 y2 y3 y4 y5, LeO (treemergeref32_Kept.l1 k y0 y1 y2 y3 y4 y5) (treemergeref32_Kept.l1 (k + 1) y0 y1 y2 y3 y4 y5)) ∧ (∀ y0 y1 y2 y3 y4, LeO (treemergeref32_Kept.l2 k y0 y1 y2 y3 y4) (treemergeref32_Kept.l2 (k + 1) y0 y1 y2 y3 y4)) ∧ (∀ y0 y1 y2, LeO (treemergeref32_Kept.l3 k y0 y1 y2) (treemergeref32_Kept.l3 (k + 1) y0 y1 y2))
 | 0 => ⟨fun _ _ _ _ _ r h => by simp [treemergeref32_Kept.l0] at h, fun _ _ _ _ _ _ r h => by simp [treemergeref32_Kept.l1] at h, fun _ _ _ _ _ r h => by simp [treemergeref32_Kept.l2] at h, fun _ _ _ r h => by simp [treemergeref32_Kept.l3] at h⟩
 | k + 1 => by
  obtain ⟨ih0, ih1, ih2, ih3⟩ := treemergeref32_Kept.mono_l k
  refine ⟨?_, ?_, ?_, ?_⟩
  ·intro y0 y1 y2 y3 y4
   unfold treemergeref32_Kept.l0
   repeat' first
   | (with_reducible exact ih0 _ _ _ _ _)
   | (with_reducible exact ih1 _ _ _ _ _ _)
   | (with_reducible exact ih2 _ _ _ _ _)
   | (with_reducible exact ih3 _ _ _)
   | (with_reducible exact treemergeref32_Has.mono _ _ _)
   | (with_reducible exact treemergeref32_put.mono _ _ _)
   | (with_reducible exact LeO.refl _)
   | (with_reducible exact LeO.none _)
   | (with_reducible refine LeO.ite ?_ ?_)
   | (with_reducible refine LeO.bind ?_ (fun _ => ?_))
  ·intro y0 y1 y2 y3 y4 y5
   unfold treemergeref32_Kept.l1
   repeat' first
   | (with_reducible exact ih0 _ _ _ _ _)
   | (with_reducible exact ih1 _ _ _ _ _ _)
   | (with_reducible exact ih2 _ _ _ _ _)
   | (with_reducible exact ih3 _ _ _)
   | (with_reducible exact treemergeref32_Has.mono _ _ _)
   | (with_reducible exact treemergeref32_put.mono _ _ _)
   | (with_reducible exact LeO.refl _)
   | (with_reducible exact LeO.none _)
   | (with_reducible refine LeO.ite ?_ ?_)
   | (with_reducible refine LeO.bind ?_ (fun _ => ?_))
  ·intro y0 y1 y2 y3 y4
   unfold treemergeref32_Kept.l2
   repeat' first
   | (with_reducible exact ih0 _ _ _ _ _)
   | (with_reducible exact ih1 _ _ _ _ _ _)
   | (with_reducible exact ih2 _ _ _ _ _)
   | (with_reducible exact ih3 _ _ _)
   | (with_reducible exact treemergeref32_Has.mono _ _ _)
   | (with_reducible exact treemergeref32_put.mono _ _ _)
   | (with_reducible exact LeO.refl _)
   | (with_reducible exact LeO.none _)
   | (with_reducible refine LeO.ite ?_ ?_)
   | (with_reducible refine LeO.bind ?_ (fun _ => ?_))
  ·intro y0 y1 y2
   unfold treemergeref32_Kept.l3
   repeat' first
   | (with_reducible exact ih0 _ _ _ _ _)
   | (with_reducible exact ih1 _ _ _ _ _ _)
   | (with_reducible exact ih2 _ _ _ _ _)
   | (with_reducible exact ih3 _ _ _)
   | (with_reducible exact treemergeref32_Has.mono _ _ _)
   | (with_reducible exact treemergeref32_put.mono _ _ _)
   | (with_reducible exact LeO.refl _)
   | (with_reducible exact LeO.none _)
   | (with_reducible refine LeO.ite ?_ ?_)
   | (with_reducible refine LeO.bind ?_ (fun _ => ?_))
theorem treemergeref32_Kept.mono : ∀ a0 a1 a2 k, LeO (treemergeref32_Kept.f k a0 a1 a2) (treemergeref32_Kept.f (k + 1) a0 a1 a2) := by
 intro a0 a1 a2 k
 obtain ⟨ih0, ih1, ih2, ih3⟩ := treemergeref32_Kept.mono_l k
 unfold treemergeref32_Kept.f
 repeat' first
   | (with_reducible exact ih0 _ _ _ _ _)
   | (with_reducible exact ih1 _ _ _ _ _ _)
   | (with_reducible exact ih2 _ _ _ _ _)
   | (with_reducible exact ih3 _ _ _)
   | (with_reducible exact treemergeref32_Has.mono _ _ _)
   | (with_reducible exact treemergeref32_put.mono _ _ _)
   | (with_reducible exact LeO.refl _)
   | (with_reducible exact LeO.none _)
   | (with_reducible refine LeO.ite ?_ ?_)
   | (with_reducible refine LeO.bind ?_ (fun _ => ?_))
set_option maxHeartbeats 8000000 in
set_option maxRecDepth 100000 in
theorem treemergeref32_Kept.calls (k : Nat) (A0 : Option Addr) (c0 : Nat) (l0 : List Int) (A1 : Option Addr) (c1 : Nat) (l1 : List Int) (A2 : Option Addr) (c2 : Nat) (l2 : List Int) (r : List Int) (w : World) (hr0 : Kd.C (Kd.int .i64) w A0 l0.length l0) (hc0 : l0.length ≤ c0) (hr1 : Kd.C (Kd.int .i64) w A1 l1.length l1) (hc1 : l1.length ≤ c1) (hr2 : Kd.C (Kd.int .i64) w A2 l2.length l2) (hc2 : l2.length ≤ c2) (h : treemergeref32_Kept.f k l0 l1 l2 = some r) :
  Calls Try.prog 21 #[.slice A0 l0.length c0, .slice A1 l1.length c1, .slice A2 l2.length c2] w fun e w' => ∃ v0_ : Value, e = .returned (v0_) ∧ Kd.R (Kd.int .i64) 3 w' w.heap.size (fun _ => True) v0_ r ∧ Below w.heap.size w w' := by
 have HR0 := Aside0.mk hr0
 have HC0 := Aside0.mk hc0
 clear hr0 hc0
 have HR1 := Aside0.mk hr1
 have HC1 := Aside0.mk hc1
 clear hr1 hc1
 have HR2 := Aside0.mk hr2
 have HC2 := Aside0.mk hc2
 clear hr2 hc2
 have HB := Aside0.mk (Below.refl w.heap.size w)
 have H : (treemergeref32_Kept.l0 k l0 l1 l2 ([] : List Int) 0) = some r := h
 clear h
 have H' := Aside0.mk H
 clear H
 go_enter Try.func21, Try.ntmps21
 go_wp2
 go_loopg [7, 8] k (fun kq v7 v8 w' => ∃ (x7_1 : List Int) (x8_1 : Int), v8 = .int .i64 x8_1 ∧ Aside0 (treemergeref32_Kept.l0 kq l0 l1 l2 x7_1 x8_1 = some r) ∧ Aside0 (kq ≤ k) ∧ Aside0 (Kd.R (Kd.int .i64) 3 w' w.heap.size (fun _ => True) v7 x7_1) ∧ Aside0 (Below w.heap.size w w'))
 case atStart => exact ⟨(([] : List Int)), (0), SX, H', ⟨Nat.le_refl _⟩, ⟨NX⟩, ⟨BX HB.out⟩⟩
 case round =>
  clear H'
  try clear c1
  try clear c2
  try clear p2
  obtain ⟨x7_1, x8_1, rfl, HA, HK1, HO_7, HB⟩ := hrel
  cases gk with
  | zero => exact absurd HA.out (by simp [treemergeref32_Kept.l0])
  | succ k1 =>
   have H := HA.out
   clear HA
   simp only [treemergeref32_Kept.l0] at H
   by_cases c4 : x8_1 < (l0.length : Int)
   ·rw [if_pos c4] at H
    have c4b0 : decide (x8_1 < (l0.length : Int)) = true := decide_eq_true c4
    clear c4
    by_cases c5 : 0 ≤ x8_1
    ·rw [if_pos c5] at H
     have c5b0 : decide (0 ≤ x8_1) = true := decide_eq_true c5
     clear c5
     replace H := Option.bind_eq_some_iff.mp H
     obtain ⟨t185, A60, H⟩ := H
     have A6 := Aside0.mk A60
     clear A60
     by_cases c7 : t185 = true
     ·subst c7
      have H1 : ((treemergeref32_Has.f k1 l2 (rd l0 x8_1)).bind fun t187 => (if t187 = true then ((treemergeref32_Has.f k1 x7_1 (rd l0 x8_1)).bind fun t189 => (if t189 = true then (treemergeref32_Kept.l0 k1 l0 l1 l2 x7_1 (wrap64 (x8_1 + 1))) else (if x7_1.length < 17592186044416 then (treemergeref32_Kept.l0 k1 l0 l1 l2 (x7_1 ++ [rd l0 x8_1]) (wrap64 (x8_1 + 1))) else (none)))) else (treemergeref32_Kept.l0 k1 l0 l1 l2 x7_1 (wrap64 (x8_1 + 1))))) = some r := by rw [if_pos rfl] at H; exact H
      clear H
      have H := H1
      clear H1
      replace H := Option.bind_eq_some_iff.mp H
      obtain ⟨t187, A80, H⟩ := H
      have A8 := Aside0.mk A80
      clear A80
      by_cases c9 : t187 = true
      ·subst c9
       have H1 : ((treemergeref32_Has.f k1 x7_1 (rd l0 x8_1)).bind fun t189 => (if t189 = true then (treemergeref32_Kept.l0 k1 l0 l1 l2 x7_1 (wrap64 (x8_1 + 1))) else (if x7_1.length < 17592186044416 then (treemergeref32_Kept.l0 k1 l0 l1 l2 (x7_1 ++ [rd l0 x8_1]) (wrap64 (x8_1 + 1))) else (none)))) = some r := by rw [if_pos rfl] at H; exact H
       clear H
       have H := H1
       clear H1
       replace H := Option.bind_eq_some_iff.mp H
       obtain ⟨t189, A100, H⟩ := H
       have A10 := Aside0.mk A100
       clear A100
       by_cases c11 : t189 = true
       ·subst c11
        have H1 : (treemergeref32_Kept.l0 k1 l0 l1 l2 x7_1 (wrap64 (x8_1 + 1))) = some r := by rw [if_pos rfl] at H; exact H
        clear H
        have H := H1
        clear H1
        have H' := Aside0.mk H
        clear H
        have p184 : 0 ≤ (x8_1 : Int) := of_decide_eq_true AX
        have q184 : x8_1 < (l0.length : Int) := of_decide_eq_true AX
        obtain ⟨ad184, e184, hx184_0⟩ := Kd.at_int HR0.out x8_1 p184 q184
        cases e184
        replace hx184_0 := (HB.out.cell (World.block_lt_of_cell? w _ hx184_0)).trans hx184_0
        replace p184 := eq_true p184
        replace q184 := eq_true q184
        go_wp2_with (first | ((with_reducible refine gate_callee (f := 17) rfl ?_); refine goesL_ (some 24) rfl rfl Try.func17 (by kernel_rfl) rfl #[.slice A1 l1.length c1, .int .i64 (rd l0 x8_1)] rfl MX ?_; (with_reducible refine (treemergeref32_Has.calls k1 _ _ l1 (rd l0 x8_1) true _ ?side1 ?side2 A6.out).mono ?_); (case side1 => exact CX (Kd.C_below HR1.out HB.out)); (case side2 => exact HC1.out); rintro e w' ⟨rfl, ⟨nd, rfl⟩⟩; refine ⟨_, rfl, ?_⟩; have p186 : 0 ≤ (x8_1 : Int) := of_decide_eq_true AX; have q186 : x8_1 < (l0.length : Int) := of_decide_eq_true AX; obtain ⟨ad186, e186, hx186_0⟩ := Kd.at_int HR0.out x8_1 p186 q186; obtain rfl : ad184 = ad186 := (by injection e186); replace hx186_0 := (HB.out.cell (World.block_lt_of_cell? w _ hx186_0)).trans hx186_0; replace p186 := eq_true p186; replace q186 := eq_true q186) | (go_at_call 17; (with_reducible refine (treemergeref32_Has.calls k1 _ _ l2 (rd l0 x8_1) true _ ?side1 ?side2 A8.out).mono ?_); (case side1 => exact CX (Kd.C_below HR2.out (BX HB.out))); (case side2 => exact HC2.out); rintro e w' ⟨rfl, ⟨nd, rfl⟩⟩; have p188 : 0 ≤ (x8_1 : Int) := of_decide_eq_true AX; have q188 : x8_1 < (l0.length : Int) := of_decide_eq_true AX; obtain ⟨ad188, e188, hx188_0⟩ := Kd.at_int HR0.out x8_1 p188 q188; obtain rfl : ad184 = ad188 := (by injection e188); replace hx188_0 := (HB.out.cell (World.block_lt_of_cell? w _ hx188_0)).trans hx188_0; replace p188 := eq_true p188; replace q188 := eq_true q188; obtain ⟨Ao12, co12, eo12⟩ := Kd.R_slice HO_7.out; subst eo12) | (go_at_call 17; (with_reducible refine (treemergeref32_Has.calls k1 _ _ x7_1 (rd l0 x8_1) true _ ?side1 ?side2 A10.out).mono ?_); (case side1 => exact CX ((Kd.R_reads' HO_7.out).2.2)); (case side2 => exact (Kd.R_reads' HO_7.out).2.1); rintro e w' ⟨rfl, ⟨nd, rfl⟩⟩))
        go_roundg k1
        case measure => have := HK1.out; omega
        case rel => exact ⟨(x7_1), (wrap64 (x8_1 + 1)), SX, H', ⟨by have := HK1.out; omega⟩, ⟨RX HO_7.out⟩, ⟨BX HB.out⟩⟩
       ·replace c11 := Bool.eq_false_iff.mpr c11
        subst c11
        have H1 : (if x7_1.length < 17592186044416 then (treemergeref32_Kept.l0 k1 l0 l1 l2 (x7_1 ++ [rd l0 x8_1]) (wrap64 (x8_1 + 1))) else (none)) = some r := by rw [if_neg (show ¬ (false = true) by decide)] at H; exact H
        clear H
        have H := H1
        clear H1
        by_cases c13 : x7_1.length < 17592186044416
        ·rw [if_pos c13] at H
         have LMc13 := Aside0.mk c13
         clear c13
         obtain ⟨y191, hy191⟩ : ∃ y_ : List Int, y_ = (x7_1 ++ [rd l0 x8_1]) := ⟨_, rfl⟩
         replace H : (treemergeref32_Kept.l0 k1 l0 l1 l2 y191 (wrap64 (x8_1 + 1))) = some r := by first | (rw [hy191]; with_reducible exact H) | (have H2_ := (Option.bind_some _ _).symm.trans H; rw [hy191]; with_reducible exact H2_) | (have H2_ := (Option.bind_some _ _).symm.trans H; with_reducible exact H2_) | with_reducible exact H | (rw [hy191]; exact H) | exact H
         have Ny191 := Aside0.mk hy191
         clear hy191
         have H' := Aside0.mk H
         clear H
         have p184 : 0 ≤ (x8_1 : Int) := of_decide_eq_true AX
         have q184 : x8_1 < (l0.length : Int) := of_decide_eq_true AX
         obtain ⟨ad184, e184, hx184_0⟩ := Kd.at_int HR0.out x8_1 p184 q184
         cases e184
         replace hx184_0 := (HB.out.cell (World.block_lt_of_cell? w _ hx184_0)).trans hx184_0
         replace p184 := eq_true p184
         replace q184 := eq_true q184
         go_wp2_with (first | ((with_reducible refine gate_callee (f := 17) rfl ?_); refine goesL_ (some 24) rfl rfl Try.func17 (by kernel_rfl) rfl #[.slice A1 l1.length c1, .int .i64 (rd l0 x8_1)] rfl MX ?_; (with_reducible refine (treemergeref32_Has.calls k1 _ _ l1 (rd l0 x8_1) true _ ?side1 ?side2 A6.out).mono ?_); (case side1 => exact CX (Kd.C_below HR1.out HB.out)); (case side2 => exact HC1.out); rintro e w' ⟨rfl, ⟨nd, rfl⟩⟩; refine ⟨_, rfl, ?_⟩; have p186 : 0 ≤ (x8_1 : Int) := of_decide_eq_true AX; have q186 : x8_1 < (l0.length : Int) := of_decide_eq_true AX; obtain ⟨ad186, e186, hx186_0⟩ := Kd.at_int HR0.out x8_1 p186 q186; obtain rfl : ad184 = ad186 := (by injection e186); replace hx186_0 := (HB.out.cell (World.block_lt_of_cell? w _ hx186_0)).trans hx186_0; replace p186 := eq_true p186; replace q186 := eq_true q186) | (go_at_call 17; (with_reducible refine (treemergeref32_Has.calls k1 _ _ l2 (rd l0 x8_1) true _ ?side1 ?side2 A8.out).mono ?_); (case side1 => exact CX (Kd.C_below HR2.out (BX HB.out))); (case side2 => exact HC2.out); rintro e w' ⟨rfl, ⟨nd, rfl⟩⟩; have p188 : 0 ≤ (x8_1 : Int) := of_decide_eq_true AX; have q188 : x8_1 < (l0.length : Int) := of_decide_eq_true AX; obtain ⟨ad188, e188, hx188_0⟩ := Kd.at_int HR0.out x8_1 p188 q188; obtain rfl : ad184 = ad188 := (by injection e188); replace hx188_0 := (HB.out.cell (World.block_lt_of_cell? w _ hx188_0)).trans hx188_0; replace p188 := eq_true p188; replace q188 := eq_true q188; obtain ⟨Ao14, co14, eo14⟩ := Kd.R_slice HO_7.out; subst eo14) | (go_at_call 17; (with_reducible refine (treemergeref32_Has.calls k1 _ _ x7_1 (rd l0 x8_1) false _ ?side1 ?side2 A10.out).mono ?_); (case side1 => exact CX ((Kd.R_reads' HO_7.out).2.2)); (case side2 => exact (Kd.R_reads' HO_7.out).2.1); rintro e w' ⟨rfl, ⟨nd, rfl⟩⟩; have p190 : 0 ≤ (x8_1 : Int) := of_decide_eq_true AX; have q190 : x8_1 < (l0.length : Int) := of_decide_eq_true AX; obtain ⟨ad190, e190, hx190_0⟩ := Kd.at_int HR0.out x8_1 p190 q190; obtain rfl : ad184 = ad190 := (by injection e190); replace hx190_0 := (HB.out.cell (World.block_lt_of_cell? w _ hx190_0)).trans hx190_0; replace p190 := eq_true p190; replace q190 := eq_true q190) | ((with_reducible refine gate_builtin (b := .append) (xs := #[.tmp 42, .tmp 47]) rfl ?_); at_builtin; refine Kd.R_append (Kd.int .i64) (w0 := w) w.heap.size rfl (.tmp 42) (.tmp 47) 22 3 (.int .i64 0) 8 rfl Try.underlying22 info3 rfl (by decide) (by omega) (.slice Ao14 x7_1.length co14) x7_1 (rd l0 x8_1) [.int .i64 (rd l0 x8_1)] (fun _ => True) (fun _ => False) rfl rfl ?aP (fun _ hk => hk.elim) ?aF ?aO ?aB ?aS ?aL ?_; (case aP => exact rfl); (case aB => exact (BX HB.out)); (case aF => exact (fun _ _ => trivial)); (case aO => exact (RX HO_7.out)); (case aS => exact (below_size (BX HB.out))); (case aL => have := LMc13.out; omega); intro v192 w15 ho hb hg hat; rw [← Ny191.out] at ho; have n0_ := Aside0.mk (hb); have n1_ := Aside0.mk (ho); clear HB; clear HO_7; have HB := n0_; have HO193 := n1_; clear n0_ n1_; clear ho hb hg hat))
         go_roundg k1
         case measure => have := HK1.out; omega
         case rel => exact ⟨(y191), (wrap64 (x8_1 + 1)), SX, H', ⟨by have := HK1.out; omega⟩, ⟨RX HO193.out⟩, ⟨BX HB.out⟩⟩
        ·rw [if_neg c13] at H
         exact absurd H (by simp)
      ·replace c9 := Bool.eq_false_iff.mpr c9
       subst c9
       have H1 : (treemergeref32_Kept.l0 k1 l0 l1 l2 x7_1 (wrap64 (x8_1 + 1))) = some r := by rw [if_neg (show ¬ (false = true) by decide)] at H; exact H
       clear H
       have H := H1
       clear H1
       have H' := Aside0.mk H
       clear H
       have p184 : 0 ≤ (x8_1 : Int) := of_decide_eq_true AX
       have q184 : x8_1 < (l0.length : Int) := of_decide_eq_true AX
       obtain ⟨ad184, e184, hx184_0⟩ := Kd.at_int HR0.out x8_1 p184 q184
       cases e184
       replace hx184_0 := (HB.out.cell (World.block_lt_of_cell? w _ hx184_0)).trans hx184_0
       replace p184 := eq_true p184
       replace q184 := eq_true q184
       go_wp2_with (first | ((with_reducible refine gate_callee (f := 17) rfl ?_); refine goesL_ (some 24) rfl rfl Try.func17 (by kernel_rfl) rfl #[.slice A1 l1.length c1, .int .i64 (rd l0 x8_1)] rfl MX ?_; (with_reducible refine (treemergeref32_Has.calls k1 _ _ l1 (rd l0 x8_1) true _ ?side1 ?side2 A6.out).mono ?_); (case side1 => exact CX (Kd.C_below HR1.out HB.out)); (case side2 => exact HC1.out); rintro e w' ⟨rfl, ⟨nd, rfl⟩⟩; refine ⟨_, rfl, ?_⟩; have p186 : 0 ≤ (x8_1 : Int) := of_decide_eq_true AX; have q186 : x8_1 < (l0.length : Int) := of_decide_eq_true AX; obtain ⟨ad186, e186, hx186_0⟩ := Kd.at_int HR0.out x8_1 p186 q186; obtain rfl : ad184 = ad186 := (by injection e186); replace hx186_0 := (HB.out.cell (World.block_lt_of_cell? w _ hx186_0)).trans hx186_0; replace p186 := eq_true p186; replace q186 := eq_true q186) | (go_at_call 17; (with_reducible refine (treemergeref32_Has.calls k1 _ _ l2 (rd l0 x8_1) false _ ?side1 ?side2 A8.out).mono ?_); (case side1 => exact CX (Kd.C_below HR2.out (BX HB.out))); (case side2 => exact HC2.out); rintro e w' ⟨rfl, ⟨nd, rfl⟩⟩))
       go_roundg k1
       case measure => have := HK1.out; omega
       case rel => exact ⟨(x7_1), (wrap64 (x8_1 + 1)), SX, H', ⟨by have := HK1.out; omega⟩, ⟨RX HO_7.out⟩, ⟨BX HB.out⟩⟩
     ·replace c7 := Bool.eq_false_iff.mpr c7
      subst c7
      have H1 : (treemergeref32_Kept.l0 k1 l0 l1 l2 x7_1 (wrap64 (x8_1 + 1))) = some r := by rw [if_neg (show ¬ (false = true) by decide)] at H; exact H
      clear H
      have H := H1
      clear H1
      have H' := Aside0.mk H
      clear H
      have p184 : 0 ≤ (x8_1 : Int) := of_decide_eq_true AX
      have q184 : x8_1 < (l0.length : Int) := of_decide_eq_true AX
      obtain ⟨ad184, e184, hx184_0⟩ := Kd.at_int HR0.out x8_1 p184 q184
      cases e184
      replace hx184_0 := (HB.out.cell (World.block_lt_of_cell? w _ hx184_0)).trans hx184_0
      replace p184 := eq_true p184
      replace q184 := eq_true q184
      go_wp2_with (first | ((with_reducible refine gate_callee (f := 17) rfl ?_); refine goesL_ (some 24) rfl rfl Try.func17 (by kernel_rfl) rfl #[.slice A1 l1.length c1, .int .i64 (rd l0 x8_1)] rfl MX ?_; (with_reducible refine (treemergeref32_Has.calls k1 _ _ l1 (rd l0 x8_1) false _ ?side1 ?side2 A6.out).mono ?_); (case side1 => exact CX (Kd.C_below HR1.out HB.out)); (case side2 => exact HC1.out); rintro e w' ⟨rfl, ⟨nd, rfl⟩⟩; refine ⟨_, rfl, ?_⟩))
      go_roundg k1
      case measure => have := HK1.out; omega
      case rel => exact ⟨(x7_1), (wrap64 (x8_1 + 1)), SX, H', ⟨by have := HK1.out; omega⟩, ⟨RX HO_7.out⟩, ⟨BX HB.out⟩⟩
    ·rw [if_neg c5] at H
     exact absurd H (by simp)
   ·rw [if_neg c4] at H
    have c4b0 : decide (x8_1 < (l0.length : Int)) = false := decide_eq_false c4
    clear c4
    have H' := Aside0.mk H
    clear H
    go_wp2
    go_loopg [9, 10] k1 (fun kq v9 v10 w' => ∃ (x9_2 : List Int) (x10_2 : Int), v10 = .int .i64 x10_2 ∧ Aside0 (treemergeref32_Kept.l1 kq l0 l1 l2 x7_1 x9_2 x10_2 = some r) ∧ Aside0 (kq ≤ k1) ∧ Aside0 (Kd.R (Kd.int .i64) 3 w' w.heap.size (fun k_ => some k_ ≠ (v9 : Value).ownBlock) u7 x7_1) ∧ Aside0 (Kd.R (Kd.int .i64) 3 w' w.heap.size (fun k_ => some k_ ≠ (u7 : Value).ownBlock) v9 x9_2) ∧ Aside0 (Below w.heap.size w w'))
    case atStart => exact ⟨(([] : List Int)), (0), SX, H', ⟨Nat.le_refl _⟩, ⟨by (with_reducible repeat (first | apply Kd.R_alloc | apply Kd.R_drewN | apply Kd.R_drew)); exact Kd.R_mono HO_7.out (fun _ hk => (by simp [Value.ownBlock]))⟩, ⟨NX⟩, ⟨BX HB.out⟩⟩
    case round =>
     clear H'
     try clear c1
     try clear p1
     try clear q1
     try clear hx1
     try clear c2
     try clear p2
     try clear c4
     try clear c4b0
     try clear c5
     try clear c5b0
     try clear p6
     try clear c7
     try clear c9
     try clear c11
     try clear c13
     try clear hx184_0
     try clear hx186_0
     try clear hx188_0
     try clear hx190_0
     try clear p184
     try clear p186
     try clear p188
     try clear p190
     try clear p2
     try clear q184
     try clear q186
     try clear q188
     try clear q190
     obtain ⟨x9_2, x10_2, rfl, HA, HK2, HO_7, HO_9, HB⟩ := hrel
     cases gk with
     | zero => exact absurd HA.out (by simp [treemergeref32_Kept.l1])
     | succ k2 =>
      have H := HA.out
      clear HA
      simp only [treemergeref32_Kept.l1] at H
      by_cases c16 : x10_2 < (l1.length : Int)
      ·rw [if_pos c16] at H
       have c16b0 : decide (x10_2 < (l1.length : Int)) = true := decide_eq_true c16
       clear c16
       by_cases c17 : 0 ≤ x10_2
       ·rw [if_pos c17] at H
        have c17b0 : decide (0 ≤ x10_2) = true := decide_eq_true c17
        clear c17
        replace H := Option.bind_eq_some_iff.mp H
        obtain ⟨t195, A180, H⟩ := H
        have A18 := Aside0.mk A180
        clear A180
        by_cases c19 : t195 = true
        ·subst c19
         have H1 : (treemergeref32_Kept.l1 k2 l0 l1 l2 x7_1 x9_2 (wrap64 (x10_2 + 1))) = some r := by rw [if_pos rfl] at H; exact H
         clear H
         have H := H1
         clear H1
         have H' := Aside0.mk H
         clear H
         have p194 : 0 ≤ (x10_2 : Int) := of_decide_eq_true AX
         have q194 : x10_2 < (l1.length : Int) := of_decide_eq_true AX
         obtain ⟨ad194, e194, hx194_0⟩ := Kd.at_int HR1.out x10_2 p194 q194
         cases e194
         replace hx194_0 := (HB.out.cell (World.block_lt_of_cell? w _ hx194_0)).trans hx194_0
         replace p194 := eq_true p194
         replace q194 := eq_true q194
         go_wp2_with (first | ((with_reducible refine gate_callee (f := 17) rfl ?_); refine goesL_ (some 60) rfl rfl Try.func17 (by kernel_rfl) rfl #[.slice A0 l0.length c0, .int .i64 (rd l1 x10_2)] rfl MX ?_; (with_reducible refine (treemergeref32_Has.calls k2 _ _ l0 (rd l1 x10_2) true _ ?side1 ?side2 A18.out).mono ?_); (case side1 => exact CX (Kd.C_below HR0.out HB.out)); (case side2 => exact HC0.out); rintro e w' ⟨rfl, ⟨nd, rfl⟩⟩; refine ⟨_, rfl, ?_⟩))
         go_roundg k2
         case measure => have := HK1.out; have := HK2.out; omega
         case rel => exact ⟨(x9_2), (wrap64 (x10_2 + 1)), SX, H', ⟨by have := HK1.out; have := HK2.out; omega⟩, ⟨RX HO_7.out⟩, ⟨RX HO_9.out⟩, ⟨BX HB.out⟩⟩
        ·replace c19 := Bool.eq_false_iff.mpr c19
         subst c19
         have H1 : ((treemergeref32_Has.f k2 x9_2 (rd l1 x10_2)).bind fun t197 => (if t197 = true then (treemergeref32_Kept.l1 k2 l0 l1 l2 x7_1 x9_2 (wrap64 (x10_2 + 1))) else ((treemergeref32_put.f k2 x9_2 (rd l1 x10_2)).bind fun t199 => (treemergeref32_Kept.l1 k2 l0 l1 l2 x7_1 t199 (wrap64 (x10_2 + 1)))))) = some r := by rw [if_neg (show ¬ (false = true) by decide)] at H; exact H
         clear H
         have H := H1
         clear H1
         replace H := Option.bind_eq_some_iff.mp H
         obtain ⟨t197, A200, H⟩ := H
         have A20 := Aside0.mk A200
         clear A200
         by_cases c21 : t197 = true
         ·subst c21
          have H1 : (treemergeref32_Kept.l1 k2 l0 l1 l2 x7_1 x9_2 (wrap64 (x10_2 + 1))) = some r := by rw [if_pos rfl] at H; exact H
          clear H
          have H := H1
          clear H1
          have H' := Aside0.mk H
          clear H
          have p194 : 0 ≤ (x10_2 : Int) := of_decide_eq_true AX
          have q194 : x10_2 < (l1.length : Int) := of_decide_eq_true AX
          obtain ⟨ad194, e194, hx194_0⟩ := Kd.at_int HR1.out x10_2 p194 q194
          cases e194
          replace hx194_0 := (HB.out.cell (World.block_lt_of_cell? w _ hx194_0)).trans hx194_0
          replace p194 := eq_true p194
          replace q194 := eq_true q194
          go_wp2_with (first | ((with_reducible refine gate_callee (f := 17) rfl ?_); refine goesL_ (some 60) rfl rfl Try.func17 (by kernel_rfl) rfl #[.slice A0 l0.length c0, .int .i64 (rd l1 x10_2)] rfl MX ?_; (with_reducible refine (treemergeref32_Has.calls k2 _ _ l0 (rd l1 x10_2) false _ ?side1 ?side2 A18.out).mono ?_); (case side1 => exact CX (Kd.C_below HR0.out HB.out)); (case side2 => exact HC0.out); rintro e w' ⟨rfl, ⟨nd, rfl⟩⟩; refine ⟨_, rfl, ?_⟩; have p196 : 0 ≤ (x10_2 : Int) := of_decide_eq_true AX; have q196 : x10_2 < (l1.length : Int) := of_decide_eq_true AX; obtain ⟨ad196, e196, hx196_0⟩ := Kd.at_int HR1.out x10_2 p196 q196; obtain rfl : ad194 = ad196 := (by injection e196); replace hx196_0 := (HB.out.cell (World.block_lt_of_cell? w _ hx196_0)).trans hx196_0; replace p196 := eq_true p196; replace q196 := eq_true q196; obtain ⟨Ao22, co22, eo22⟩ := Kd.R_slice HO_9.out; subst eo22) | (go_at_call 17; (with_reducible refine (treemergeref32_Has.calls k2 _ _ x9_2 (rd l1 x10_2) true _ ?side1 ?side2 A20.out).mono ?_); (case side1 => exact CX ((Kd.R_reads' HO_9.out).2.2)); (case side2 => exact (Kd.R_reads' HO_9.out).2.1); rintro e w' ⟨rfl, ⟨nd, rfl⟩⟩))
          go_roundg k2
          case measure => have := HK1.out; have := HK2.out; omega
          case rel => exact ⟨(x9_2), (wrap64 (x10_2 + 1)), SX, H', ⟨by have := HK1.out; have := HK2.out; omega⟩, ⟨RX HO_7.out⟩, ⟨RX HO_9.out⟩, ⟨BX HB.out⟩⟩
         ·replace c21 := Bool.eq_false_iff.mpr c21
          subst c21
          have H1 : ((treemergeref32_put.f k2 x9_2 (rd l1 x10_2)).bind fun t199 => (treemergeref32_Kept.l1 k2 l0 l1 l2 x7_1 t199 (wrap64 (x10_2 + 1)))) = some r := by rw [if_neg (show ¬ (false = true) by decide)] at H; exact H
          clear H
          have H := H1
          clear H1
          replace H := Option.bind_eq_some_iff.mp H
          obtain ⟨t199, A230, H⟩ := H
          have A23 := Aside0.mk A230
          clear A230
          have H' := Aside0.mk H
          clear H
          have p194 : 0 ≤ (x10_2 : Int) := of_decide_eq_true AX
          have q194 : x10_2 < (l1.length : Int) := of_decide_eq_true AX
          obtain ⟨ad194, e194, hx194_0⟩ := Kd.at_int HR1.out x10_2 p194 q194
          cases e194
          replace hx194_0 := (HB.out.cell (World.block_lt_of_cell? w _ hx194_0)).trans hx194_0
          replace p194 := eq_true p194
          replace q194 := eq_true q194
          go_wp2_with (first | ((with_reducible refine gate_callee (f := 17) rfl ?_); refine goesL_ (some 60) rfl rfl Try.func17 (by kernel_rfl) rfl #[.slice A0 l0.length c0, .int .i64 (rd l1 x10_2)] rfl MX ?_; (with_reducible refine (treemergeref32_Has.calls k2 _ _ l0 (rd l1 x10_2) false _ ?side1 ?side2 A18.out).mono ?_); (case side1 => exact CX (Kd.C_below HR0.out HB.out)); (case side2 => exact HC0.out); rintro e w' ⟨rfl, ⟨nd, rfl⟩⟩; refine ⟨_, rfl, ?_⟩; have p196 : 0 ≤ (x10_2 : Int) := of_decide_eq_true AX; have q196 : x10_2 < (l1.length : Int) := of_decide_eq_true AX; obtain ⟨ad196, e196, hx196_0⟩ := Kd.at_int HR1.out x10_2 p196 q196; obtain rfl : ad194 = ad196 := (by injection e196); replace hx196_0 := (HB.out.cell (World.block_lt_of_cell? w _ hx196_0)).trans hx196_0; replace p196 := eq_true p196; replace q196 := eq_true q196; obtain ⟨Ao24, co24, eo24⟩ := Kd.R_slice HO_9.out; subst eo24) | (go_at_call 17; (with_reducible refine (treemergeref32_Has.calls k2 _ _ x9_2 (rd l1 x10_2) false _ ?side1 ?side2 A20.out).mono ?_); (case side1 => exact CX ((Kd.R_reads' HO_9.out).2.2)); (case side2 => exact (Kd.R_reads' HO_9.out).2.1); rintro e w' ⟨rfl, ⟨nd, rfl⟩⟩; have p198 : 0 ≤ (x10_2 : Int) := of_decide_eq_true AX; have q198 : x10_2 < (l1.length : Int) := of_decide_eq_true AX; obtain ⟨ad198, e198, hx198_0⟩ := Kd.at_int HR1.out x10_2 p198 q198; obtain rfl : ad194 = ad198 := (by injection e198); replace hx198_0 := (HB.out.cell (World.block_lt_of_cell? w _ hx198_0)).trans hx198_0; replace p198 := eq_true p198; replace q198 := eq_true q198) | ((with_reducible refine gate_callee (f := 33) rfl ?_); refine goesL_ (some 76) rfl rfl Try.func33 (by kernel_rfl) rfl #[.slice Ao24 x9_2.length co24, .int .i64 (rd l1 x10_2)] rfl MX ?_; (with_reducible refine (treemergeref32_put.calls k2 _ _ x9_2 (rd l1 x10_2) t199 _ ?side1 ?side2 A23.out).mono ?_); (case side1 => exact CX ((Kd.R_reads' HO_9.out).2.2)); (case side2 => exact (Kd.R_reads' HO_9.out).2.1); rintro e w25 ⟨v200, rfl, ho0, hb⟩; refine ⟨_, rfl, ?_⟩; have n0_ := Aside0.mk (Kd.R_elder' (RX HO_7.out) (Kd.R_base ho0) hb); have n1_ := Aside0.mk (Kd.R_elder' (RX HO_9.out) (Kd.R_base ho0) hb); have n2_ := Aside0.mk (Kd.R_lower (Kd.R_new' (Kd.R_new' ho0 (Kd.R_lt (RX HO_7.out))) (Kd.R_lt (RX HO_9.out))) (below_size (BX HB.out))); have n3_ := Aside0.mk (below_step (BX HB.out) hb); clear HO_7; clear HO_9; clear HB; have HO_7 := n0_; have HO_9 := n1_; have HO201 := n2_; have HB := n3_; clear n0_ n1_ n2_ n3_; (try clear hb); (try clear hb2); (try clear hk); (try clear hi); (try clear ho0)))
          go_roundg k2
          case measure => have := HK1.out; have := HK2.out; omega
          case rel => exact ⟨(t199), (wrap64 (x10_2 + 1)), SX, H', ⟨by have := HK1.out; have := HK2.out; omega⟩, ⟨by (with_reducible repeat (first | apply Kd.R_alloc | apply Kd.R_drewN | apply Kd.R_drew)); exact Kd.R_mono HO_7.out (fun _ hk => hk.2)⟩, ⟨by (with_reducible repeat (first | apply Kd.R_alloc | apply Kd.R_drewN | apply Kd.R_drew)); exact Kd.R_mono HO201.out (fun _ hk => hk.1.2)⟩, ⟨BX HB.out⟩⟩
       ·rw [if_neg c17] at H
        exact absurd H (by simp)
      ·rw [if_neg c16] at H
       have c16b0 : decide (x10_2 < (l1.length : Int)) = false := decide_eq_false c16
       clear c16
       have H' := Aside0.mk H
       clear H
       go_wp2
       go_loopg [9, 11] k2 (fun kq v9 v11 w' => ∃ (x9_3 : List Int) (x11_3 : Int), v11 = .int .i64 x11_3 ∧ Aside0 (treemergeref32_Kept.l2 kq l0 l2 x7_1 x9_3 x11_3 = some r) ∧ Aside0 (kq ≤ k2) ∧ Aside0 (Kd.R (Kd.int .i64) 3 w' w.heap.size (fun k_ => some k_ ≠ (v9 : Value).ownBlock) u7 x7_1) ∧ Aside0 (Kd.R (Kd.int .i64) 3 w' w.heap.size (fun k_ => some k_ ≠ (u7 : Value).ownBlock) v9 x9_3) ∧ Aside0 (Below w.heap.size w w'))
       case atStart => exact ⟨(x9_2), (0), SX, H', ⟨Nat.le_refl _⟩, ⟨RX HO_7.out⟩, ⟨RX HO_9.out⟩, ⟨BX HB.out⟩⟩
       case round =>
        clear H'
        try clear c1
        try clear p1
        try clear q1
        try clear hx1
        try clear c2
        try clear p2
        try clear c3
        try clear c4
        try clear c4b0
        try clear c5
        try clear c5b0
        try clear p6
        try clear c7
        try clear c9
        try clear c11
        try clear c13
        try clear c16
        try clear c16b0
        try clear c17
        try clear c17b0
        try clear p18
        try clear q18
        try clear hx18
        try clear c19
        try clear p19
        try clear q19
        try clear hx19
        try clear c21
        try clear hx184_0
        try clear hx186_0
        try clear hx188_0
        try clear hx190_0
        try clear hx194_0
        try clear hx196_0
        try clear hx198_0
        try clear p1
        try clear p184
        try clear p186
        try clear p188
        try clear p190
        try clear p194
        try clear p196
        try clear p198
        try clear p2
        try clear p6
        try clear q1
        try clear q184
        try clear q186
        try clear q188
        try clear q190
        try clear q194
        try clear q196
        try clear q198
        obtain ⟨x9_3, x11_3, rfl, HA, HK3, HO_7, HO_9, HB⟩ := hrel
        cases gk with
        | zero => exact absurd HA.out (by simp [treemergeref32_Kept.l2])
        | succ k3 =>
         have H := HA.out
         clear HA
         simp only [treemergeref32_Kept.l2] at H
         by_cases c26 : x11_3 < (l2.length : Int)
         ·rw [if_pos c26] at H
          have c26b0 : decide (x11_3 < (l2.length : Int)) = true := decide_eq_true c26
          clear c26
          by_cases c27 : 0 ≤ x11_3
          ·rw [if_pos c27] at H
           have c27b0 : decide (0 ≤ x11_3) = true := decide_eq_true c27
           clear c27
           replace H := Option.bind_eq_some_iff.mp H
           obtain ⟨t203, A280, H⟩ := H
           have A28 := Aside0.mk A280
           clear A280
           by_cases c29 : t203 = true
           ·subst c29
            have H1 : (treemergeref32_Kept.l2 k3 l0 l2 x7_1 x9_3 (wrap64 (x11_3 + 1))) = some r := by rw [if_pos rfl] at H; exact H
            clear H
            have H := H1
            clear H1
            have H' := Aside0.mk H
            clear H
            have p202 : 0 ≤ (x11_3 : Int) := of_decide_eq_true AX
            have q202 : x11_3 < (l2.length : Int) := of_decide_eq_true AX
            obtain ⟨ad202, e202, hx202_0⟩ := Kd.at_int HR2.out x11_3 p202 q202
            cases e202
            replace hx202_0 := (HB.out.cell (World.block_lt_of_cell? w _ hx202_0)).trans hx202_0
            replace p202 := eq_true p202
            replace q202 := eq_true q202
            go_wp2_with (first | ((with_reducible refine gate_callee (f := 17) rfl ?_); refine goesL_ (some 88) rfl rfl Try.func17 (by kernel_rfl) rfl #[.slice A0 l0.length c0, .int .i64 (rd l2 x11_3)] rfl MX ?_; (with_reducible refine (treemergeref32_Has.calls k3 _ _ l0 (rd l2 x11_3) true _ ?side1 ?side2 A28.out).mono ?_); (case side1 => exact CX (Kd.C_below HR0.out HB.out)); (case side2 => exact HC0.out); rintro e w' ⟨rfl, ⟨nd, rfl⟩⟩; refine ⟨_, rfl, ?_⟩))
            go_roundg k3
            case measure => have := HK1.out; have := HK2.out; have := HK3.out; omega
            case rel => exact ⟨(x9_3), (wrap64 (x11_3 + 1)), SX, H', ⟨by have := HK1.out; have := HK2.out; have := HK3.out; omega⟩, ⟨RX HO_7.out⟩, ⟨RX HO_9.out⟩, ⟨BX HB.out⟩⟩
           ·replace c29 := Bool.eq_false_iff.mpr c29
            subst c29
            have H1 : ((treemergeref32_Has.f k3 x9_3 (rd l2 x11_3)).bind fun t205 => (if t205 = true then (treemergeref32_Kept.l2 k3 l0 l2 x7_1 x9_3 (wrap64 (x11_3 + 1))) else ((treemergeref32_put.f k3 x9_3 (rd l2 x11_3)).bind fun t207 => (treemergeref32_Kept.l2 k3 l0 l2 x7_1 t207 (wrap64 (x11_3 + 1)))))) = some r := by rw [if_neg (show ¬ (false = true) by decide)] at H; exact H
            clear H
            have H := H1
            clear H1
            replace H := Option.bind_eq_some_iff.mp H
            obtain ⟨t205, A300, H⟩ := H
            have A30 := Aside0.mk A300
            clear A300
            by_cases c31 : t205 = true
            ·subst c31
             have H1 : (treemergeref32_Kept.l2 k3 l0 l2 x7_1 x9_3 (wrap64 (x11_3 + 1))) = some r := by rw [if_pos rfl] at H; exact H
             clear H
             have H := H1
             clear H1
             have H' := Aside0.mk H
             clear H
             have p202 : 0 ≤ (x11_3 : Int) := of_decide_eq_true AX
             have q202 : x11_3 < (l2.length : Int) := of_decide_eq_true AX
             obtain ⟨ad202, e202, hx202_0⟩ := Kd.at_int HR2.out x11_3 p202 q202
             cases e202
             replace hx202_0 := (HB.out.cell (World.block_lt_of_cell? w _ hx202_0)).trans hx202_0
             replace p202 := eq_true p202
             replace q202 := eq_true q202
             go_wp2_with (first | ((with_reducible refine gate_callee (f := 17) rfl ?_); refine goesL_ (some 88) rfl rfl Try.func17 (by kernel_rfl) rfl #[.slice A0 l0.length c0, .int .i64 (rd l2 x11_3)] rfl MX ?_; (with_reducible refine (treemergeref32_Has.calls k3 _ _ l0 (rd l2 x11_3) false _ ?side1 ?side2 A28.out).mono ?_); (case side1 => exact CX (Kd.C_below HR0.out HB.out)); (case side2 => exact HC0.out); rintro e w' ⟨rfl, ⟨nd, rfl⟩⟩; refine ⟨_, rfl, ?_⟩; have p204 : 0 ≤ (x11_3 : Int) := of_decide_eq_true AX; have q204 : x11_3 < (l2.length : Int) := of_decide_eq_true AX; obtain ⟨ad204, e204, hx204_0⟩ := Kd.at_int HR2.out x11_3 p204 q204; obtain rfl : ad202 = ad204 := (by injection e204); replace hx204_0 := (HB.out.cell (World.block_lt_of_cell? w _ hx204_0)).trans hx204_0; replace p204 := eq_true p204; replace q204 := eq_true q204; obtain ⟨Ao32, co32, eo32⟩ := Kd.R_slice HO_9.out; subst eo32) | (go_at_call 17; (with_reducible refine (treemergeref32_Has.calls k3 _ _ x9_3 (rd l2 x11_3) true _ ?side1 ?side2 A30.out).mono ?_); (case side1 => exact CX ((Kd.R_reads' HO_9.out).2.2)); (case side2 => exact (Kd.R_reads' HO_9.out).2.1); rintro e w' ⟨rfl, ⟨nd, rfl⟩⟩))
             go_roundg k3
             case measure => have := HK1.out; have := HK2.out; have := HK3.out; omega
             case rel => exact ⟨(x9_3), (wrap64 (x11_3 + 1)), SX, H', ⟨by have := HK1.out; have := HK2.out; have := HK3.out; omega⟩, ⟨RX HO_7.out⟩, ⟨RX HO_9.out⟩, ⟨BX HB.out⟩⟩
            ·replace c31 := Bool.eq_false_iff.mpr c31
             subst c31
             have H1 : ((treemergeref32_put.f k3 x9_3 (rd l2 x11_3)).bind fun t207 => (treemergeref32_Kept.l2 k3 l0 l2 x7_1 t207 (wrap64 (x11_3 + 1)))) = some r := by rw [if_neg (show ¬ (false = true) by decide)] at H; exact H
             clear H
             have H := H1
             clear H1
             replace H := Option.bind_eq_some_iff.mp H
             obtain ⟨t207, A330, H⟩ := H
             have A33 := Aside0.mk A330
             clear A330
             have H' := Aside0.mk H
             clear H
             have p202 : 0 ≤ (x11_3 : Int) := of_decide_eq_true AX
             have q202 : x11_3 < (l2.length : Int) := of_decide_eq_true AX
             obtain ⟨ad202, e202, hx202_0⟩ := Kd.at_int HR2.out x11_3 p202 q202
             cases e202
             replace hx202_0 := (HB.out.cell (World.block_lt_of_cell? w _ hx202_0)).trans hx202_0
             replace p202 := eq_true p202
             replace q202 := eq_true q202
             go_wp2_with (first | ((with_reducible refine gate_callee (f := 17) rfl ?_); refine goesL_ (some 88) rfl rfl Try.func17 (by kernel_rfl) rfl #[.slice A0 l0.length c0, .int .i64 (rd l2 x11_3)] rfl MX ?_; (with_reducible refine (treemergeref32_Has.calls k3 _ _ l0 (rd l2 x11_3) false _ ?side1 ?side2 A28.out).mono ?_); (case side1 => exact CX (Kd.C_below HR0.out HB.out)); (case side2 => exact HC0.out); rintro e w' ⟨rfl, ⟨nd, rfl⟩⟩; refine ⟨_, rfl, ?_⟩; have p204 : 0 ≤ (x11_3 : Int) := of_decide_eq_true AX; have q204 : x11_3 < (l2.length : Int) := of_decide_eq_true AX; obtain ⟨ad204, e204, hx204_0⟩ := Kd.at_int HR2.out x11_3 p204 q204; obtain rfl : ad202 = ad204 := (by injection e204); replace hx204_0 := (HB.out.cell (World.block_lt_of_cell? w _ hx204_0)).trans hx204_0; replace p204 := eq_true p204; replace q204 := eq_true q204; obtain ⟨Ao34, co34, eo34⟩ := Kd.R_slice HO_9.out; subst eo34) | (go_at_call 17; (with_reducible refine (treemergeref32_Has.calls k3 _ _ x9_3 (rd l2 x11_3) false _ ?side1 ?side2 A30.out).mono ?_); (case side1 => exact CX ((Kd.R_reads' HO_9.out).2.2)); (case side2 => exact (Kd.R_reads' HO_9.out).2.1); rintro e w' ⟨rfl, ⟨nd, rfl⟩⟩; have p206 : 0 ≤ (x11_3 : Int) := of_decide_eq_true AX; have q206 : x11_3 < (l2.length : Int) := of_decide_eq_true AX; obtain ⟨ad206, e206, hx206_0⟩ := Kd.at_int HR2.out x11_3 p206 q206; obtain rfl : ad202 = ad206 := (by injection e206); replace hx206_0 := (HB.out.cell (World.block_lt_of_cell? w _ hx206_0)).trans hx206_0; replace p206 := eq_true p206; replace q206 := eq_true q206) | ((with_reducible refine gate_callee (f := 33) rfl ?_); refine goesL_ (some 104) rfl rfl Try.func33 (by kernel_rfl) rfl #[.slice Ao34 x9_3.length co34, .int .i64 (rd l2 x11_3)] rfl MX ?_; (with_reducible refine (treemergeref32_put.calls k3 _ _ x9_3 (rd l2 x11_3) t207 _ ?side1 ?side2 A33.out).mono ?_); (case side1 => exact CX ((Kd.R_reads' HO_9.out).2.2)); (case side2 => exact (Kd.R_reads' HO_9.out).2.1); rintro e w35 ⟨v208, rfl, ho0, hb⟩; refine ⟨_, rfl, ?_⟩; have n0_ := Aside0.mk (Kd.R_elder' (RX HO_7.out) (Kd.R_base ho0) hb); have n1_ := Aside0.mk (Kd.R_elder' (RX HO_9.out) (Kd.R_base ho0) hb); have n2_ := Aside0.mk (Kd.R_lower (Kd.R_new' (Kd.R_new' ho0 (Kd.R_lt (RX HO_7.out))) (Kd.R_lt (RX HO_9.out))) (below_size (BX HB.out))); have n3_ := Aside0.mk (below_step (BX HB.out) hb); clear HO_7; clear HO_9; clear HB; have HO_7 := n0_; have HO_9 := n1_; have HO209 := n2_; have HB := n3_; clear n0_ n1_ n2_ n3_; (try clear hb); (try clear hb2); (try clear hk); (try clear hi); (try clear ho0)))
             go_roundg k3
             case measure => have := HK1.out; have := HK2.out; have := HK3.out; omega
             case rel => exact ⟨(t207), (wrap64 (x11_3 + 1)), SX, H', ⟨by have := HK1.out; have := HK2.out; have := HK3.out; omega⟩, ⟨by (with_reducible repeat (first | apply Kd.R_alloc | apply Kd.R_drewN | apply Kd.R_drew)); exact Kd.R_mono HO_7.out (fun _ hk => hk.2)⟩, ⟨by (with_reducible repeat (first | apply Kd.R_alloc | apply Kd.R_drewN | apply Kd.R_drew)); exact Kd.R_mono HO209.out (fun _ hk => hk.1.2)⟩, ⟨BX HB.out⟩⟩
          ·rw [if_neg c27] at H
           exact absurd H (by simp)
         ·rw [if_neg c26] at H
          have c26b0 : decide (x11_3 < (l2.length : Int)) = false := decide_eq_false c26
          clear c26
          have H' := Aside0.mk H
          clear H
          go_wp2
          go_loopg [7, 12] k3 (fun kq v7 v12 w' => ∃ (x7_4 : List Int) (x12_4 : Int), v12 = .int .i64 x12_4 ∧ Aside0 (treemergeref32_Kept.l3 kq x7_4 x9_3 x12_4 = some r) ∧ Aside0 (kq ≤ k3) ∧ Aside0 (Kd.R (Kd.int .i64) 3 w' w.heap.size (fun k_ => some k_ ≠ (u9 : Value).ownBlock) v7 x7_4) ∧ Aside0 (Kd.R (Kd.int .i64) 3 w' w.heap.size (fun k_ => some k_ ≠ (v7 : Value).ownBlock) u9 x9_3) ∧ Aside0 (Below w.heap.size w w'))
          case atStart => exact ⟨(x7_1), (0), SX, H', ⟨Nat.le_refl _⟩, ⟨RX HO_7.out⟩, ⟨RX HO_9.out⟩, ⟨BX HB.out⟩⟩
          case round =>
           clear H'
           try clear c1
           try clear p1
           try clear q1
           try clear hx1
           try clear c2
           try clear p2
           try clear q2
           try clear hx2
           try clear c3
           try clear c4
           try clear c4b0
           try clear c5
           try clear c5b0
           try clear p6
           try clear c7
           try clear c9
           try clear c11
           try clear c13
           try clear c16
           try clear c16b0
           try clear c17
           try clear c17b0
           try clear p18
           try clear q18
           try clear hx18
           try clear c19
           try clear p19
           try clear q19
           try clear hx19
           try clear p20
           try clear q20
           try clear hx20
           try clear c21
           try clear c26
           try clear c26b0
           try clear c27
           try clear c27b0
           try clear c29
           try clear c31
           try clear c33
           try clear hx184_0
           try clear hx186_0
           try clear hx188_0
           try clear hx190_0
           try clear hx194_0
           try clear hx196_0
           try clear hx198_0
           try clear hx202_0
           try clear hx204_0
           try clear hx206_0
           try clear p1
           try clear p18
           try clear p184
           try clear p186
           try clear p188
           try clear p19
           try clear p190
           try clear p194
           try clear p196
           try clear p198
           try clear p2
           try clear p202
           try clear p204
           try clear p206
           try clear p6
           try clear q1
           try clear q18
           try clear q184
           try clear q186
           try clear q188
           try clear q19
           try clear q190
           try clear q194
           try clear q196
           try clear q198
           try clear q202
           try clear q204
           try clear q206
           obtain ⟨x7_4, x12_4, rfl, HA, HK4, HO_7, HO_9, HB⟩ := hrel
           cases gk with
           | zero => exact absurd HA.out (by simp [treemergeref32_Kept.l3])
           | succ k4 =>
            have H := HA.out
            clear HA
            simp only [treemergeref32_Kept.l3] at H
            by_cases c36 : x12_4 < (x9_3.length : Int)
            ·rw [if_pos c36] at H
             have c36b0 : decide (x12_4 < (x9_3.length : Int)) = true := decide_eq_true c36
             try (have c36b0h := (by assumption : x9_3.length = _) ▸ c36b0)
             clear c36
             by_cases c37 : 0 ≤ x12_4
             ·rw [if_pos c37] at H
              have c37b0 : decide (0 ≤ x12_4) = true := decide_eq_true c37
              clear c37
              by_cases c38 : x7_4.length < 17592186044416
              ·rw [if_pos c38] at H
               have LMc38 := Aside0.mk c38
               clear c38
               obtain ⟨y211, hy211⟩ : ∃ y_ : List Int, y_ = (x7_4 ++ [rd x9_3 x12_4]) := ⟨_, rfl⟩
               replace H : (treemergeref32_Kept.l3 k4 y211 x9_3 (wrap64 (x12_4 + 1))) = some r := by first | (rw [hy211]; with_reducible exact H) | (have H2_ := (Option.bind_some _ _).symm.trans H; rw [hy211]; with_reducible exact H2_) | (have H2_ := (Option.bind_some _ _).symm.trans H; with_reducible exact H2_) | with_reducible exact H | (rw [hy211]; exact H) | exact H
               have Ny211 := Aside0.mk hy211
               clear hy211
               have H' := Aside0.mk H
               clear H
               obtain ⟨Ao39, co39, eo39⟩ := Kd.R_slice HO_9.out
               subst eo39
               have p210 : 0 ≤ (x12_4 : Int) := of_decide_eq_true AX
               have q210 : x12_4 < (x9_3.length : Int) := of_decide_eq_true AX
               obtain ⟨ad210, e210, hx210_0⟩ := Kd.at_int (Kd.R_reads' HO_9.out).2.2 x12_4 p210 q210
               cases e210
               replace p210 := eq_true p210
               replace q210 := eq_true q210
               go_wp2_with (first | ((with_reducible refine gate_builtin (b := .append) (xs := #[.tmp 111, .tmp 116]) rfl ?_); at_builtin; refine Kd.R_append (Kd.int .i64) (w0 := w) w.heap.size rfl (.tmp 111) (.tmp 116) 22 3 (.int .i64 0) 8 rfl Try.underlying22 info3 rfl (by decide) (by omega) u7 x7_4 (rd x9_3 x12_4) [.int .i64 (rd x9_3 x12_4)] (fun k_ => some k_ ≠ (.slice (some ad210) x9_3.length co39 : Value).ownBlock) (fun _ => False) rfl rfl ?aP (fun _ hk => hk.elim) ?aF ?aO ?aB ?aS ?aL ?_; (case aP => exact rfl); (case aB => exact (BX HB.out)); (case aF => exact (fun k_ hk => Kd.fresh' (Kd.R_lt (RX HO_9.out)) k_ hk)); (case aO => exact (RX HO_7.out)); (case aS => exact (below_size (BX HB.out))); (case aL => have := LMc38.out; omega); intro v212 w40 ho hb hg hat; rw [← Ny211.out] at ho; have n0_ := Aside0.mk (Kd.R_after (ok := (fun _ => True)) (by (with_reducible repeat (first | apply Kd.R_alloc | apply Kd.R_drewN | apply Kd.R_drew)); exact Kd.R_mono HO_9.out (fun _ hk => ⟨trivial, hk⟩)) hg hat); have n1_ := Aside0.mk (hb); have n2_ := Aside0.mk (ho); clear HO_9; clear HB; clear HO_7; have HO_9 := n0_; have HB := n1_; have HO213 := n2_; clear n0_ n1_ n2_; clear ho hb hg hat))
               go_roundg k4
               case measure => have := HK1.out; have := HK2.out; have := HK3.out; have := HK4.out; omega
               case rel => exact ⟨(y211), (wrap64 (x12_4 + 1)), SX, H', ⟨by have := HK1.out; have := HK2.out; have := HK3.out; have := HK4.out; omega⟩, ⟨RX HO213.out⟩, ⟨by (with_reducible repeat (first | apply Kd.R_alloc | apply Kd.R_drewN | apply Kd.R_drew)); exact Kd.R_mono HO_9.out (fun _ hk => hk.2)⟩, ⟨BX HB.out⟩⟩
              ·rw [if_neg c38] at H
               exact absurd H (by simp)
             ·rw [if_neg c37] at H
              exact absurd H (by simp)
            ·rw [if_neg c36] at H
             have c36b0 : decide (x12_4 < (x9_3.length : Int)) = false := decide_eq_false c36
             try (have c36b0h := (by assumption : x9_3.length = _) ▸ c36b0)
             clear c36
             obtain rfl := Option.some.inj H
             obtain ⟨Ao41, co41, eo41⟩ := Kd.R_slice HO_9.out
             subst eo41
             go_wp2
             go_ret
             exact ⟨_, by first | rfl | (simp [errW_none, errW_some] <;> rfl) | (simp [*, errW_none, errW_some] <;> rfl), by (with_reducible repeat (first | apply Kd.R_alloc | apply Kd.R_drewN | apply Kd.R_drew)); exact Kd.R_mono HO_7.out (fun _ hk => trivial), BX HB.out⟩

/-! ### treemergeref32_Once: function 22 -/
def treemergeref32_Once.l0 : Nat → List Int → List Int → Int → Option (List Int)
 | 0, _, _, _ => none
 | k + 1, x0, x3, x4 => if x4 < (x0.length : Int) then (if 0 ≤ x4 then ((treemergeref32_Has.f k x3 (rd x0 x4)).bind fun t215 => (if t215 = true then (treemergeref32_Once.l0 k x0 x3 (wrap64 (x4 + 1))) else (if x3.length < 17592186044416 then (treemergeref32_Once.l0 k x0 (x3 ++ [rd x0 x4]) (wrap64 (x4 + 1))) else (none)))) else (none)) else (some x3)
def treemergeref32_Once.f (k : Nat) (l0 : List Int) : Option (List Int) := treemergeref32_Once.l0 k l0 ([] : List Int) 0
theorem treemergeref32_Once.mono_l : ∀ k, (∀ y0 y1 y2, LeO (treemergeref32_Once.l0 k y0 y1 y2) (treemergeref32_Once.l0 (k + 1) y0 y1 y2))
 | 0 => fun _ _ _ r h => by simp [treemergeref32_Once.l0] at h
 | k + 1 => by
  have ih0 := treemergeref32_Once.mono_l k
  ·intro y0 y1 y2
   unfold treemergeref32_Once.l0
   repeat' first
   | (with_reducible exact ih0 _ _ _)
   | (with_reducible exact treemergeref32_Has.mono _ _ _)
   | (with_reducible exact LeO.refl _)
   | (with_reducible exact LeO.none _)
   | (with_reducible refine LeO.ite ?_ ?_)
   | (with_reducible refine LeO.bind ?_ (fun _ => ?_))
theorem treemergeref32_Once.mono : ∀ a0 k, LeO (treemergeref32_Once.f k a0) (treemergeref32_Once.f (k + 1) a0) := by
 intro a0 k
 have ih0 := treemergeref32_Once.mono_l k
 unfold treemergeref32_Once.f
 repeat' first
   | (with_reducible exact ih0 _ _ _)
   | (with_reducible exact treemergeref32_Has.mono _ _ _)
   | (with_reducible exact LeO.refl _)
   | (with_reducible exact LeO.none _)
   | (with_reducible refine LeO.ite ?_ ?_)
   | (with_reducible refine LeO.bind ?_ (fun _ => ?_))
set_option maxHeartbeats 8000000 in
set_option maxRecDepth 100000 in
theorem treemergeref32_Once.calls (k : Nat) (A0 : Option Addr) (c0 : Nat) (l0 : List Int) (r : List Int) (w : World) (hr0 : Kd.C (Kd.int .i64) w A0 l0.length l0) (hc0 : l0.length ≤ c0) (h : treemergeref32_Once.f k l0 = some r) :
  Calls Try.prog 22 #[.slice A0 l0.length c0] w fun e w' => ∃ v0_ : Value, e = .returned (v0_) ∧ Kd.R (Kd.int .i64) 3 w' w.heap.size (fun _ => True) v0_ r ∧ Below w.heap.size w w' := by
 have HR0 := Aside0.mk hr0
 have HC0 := Aside0.mk hc0
 clear hr0 hc0
 have HB := Aside0.mk (Below.refl w.heap.size w)
 have H : (treemergeref32_Once.l0 k l0 ([] : List Int) 0) = some r := h
 clear h
 have H' := Aside0.mk H
 clear H
 go_enter Try.func22, Try.ntmps22
 go_wp2
 go_loopg [3, 4] k (fun kq v3 v4 w' => ∃ (x3_1 : List Int) (x4_1 : Int), v4 = .int .i64 x4_1 ∧ Aside0 (treemergeref32_Once.l0 kq l0 x3_1 x4_1 = some r) ∧ Aside0 (kq ≤ k) ∧ Aside0 (Kd.R (Kd.int .i64) 3 w' w.heap.size (fun _ => True) v3 x3_1) ∧ Aside0 (Below w.heap.size w w'))
 case atStart => exact ⟨(([] : List Int)), (0), SX, H', ⟨Nat.le_refl _⟩, ⟨NX⟩, ⟨BX HB.out⟩⟩
 case round =>
  clear H'
  obtain ⟨x3_1, x4_1, rfl, HA, HK1, HO_3, HB⟩ := hrel
  cases gk with
  | zero => exact absurd HA.out (by simp [treemergeref32_Once.l0])
  | succ k1 =>
   have H := HA.out
   clear HA
   simp only [treemergeref32_Once.l0] at H
   by_cases c2 : x4_1 < (l0.length : Int)
   ·rw [if_pos c2] at H
    have c2b0 : decide (x4_1 < (l0.length : Int)) = true := decide_eq_true c2
    clear c2
    by_cases c3 : 0 ≤ x4_1
    ·rw [if_pos c3] at H
     have c3b0 : decide (0 ≤ x4_1) = true := decide_eq_true c3
     clear c3
     replace H := Option.bind_eq_some_iff.mp H
     obtain ⟨t215, A40, H⟩ := H
     have A4 := Aside0.mk A40
     clear A40
     by_cases c5 : t215 = true
     ·subst c5
      have H1 : (treemergeref32_Once.l0 k1 l0 x3_1 (wrap64 (x4_1 + 1))) = some r := by rw [if_pos rfl] at H; exact H
      clear H
      have H := H1
      clear H1
      have H' := Aside0.mk H
      clear H
      have p214 : 0 ≤ (x4_1 : Int) := of_decide_eq_true AX
      have q214 : x4_1 < (l0.length : Int) := of_decide_eq_true AX
      obtain ⟨ad214, e214, hx214_0⟩ := Kd.at_int HR0.out x4_1 p214 q214
      cases e214
      replace hx214_0 := (HB.out.cell (World.block_lt_of_cell? w _ hx214_0)).trans hx214_0
      replace p214 := eq_true p214
      replace q214 := eq_true q214
      obtain ⟨Ao6, co6, eo6⟩ := Kd.R_slice HO_3.out
      subst eo6
      go_wp2_with (first | ((with_reducible refine gate_callee (f := 17) rfl ?_); refine goesL_ (some 16) rfl rfl Try.func17 (by kernel_rfl) rfl #[.slice Ao6 x3_1.length co6, .int .i64 (rd l0 x4_1)] rfl MX ?_; (with_reducible refine (treemergeref32_Has.calls k1 _ _ x3_1 (rd l0 x4_1) true _ ?side1 ?side2 A4.out).mono ?_); (case side1 => exact CX ((Kd.R_reads' HO_3.out).2.2)); (case side2 => exact (Kd.R_reads' HO_3.out).2.1); rintro e w' ⟨rfl, ⟨nd, rfl⟩⟩; refine ⟨_, rfl, ?_⟩))
      go_roundg k1
      case measure => have := HK1.out; omega
      case rel => exact ⟨(x3_1), (wrap64 (x4_1 + 1)), SX, H', ⟨by have := HK1.out; omega⟩, ⟨RX HO_3.out⟩, ⟨BX HB.out⟩⟩
     ·replace c5 := Bool.eq_false_iff.mpr c5
      subst c5
      have H1 : (if x3_1.length < 17592186044416 then (treemergeref32_Once.l0 k1 l0 (x3_1 ++ [rd l0 x4_1]) (wrap64 (x4_1 + 1))) else (none)) = some r := by rw [if_neg (show ¬ (false = true) by decide)] at H; exact H
      clear H
      have H := H1
      clear H1
      by_cases c7 : x3_1.length < 17592186044416
      ·rw [if_pos c7] at H
       have LMc7 := Aside0.mk c7
       clear c7
       obtain ⟨y217, hy217⟩ : ∃ y_ : List Int, y_ = (x3_1 ++ [rd l0 x4_1]) := ⟨_, rfl⟩
       replace H : (treemergeref32_Once.l0 k1 l0 y217 (wrap64 (x4_1 + 1))) = some r := by first | (rw [hy217]; with_reducible exact H) | (have H2_ := (Option.bind_some _ _).symm.trans H; rw [hy217]; with_reducible exact H2_) | (have H2_ := (Option.bind_some _ _).symm.trans H; with_reducible exact H2_) | with_reducible exact H | (rw [hy217]; exact H) | exact H
       have Ny217 := Aside0.mk hy217
       clear hy217
       have H' := Aside0.mk H
       clear H
       have p214 : 0 ≤ (x4_1 : Int) := of_decide_eq_true AX
       have q214 : x4_1 < (l0.length : Int) := of_decide_eq_true AX
       obtain ⟨ad214, e214, hx214_0⟩ := Kd.at_int HR0.out x4_1 p214 q214
       cases e214
       replace hx214_0 := (HB.out.cell (World.block_lt_of_cell? w _ hx214_0)).trans hx214_0
       replace p214 := eq_true p214
       replace q214 := eq_true q214
       obtain ⟨Ao8, co8, eo8⟩ := Kd.R_slice HO_3.out
       subst eo8
       go_wp2_with (first | ((with_reducible refine gate_callee (f := 17) rfl ?_); refine goesL_ (some 16) rfl rfl Try.func17 (by kernel_rfl) rfl #[.slice Ao8 x3_1.length co8, .int .i64 (rd l0 x4_1)] rfl MX ?_; (with_reducible refine (treemergeref32_Has.calls k1 _ _ x3_1 (rd l0 x4_1) false _ ?side1 ?side2 A4.out).mono ?_); (case side1 => exact CX ((Kd.R_reads' HO_3.out).2.2)); (case side2 => exact (Kd.R_reads' HO_3.out).2.1); rintro e w' ⟨rfl, ⟨nd, rfl⟩⟩; refine ⟨_, rfl, ?_⟩; have p216 : 0 ≤ (x4_1 : Int) := of_decide_eq_true AX; have q216 : x4_1 < (l0.length : Int) := of_decide_eq_true AX; obtain ⟨ad216, e216, hx216_0⟩ := Kd.at_int HR0.out x4_1 p216 q216; obtain rfl : ad214 = ad216 := (by injection e216); replace hx216_0 := (HB.out.cell (World.block_lt_of_cell? w _ hx216_0)).trans hx216_0; replace p216 := eq_true p216; replace q216 := eq_true q216) | ((with_reducible refine gate_builtin (b := .append) (xs := #[.tmp 18, .tmp 23]) rfl ?_); at_builtin; refine Kd.R_append (Kd.int .i64) (w0 := w) w.heap.size rfl (.tmp 18) (.tmp 23) 22 3 (.int .i64 0) 8 rfl Try.underlying22 info3 rfl (by decide) (by omega) (.slice Ao8 x3_1.length co8) x3_1 (rd l0 x4_1) [.int .i64 (rd l0 x4_1)] (fun _ => True) (fun _ => False) rfl rfl ?aP (fun _ hk => hk.elim) ?aF ?aO ?aB ?aS ?aL ?_; (case aP => exact rfl); (case aB => exact (BX HB.out)); (case aF => exact (fun _ _ => trivial)); (case aO => exact (RX HO_3.out)); (case aS => exact (below_size (BX HB.out))); (case aL => have := LMc7.out; omega); intro v218 w9 ho hb hg hat; rw [← Ny217.out] at ho; have n0_ := Aside0.mk (hb); have n1_ := Aside0.mk (ho); clear HB; clear HO_3; have HB := n0_; have HO219 := n1_; clear n0_ n1_; clear ho hb hg hat))
       go_roundg k1
       case measure => have := HK1.out; omega
       case rel => exact ⟨(y217), (wrap64 (x4_1 + 1)), SX, H', ⟨by have := HK1.out; omega⟩, ⟨RX HO219.out⟩, ⟨BX HB.out⟩⟩
      ·rw [if_neg c7] at H
       exact absurd H (by simp)
    ·rw [if_neg c3] at H
     exact absurd H (by simp)
   ·rw [if_neg c2] at H
    have c2b0 : decide (x4_1 < (l0.length : Int)) = false := decide_eq_false c2
    clear c2
    obtain rfl := Option.some.inj H
    go_wp2
    go_ret
    exact ⟨_, by first | rfl | (simp [errW_none, errW_some] <;> rfl) | (simp [*, errW_none, errW_some] <;> rfl), by (with_reducible repeat (first | apply Kd.R_alloc | apply Kd.R_drewN | apply Kd.R_drew)); exact HO_3.out, BX HB.out⟩

end Go.Proofs.Ytdbgdkbpamekpaa.Q
