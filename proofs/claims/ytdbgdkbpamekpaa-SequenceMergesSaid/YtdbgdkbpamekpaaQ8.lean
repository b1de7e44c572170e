-- Written by a program of this session (mk.py) out of the translation; Lean checks it.
import Derived.Test.YtdbgdkbpamekpaaQ0
import Derived.Test.YtdbgdkbpamekpaaQ1
import Derived.Test.YtdbgdkbpamekpaaQ7
namespace Go.Proofs.Ytdbgdkbpamekpaa.Q
open Go.RowKit Go.Proofs.YtdbgdkbpamekpaaW.PrintWords Go.Proofs.YtdbgdkbpamekpaaW.PrintLast Go.Proofs.YtdbgdkbpamekpaaW.PrintMore
attribute [local go_sem] max2_int min2_int max_two min_two max_three min_three max_four min_four   -- for this text's walks alone
set_option linter.unusedVariables false
set_option linter.unusedSimpArgs false

/-! ### treemergeref32_Kept: function 21 -/
mutual
def treemergeref32_Kept.l0 : Nat → List Int → List Int → List Int → List Int → Int → Option (List Int)
 | 0, _, _, _, _, _ => none
 | k + 1, x0, x1, x2, x7, x8 => if x8 < (x0.length : Int) then (if 0 ≤ x8 then ((treemergeref32_Has.f k x1 (rd x0 x8)).bind fun t184 => (if t184 = true then ((treemergeref32_Has.f k x2 (rd x0 x8)).bind fun t186 => (if t186 = true then ((treemergeref32_Has.f k x7 (rd x0 x8)).bind fun t188 => (if t188 = true then (treemergeref32_Kept.l0 k x0 x1 x2 x7 (wrap64 (x8 + 1))) else (if x7.length < 17592186044416 then (treemergeref32_Kept.l0 k x0 x1 x2 (x7 ++ [rd x0 x8]) (wrap64 (x8 + 1))) else (none)))) else (treemergeref32_Kept.l0 k x0 x1 x2 x7 (wrap64 (x8 + 1))))) else (treemergeref32_Kept.l0 k x0 x1 x2 x7 (wrap64 (x8 + 1))))) else (none)) else (treemergeref32_Kept.l1 k x0 x1 x2 x7 ([] : List Int) 0)
def treemergeref32_Kept.l1 : Nat → List Int → List Int → List Int → List Int → List Int → Int → Option (List Int)
 | 0, _, _, _, _, _, _ => none
 | k + 1, x0, x1, x2, x7, x9, x10 => if x10 < (x1.length : Int) then (if 0 ≤ x10 then ((treemergeref32_Has.f k x0 (rd x1 x10)).bind fun t194 => (if t194 = true then (treemergeref32_Kept.l1 k x0 x1 x2 x7 x9 (wrap64 (x10 + 1))) else ((treemergeref32_Has.f k x9 (rd x1 x10)).bind fun t196 => (if t196 = true then (treemergeref32_Kept.l1 k x0 x1 x2 x7 x9 (wrap64 (x10 + 1))) else ((treemergeref32_put.f k x9 (rd x1 x10)).bind fun t198 => (treemergeref32_Kept.l1 k x0 x1 x2 x7 t198 (wrap64 (x10 + 1)))))))) else (none)) else (treemergeref32_Kept.l2 k x0 x2 x7 x9 0)
def treemergeref32_Kept.l2 : Nat → List Int → List Int → List Int → List Int → Int → Option (List Int)
 | 0, _, _, _, _, _ => none
 | k + 1, x0, x2, x7, x9, x11 => if x11 < (x2.length : Int) then (if 0 ≤ x11 then ((treemergeref32_Has.f k x0 (rd x2 x11)).bind fun t202 => (if t202 = true then (treemergeref32_Kept.l2 k x0 x2 x7 x9 (wrap64 (x11 + 1))) else ((treemergeref32_Has.f k x9 (rd x2 x11)).bind fun t204 => (if t204 = true then (treemergeref32_Kept.l2 k x0 x2 x7 x9 (wrap64 (x11 + 1))) else ((treemergeref32_put.f k x9 (rd x2 x11)).bind fun t206 => (treemergeref32_Kept.l2 k x0 x2 x7 t206 (wrap64 (x11 + 1)))))))) else (none)) else (treemergeref32_Kept.l3 k x7 x9 0)
def treemergeref32_Kept.l3 : Nat → List Int → List Int → Int → Option (List Int)
 | 0, _, _, _ => none
 | k + 1, x7, x9, x12 => if x12 < (x9.length : Int) then (if 0 ≤ x12 then (if x7.length < 17592186044416 then (treemergeref32_Kept.l3 k (x7 ++ [rd x9 x12]) x9 (wrap64 (x12 + 1))) else (none)) else (none)) else (some x7)
end
def treemergeref32_Kept.f (k : Nat) (l0 : List Int) (l1 : List Int) (l2 : List Int) : Option (List Int) := treemergeref32_Kept.l0 k l0 l1 l2 ([] : List Int) 0
theorem treemergeref32_Kept.mono_l : ∀ k, (∀ y0 y1 y2 y3 y4, LeO (treemergeref32_Kept.l0 k y0 y1 y2 y3 y4) (treemergeref32_Kept.l0 (k + 1) y0 y1 y2 y3 y4)) ∧ (∀ y0 y1 y2 y3 y4 y5, LeO (treemergeref32_Kept.l1 k y0 y1 y2 y3 y4 y5) (treemergeref32_Kept.l1 (k + 1) y0 y1 y2 y3 y4 y5)) ∧ (∀ y0 y1 y2 y3 y4, LeO (treemergeref32_Kept.l2 k y0 y1 y2 y3 y4) (treemergeref32_Kept.l2 (k + 1) y0 y1 y2 y3 y4)) ∧ (∀ y0 y1 y2, LeO (treemergeref32_Kept.l3 k y0 y1 y2) (treemergeref32_Kept.l3 (k + 1) y0 y1 y2))
 | 0 => ⟨fun _ _ _ _ _ r h => by simp [treemergeref32_Kept.l0] at h, fun _ _ _ _ _ _ r h => by simp [treemergeref32_Kept.l1] at h, fun _ _ _ _ _ r h => by simp [treemergeref32_Kept.l2] at h, fun _ _ _ r h => by simp [treemergeref32_Kept.l3] at h⟩
 | k + 1 => by
  obtain ⟨ih0, ih1, ih2, ih3⟩ := treemergeref32_Kept.mono_l k
  refine ⟨?_, ?_, ?_, ?_⟩
  ·intro y0 y1 y2 y3 y4
   unfold treemergeref32_Kept.l0
   repeat' first
   | (with_reducible exact ih0 _ _ _ _ _)
   | (with_reducible exact ih1 _ _ _ _ _ _)
   | (with_reducible exact ih2 _ _ _ _ _)
   | (with_reducible exact ih3 _ _ _)
   | (with_reducible exact treemergeref32_Has.mono _ _ _)
   | (with_reducible exact treemergeref32_put.mono _ _ _)
   | (with_reducible exact LeO.refl _)
   | (with_reducible exact LeO.none _)
   | (with_reducible refine LeO.ite ?_ ?_)
   | (with_reducible refine LeO.bind ?_ (fun _ => ?_))
   | exact ih0 _ _ _ _ _
   | exact ih1 _ _ _ _ _ _
   | exact ih2 _ _ _ _ _
   | exact ih3 _ _ _
   | exact treemergeref32_Has.mono _ _ _
   | exact treemergeref32_put.mono _ _ _
   | exact LeO.none _
   | refine LeO.ite ?_ ?_
   | refine LeO.bind ?_ (fun _ => ?_)
  ·intro y0 y1 y2 y3 y4 y5
   unfold treemergeref32_Kept.l1
   repeat' first
   | (with_reducible exact ih0 _ _ _ _ _)
   | (with_reducible exact ih1 _ _ _ _ _ _)
   | (with_reducible exact ih2 _ _ _ _ _)
   | (with_reducible exact ih3 _ _ _)
   | (with_reducible exact treemergeref32_Has.mono _ _ _)
   | (with_reducible exact treemergeref32_put.mono _ _ _)
   | (with_reducible exact LeO.refl _)
   | (with_reducible exact LeO.none _)
   | (with_reducible refine LeO.ite ?_ ?_)
   | (with_reducible refine LeO.bind ?_ (fun _ => ?_))
   | exact ih0 _ _ _ _ _
   | exact ih1 _ _ _ _ _ _
   | exact ih2 _ _ _ _ _
   | exact ih3 _ _ _
   | exact treemergeref32_Has.mono _ _ _
   | exact treemergeref32_put.mono _ _ _
   | exact LeO.none _
   | refine LeO.ite ?_ ?_
   | refine LeO.bind ?_ (fun _ => ?_)
  ·intro y0 y1 y2 y3 y4
   unfold treemergeref32_Kept.l2
   repeat' first
   | (with_reducible exact ih0 _ _ _ _ _)
   | (with_reducible exact ih1 _ _ _ _ _ _)
   | (with_reducible exact ih2 _ _ _ _ _)
   | (with_reducible exact ih3 _ _ _)
   | (with_reducible exact treemergeref32_Has.mono _ _ _)
   | (with_reducible exact treemergeref32_put.mono _ _ _)
   | (with_reducible exact LeO.refl _)
   | (with_reducible exact LeO.none _)
   | (with_reducible refine LeO.ite ?_ ?_)
   | (with_reducible refine LeO.bind ?_ (fun _ => ?_))
   | exact ih0 _ _ _ _ _
   | exact ih1 _ _ _ _ _ _
   | exact ih2 _ _ _ _ _
   | exact ih3 _ _ _
   | exact treemergeref32_Has.mono _ _ _
   | exact treemergeref32_put.mono _ _ _
   | exact LeO.none _
   | refine LeO.ite ?_ ?_
   | refine LeO.bind ?_ (fun _ => ?_)
  ·intro y0 y1 y2
   unfold treemergeref32_Kept.l3
   repeat' first
   | (with_reducible exact ih0 _ _ _ _ _)
   | (with_reducible exact ih1 _ _ _ _ _ _)
   | (with_reducible exact ih2 _ _ _ _ _)
   | (with_reducible exact ih3 _ _ _)
   | (with_reducible exact treemergeref32_Has.mono _ _ _)
   | (with_reducible exact treemergeref32_put.mono _ _ _)
   | (with_reducible exact LeO.refl _)
   | (with_reducible exact LeO.none _)
   | (with_reducible refine LeO.ite ?_ ?_)
   | (with_reducible refine LeO.bind ?_ (fun _ => ?_))
   | exact ih0 _ _ _ _ _
   | exact ih1 _ _ _ _ _ _
   | exact ih2 _ _ _ _ _
   | exact ih3 _ _ _
   | exact treemergeref32_Has.mono _ _ _
   | exact treemergeref32_put.mono _ _ _
   | exact LeO.none _
   | refine LeO.ite ?_ ?_
   | refine LeO.bind ?_ (fun _ => ?_)
theorem treemergeref32_Kept.mono : ∀ a0 a1 a2 k, LeO (treemergeref32_Kept.f k a0 a1 a2) (treemergeref32_Kept.f (k + 1) a0 a1 a2) := by
 intro a0 a1 a2 k
 obtain ⟨ih0, ih1, ih2, ih3⟩ := treemergeref32_Kept.mono_l k
 unfold treemergeref32_Kept.f
 repeat' first
   | (with_reducible exact ih0 _ _ _ _ _)
   | (with_reducible exact ih1 _ _ _ _ _ _)
   | (with_reducible exact ih2 _ _ _ _ _)
   | (with_reducible exact ih3 _ _ _)
   | (with_reducible exact treemergeref32_Has.mono _ _ _)
   | (with_reducible exact treemergeref32_put.mono _ _ _)
   | (with_reducible exact LeO.refl _)
   | (with_reducible exact LeO.none _)
   | (with_reducible refine LeO.ite ?_ ?_)
   | (with_reducible refine LeO.bind ?_ (fun _ => ?_))
   | exact ih0 _ _ _ _ _
   | exact ih1 _ _ _ _ _ _
   | exact ih2 _ _ _ _ _
   | exact ih3 _ _ _
   | exact treemergeref32_Has.mono _ _ _
   | exact treemergeref32_put.mono _ _ _
   | exact LeO.none _
   | refine LeO.ite ?_ ?_
   | refine LeO.bind ?_ (fun _ => ?_)
set_option maxHeartbeats 8000000 in
set_option maxRecDepth 100000 in
theorem treemergeref32_Kept.calls (k : Nat) (A0 : Option Addr) (c0 : Nat) (l0 : List Int) (A1 : Option Addr) (c1 : Nat) (l1 : List Int) (A2 : Option Addr) (c2 : Nat) (l2 : List Int) (r : List Int) (w : World) (hr0 : Kd.C (Kd.int .i64) w A0 l0.length l0) (hc0 : l0.length ≤ c0) (hr1 : Kd.C (Kd.int .i64) w A1 l1.length l1) (hc1 : l1.length ≤ c1) (hr2 : Kd.C (Kd.int .i64) w A2 l2.length l2) (hc2 : l2.length ≤ c2) (h : treemergeref32_Kept.f k l0 l1 l2 = some r) :
  Calls Try.prog 21 #[.slice A0 l0.length c0, .slice A1 l1.length c1, .slice A2 l2.length c2] w fun e w' => ∃ v0_ : Value, e = .returned (v0_) ∧ Kd.R (Kd.int .i64) 3 w' w.heap.size (fun _ => True) v0_ r ∧ Below w.heap.size w w' := by
 have HR0 := Aside0.mk hr0
 have HC0 := Aside0.mk hc0
 clear hr0 hc0
 have HR1 := Aside0.mk hr1
 have HC1 := Aside0.mk hc1
 clear hr1 hc1
 have HR2 := Aside0.mk hr2
 have HC2 := Aside0.mk hc2
 clear hr2 hc2
 have HB := Aside0.mk (Below.refl w.heap.size w)
 have H : (treemergeref32_Kept.l0 k l0 l1 l2 ([] : List Int) 0) = some r := h
 clear h
 have H' := Aside0.mk H
 clear H
 go_enter Try.func21, Try.ntmps21
 go_wp2
 go_loopg [7, 8] k (fun kq v7 v8 w' => ∃ (x7_1 : List Int) (x8_1 : Int), v8 = .int .i64 x8_1 ∧ Aside0 (treemergeref32_Kept.l0 kq l0 l1 l2 x7_1 x8_1 = some r) ∧ Aside0 (kq ≤ k) ∧ Aside0 (Kd.R (Kd.int .i64) 3 w' w.heap.size (fun _ => True) v7 x7_1) ∧ Aside0 (Below w.heap.size w w'))
 case atStart => exact ⟨(([] : List Int)), (0), SX, H', ⟨Nat.le_refl _⟩, ⟨NX⟩, ⟨BX HB.out⟩⟩
 case round =>
  clear H'
  try clear c1
  try clear c2
  try clear p2
  obtain ⟨x7_1, x8_1, rfl, HA, HK1, HO_7, HB⟩ := hrel
  cases gk with
  | zero => exact absurd HA.out (by simp [treemergeref32_Kept.l0])
  | succ k1 =>
   have H := HA.out
   clear HA
   simp only [treemergeref32_Kept.l0] at H
   by_cases c4 : x8_1 < (l0.length : Int)
   ·rw [if_pos c4] at H
    have c4b0 : decide (x8_1 < (l0.length : Int)) = true := decide_eq_true c4
    clear c4
    by_cases c5 : 0 ≤ x8_1
    ·rw [if_pos c5] at H
     have c5b0 : decide (0 ≤ x8_1) = true := decide_eq_true c5
     clear c5
     replace H := Option.bind_eq_some_iff.mp H
     obtain ⟨t184, A60, H⟩ := H
     replace H : (if t184 = true then ((treemergeref32_Has.f k1 l2 (rd l0 x8_1)).bind fun t186 => (if t186 = true then ((treemergeref32_Has.f k1 x7_1 (rd l0 x8_1)).bind fun t188 => (if t188 = true then (treemergeref32_Kept.l0 k1 l0 l1 l2 x7_1 (wrap64 (x8_1 + 1))) else (if x7_1.length < 17592186044416 then (treemergeref32_Kept.l0 k1 l0 l1 l2 (x7_1 ++ [rd l0 x8_1]) (wrap64 (x8_1 + 1))) else (none)))) else (treemergeref32_Kept.l0 k1 l0 l1 l2 x7_1 (wrap64 (x8_1 + 1))))) else (treemergeref32_Kept.l0 k1 l0 l1 l2 x7_1 (wrap64 (x8_1 + 1)))) = some r := H
     have A6 := Aside0.mk A60
     clear A60
     by_cases c7 : t184 = true
     ·subst c7
      have H1 : ((treemergeref32_Has.f k1 l2 (rd l0 x8_1)).bind fun t186 => (if t186 = true then ((treemergeref32_Has.f k1 x7_1 (rd l0 x8_1)).bind fun t188 => (if t188 = true then (treemergeref32_Kept.l0 k1 l0 l1 l2 x7_1 (wrap64 (x8_1 + 1))) else (if x7_1.length < 17592186044416 then (treemergeref32_Kept.l0 k1 l0 l1 l2 (x7_1 ++ [rd l0 x8_1]) (wrap64 (x8_1 + 1))) else (none)))) else (treemergeref32_Kept.l0 k1 l0 l1 l2 x7_1 (wrap64 (x8_1 + 1))))) = some r := by rw [if_pos rfl] at H; exact H
      clear H
      have H := H1
      clear H1
      replace H := Option.bind_eq_some_iff.mp H
      obtain ⟨t186, A80, H⟩ := H
      replace H : (if t186 = true then ((treemergeref32_Has.f k1 x7_1 (rd l0 x8_1)).bind fun t188 => (if t188 = true then (treemergeref32_Kept.l0 k1 l0 l1 l2 x7_1 (wrap64 (x8_1 + 1))) else (if x7_1.length < 17592186044416 then (treemergeref32_Kept.l0 k1 l0 l1 l2 (x7_1 ++ [rd l0 x8_1]) (wrap64 (x8_1 + 1))) else (none)))) else (treemergeref32_Kept.l0 k1 l0 l1 l2 x7_1 (wrap64 (x8_1 + 1)))) = some r := H
      have A8 := Aside0.mk A80
      clear A80
      by_cases c9 : t186 = true
      ·subst c9
       have H1 : ((treemergeref32_Has.f k1 x7_1 (rd l0 x8_1)).bind fun t188 => (if t188 = true then (treemergeref32_Kept.l0 k1 l0 l1 l2 x7_1 (wrap64 (x8_1 + 1))) else (if x7_1.length < 17592186044416 then (treemergeref32_Kept.l0 k1 l0 l1 l2 (x7_1 ++ [rd l0 x8_1]) (wrap64 (x8_1 + 1))) else (none)))) = some r := by rw [if_pos rfl] at H; exact H
       clear H
       have H := H1
       clear H1
       replace H := Option.bind_eq_some_iff.mp H
       obtain ⟨t188, A100, H⟩ := H
       replace H : (if t188 = true then (treemergeref32_Kept.l0 k1 l0 l1 l2 x7_1 (wrap64 (x8_1 + 1))) else (if x7_1.length < 17592186044416 then (treemergeref32_Kept.l0 k1 l0 l1 l2 (x7_1 ++ [rd l0 x8_1]) (wrap64 (x8_1 + 1))) else (none))) = some r := H
       have A10 := Aside0.mk A100
       clear A100
       by_cases c11 : t188 = true
       ·subst c11
        have H1 : (treemergeref32_Kept.l0 k1 l0 l1 l2 x7_1 (wrap64 (x8_1 + 1))) = some r := by rw [if_pos rfl] at H; exact H
        clear H
        have H := H1
        clear H1
        have H' := Aside0.mk H
        clear H
        have p183 : 0 ≤ (x8_1 : Int) := of_decide_eq_true AX
        have q183 : x8_1 < (l0.length : Int) := of_decide_eq_true AX
        obtain ⟨ad183, e183, hx183_0⟩ := Kd.at_int HR0.out x8_1 p183 q183
        cases e183
        replace hx183_0 := (HB.out.cell (World.block_lt_of_cell? w _ hx183_0)).trans hx183_0
        replace p183 := eq_true p183
        replace q183 := eq_true q183
        go_wp2_with (first | ((with_reducible refine gate_callee (f := 17) rfl ?_); refine goesL_ (some 24) rfl rfl Try.func17 (by kernel_rfl) rfl #[.slice A1 l1.length c1, .int .i64 (rd l0 x8_1)] rfl MX ?_; (with_reducible refine (treemergeref32_Has.calls k1 _ _ l1 (rd l0 x8_1) true _ ?side1 ?side2 A6.out).mono ?_); (case side1 => exact CX (Kd.C_below HR1.out HB.out)); (case side2 => exact HC1.out); rintro e w' ⟨rfl, ⟨nd, rfl⟩⟩; refine ⟨_, rfl, ?_⟩; have p185 : 0 ≤ (x8_1 : Int) := of_decide_eq_true AX; have q185 : x8_1 < (l0.length : Int) := of_decide_eq_true AX; obtain ⟨ad185, e185, hx185_0⟩ := Kd.at_int HR0.out x8_1 p185 q185; obtain rfl : ad183 = ad185 := (by injection e185); replace hx185_0 := (HB.out.cell (World.block_lt_of_cell? w _ hx185_0)).trans hx185_0; replace p185 := eq_true p185; replace q185 := eq_true q185) | (go_at_call 17; (with_reducible refine (treemergeref32_Has.calls k1 _ _ l2 (rd l0 x8_1) true _ ?side1 ?side2 A8.out).mono ?_); (case side1 => exact CX (Kd.C_below HR2.out (BX HB.out))); (case side2 => exact HC2.out); rintro e w' ⟨rfl, ⟨nd, rfl⟩⟩; have p187 : 0 ≤ (x8_1 : Int) := of_decide_eq_true AX; have q187 : x8_1 < (l0.length : Int) := of_decide_eq_true AX; obtain ⟨ad187, e187, hx187_0⟩ := Kd.at_int HR0.out x8_1 p187 q187; obtain rfl : ad183 = ad187 := (by injection e187); replace hx187_0 := (HB.out.cell (World.block_lt_of_cell? w _ hx187_0)).trans hx187_0; replace p187 := eq_true p187; replace q187 := eq_true q187; obtain ⟨Ao12, co12, eo12⟩ := Kd.R_slice HO_7.out; subst eo12) | (go_at_call 17; (with_reducible refine (treemergeref32_Has.calls k1 _ _ x7_1 (rd l0 x8_1) true _ ?side1 ?side2 A10.out).mono ?_); (case side1 => exact CX ((Kd.R_reads' HO_7.out).2.2)); (case side2 => exact (Kd.R_reads' HO_7.out).2.1); rintro e w' ⟨rfl, ⟨nd, rfl⟩⟩))
        go_roundg k1
        case measure => have := HK1.out; omega
        case rel => exact ⟨(x7_1), (wrap64 (x8_1 + 1)), SX, H', ⟨by have := HK1.out; omega⟩, ⟨RX HO_7.out⟩, ⟨BX HB.out⟩⟩
       ·replace c11 := Bool.eq_false_iff.mpr c11
        subst c11
        have H1 : (if x7_1.length < 17592186044416 then (treemergeref32_Kept.l0 k1 l0 l1 l2 (x7_1 ++ [rd l0 x8_1]) (wrap64 (x8_1 + 1))) else (none)) = some r := by rw [if_neg (show ¬ (false = true) by decide)] at H; exact H
        clear H
        have H := H1
        clear H1
        by_cases c13 : x7_1.length < 17592186044416
        ·rw [if_pos c13] at H
         have LMc13 := Aside0.mk c13
         clear c13
         obtain ⟨y190, hy190⟩ : ∃ y_ : List Int, y_ = (x7_1 ++ [rd l0 x8_1]) := ⟨_, rfl⟩
         replace H : (treemergeref32_Kept.l0 k1 l0 l1 l2 y190 (wrap64 (x8_1 + 1))) = some r := by first | (rw [hy190]; with_reducible exact H) | (have H2_ := (Option.bind_some _ _).symm.trans H; rw [hy190]; with_reducible exact H2_) | (have H2_ := (Option.bind_some _ _).symm.trans H; with_reducible exact H2_) | with_reducible exact H | (rw [hy190]; exact H) | exact H
         have Ny190 := Aside0.mk hy190
         clear hy190
         have H' := Aside0.mk H
         clear H
         have p183 : 0 ≤ (x8_1 : Int) := of_decide_eq_true AX
         have q183 : x8_1 < (l0.length : Int) := of_decide_eq_true AX
         obtain ⟨ad183, e183, hx183_0⟩ := Kd.at_int HR0.out x8_1 p183 q183
         cases e183
         replace hx183_0 := (HB.out.cell (World.block_lt_of_cell? w _ hx183_0)).trans hx183_0
         replace p183 := eq_true p183
         replace q183 := eq_true q183
         go_wp2_with (first | ((with_reducible refine gate_callee (f := 17) rfl ?_); refine goesL_ (some 24) rfl rfl Try.func17 (by kernel_rfl) rfl #[.slice A1 l1.length c1, .int .i64 (rd l0 x8_1)] rfl MX ?_; (with_reducible refine (treemergeref32_Has.calls k1 _ _ l1 (rd l0 x8_1) true _ ?side1 ?side2 A6.out).mono ?_); (case side1 => exact CX (Kd.C_below HR1.out HB.out)); (case side2 => exact HC1.out); rintro e w' ⟨rfl, ⟨nd, rfl⟩⟩; refine ⟨_, rfl, ?_⟩; have p185 : 0 ≤ (x8_1 : Int) := of_decide_eq_true AX; have q185 : x8_1 < (l0.length : Int) := of_decide_eq_true AX; obtain ⟨ad185, e185, hx185_0⟩ := Kd.at_int HR0.out x8_1 p185 q185; obtain rfl : ad183 = ad185 := (by injection e185); replace hx185_0 := (HB.out.cell (World.block_lt_of_cell? w _ hx185_0)).trans hx185_0; replace p185 := eq_true p185; replace q185 := eq_true q185) | (go_at_call 17; (with_reducible refine (treemergeref32_Has.calls k1 _ _ l2 (rd l0 x8_1) true _ ?side1 ?side2 A8.out).mono ?_); (case side1 => exact CX (Kd.C_below HR2.out (BX HB.out))); (case side2 => exact HC2.out); rintro e w' ⟨rfl, ⟨nd, rfl⟩⟩; have p187 : 0 ≤ (x8_1 : Int) := of_decide_eq_true AX; have q187 : x8_1 < (l0.length : Int) := of_decide_eq_true AX; obtain ⟨ad187, e187, hx187_0⟩ := Kd.at_int HR0.out x8_1 p187 q187; obtain rfl : ad183 = ad187 := (by injection e187); replace hx187_0 := (HB.out.cell (World.block_lt_of_cell? w _ hx187_0)).trans hx187_0; replace p187 := eq_true p187; replace q187 := eq_true q187; obtain ⟨Ao14, co14, eo14⟩ := Kd.R_slice HO_7.out; subst eo14) | (go_at_call 17; (with_reducible refine (treemergeref32_Has.calls k1 _ _ x7_1 (rd l0 x8_1) false _ ?side1 ?side2 A10.out).mono ?_); (case side1 => exact CX ((Kd.R_reads' HO_7.out).2.2)); (case side2 => exact (Kd.R_reads' HO_7.out).2.1); rintro e w' ⟨rfl, ⟨nd, rfl⟩⟩; have p189 : 0 ≤ (x8_1 : Int) := of_decide_eq_true AX; have q189 : x8_1 < (l0.length : Int) := of_decide_eq_true AX; obtain ⟨ad189, e189, hx189_0⟩ := Kd.at_int HR0.out x8_1 p189 q189; obtain rfl : ad183 = ad189 := (by injection e189); replace hx189_0 := (HB.out.cell (World.block_lt_of_cell? w _ hx189_0)).trans hx189_0; replace p189 := eq_true p189; replace q189 := eq_true q189) | ((with_reducible refine gate_builtin (b := .append) (xs := #[.tmp 42, .tmp 47]) rfl ?_); at_builtin; refine Kd.R_append (Kd.int .i64) (w0 := w) w.heap.size rfl (.tmp 42) (.tmp 47) 22 3 (.int .i64 0) 8 rfl Try.underlying22 info3 rfl (by decide) (by omega) (.slice Ao14 x7_1.length co14) x7_1 (rd l0 x8_1) [.int .i64 (rd l0 x8_1)] (fun _ => True) (fun _ => False) rfl rfl ?aP (fun _ hk => hk.elim) ?aF ?aO ?aB ?aS ?aL ?_; (case aP => exact rfl); (case aB => exact (BX HB.out)); (case aF => exact (fun _ _ => trivial)); (case aO => exact (RX HO_7.out)); (case aS => exact (below_size (BX HB.out))); (case aL => have := LMc13.out; omega); intro v191 w15 ho hb hg hat; rw [← Ny190.out] at ho; have n0_ := Aside0.mk (hb); have n1_ := Aside0.mk (ho); clear HB; clear HO_7; have HB := n0_; have HO192 := n1_; clear n0_ n1_; clear ho hb hg hat))
         go_roundg k1
         case measure => have := HK1.out; omega
         case rel => exact ⟨(y190), (wrap64 (x8_1 + 1)), SX, H', ⟨by have := HK1.out; omega⟩, ⟨RX HO192.out⟩, ⟨BX HB.out⟩⟩
        ·rw [if_neg c13] at H
         exact absurd H (by simp)
      ·replace c9 := Bool.eq_false_iff.mpr c9
       subst c9
       have H1 : (treemergeref32_Kept.l0 k1 l0 l1 l2 x7_1 (wrap64 (x8_1 + 1))) = some r := by rw [if_neg (show ¬ (false = true) by decide)] at H; exact H
       clear H
       have H := H1
       clear H1
       have H' := Aside0.mk H
       clear H
       have p183 : 0 ≤ (x8_1 : Int) := of_decide_eq_true AX
       have q183 : x8_1 < (l0.length : Int) := of_decide_eq_true AX
       obtain ⟨ad183, e183, hx183_0⟩ := Kd.at_int HR0.out x8_1 p183 q183
       cases e183
       replace hx183_0 := (HB.out.cell (World.block_lt_of_cell? w _ hx183_0)).trans hx183_0
       replace p183 := eq_true p183
       replace q183 := eq_true q183
       go_wp2_with (first | ((with_reducible refine gate_callee (f := 17) rfl ?_); refine goesL_ (some 24) rfl rfl Try.func17 (by kernel_rfl) rfl #[.slice A1 l1.length c1, .int .i64 (rd l0 x8_1)] rfl MX ?_; (with_reducible refine (treemergeref32_Has.calls k1 _ _ l1 (rd l0 x8_1) true _ ?side1 ?side2 A6.out).mono ?_); (case side1 => exact CX (Kd.C_below HR1.out HB.out)); (case side2 => exact HC1.out); rintro e w' ⟨rfl, ⟨nd, rfl⟩⟩; refine ⟨_, rfl, ?_⟩; have p185 : 0 ≤ (x8_1 : Int) := of_decide_eq_true AX; have q185 : x8_1 < (l0.length : Int) := of_decide_eq_true AX; obtain ⟨ad185, e185, hx185_0⟩ := Kd.at_int HR0.out x8_1 p185 q185; obtain rfl : ad183 = ad185 := (by injection e185); replace hx185_0 := (HB.out.cell (World.block_lt_of_cell? w _ hx185_0)).trans hx185_0; replace p185 := eq_true p185; replace q185 := eq_true q185) | (go_at_call 17; (with_reducible refine (treemergeref32_Has.calls k1 _ _ l2 (rd l0 x8_1) false _ ?side1 ?side2 A8.out).mono ?_); (case side1 => exact CX (Kd.C_below HR2.out (BX HB.out))); (case side2 => exact HC2.out); rintro e w' ⟨rfl, ⟨nd, rfl⟩⟩))
       go_roundg k1
       case measure => have := HK1.out; omega
       case rel => exact ⟨(x7_1), (wrap64 (x8_1 + 1)), SX, H', ⟨by have := HK1.out; omega⟩, ⟨RX HO_7.out⟩, ⟨BX HB.out⟩⟩
     ·replace c7 := Bool.eq_false_iff.mpr c7
      subst c7
      have H1 : (treemergeref32_Kept.l0 k1 l0 l1 l2 x7_1 (wrap64 (x8_1 + 1))) = some r := by rw [if_neg (show ¬ (false = true) by decide)] at H; exact H
      clear H
      have H := H1
      clear H1
      have H' := Aside0.mk H
      clear H
      have p183 : 0 ≤ (x8_1 : Int) := of_decide_eq_true AX
      have q183 : x8_1 < (l0.length : Int) := of_decide_eq_true AX
      obtain ⟨ad183, e183, hx183_0⟩ := Kd.at_int HR0.out x8_1 p183 q183
      cases e183
      replace hx183_0 := (HB.out.cell (World.block_lt_of_cell? w _ hx183_0)).trans hx183_0
      replace p183 := eq_true p183
      replace q183 := eq_true q183
      go_wp2_with (first | ((with_reducible refine gate_callee (f := 17) rfl ?_); refine goesL_ (some 24) rfl rfl Try.func17 (by kernel_rfl) rfl #[.slice A1 l1.length c1, .int .i64 (rd l0 x8_1)] rfl MX ?_; (with_reducible refine (treemergeref32_Has.calls k1 _ _ l1 (rd l0 x8_1) false _ ?side1 ?side2 A6.out).mono ?_); (case side1 => exact CX (Kd.C_below HR1.out HB.out)); (case side2 => exact HC1.out); rintro e w' ⟨rfl, ⟨nd, rfl⟩⟩; refine ⟨_, rfl, ?_⟩))
      go_roundg k1
      case measure => have := HK1.out; omega
      case rel => exact ⟨(x7_1), (wrap64 (x8_1 + 1)), SX, H', ⟨by have := HK1.out; omega⟩, ⟨RX HO_7.out⟩, ⟨BX HB.out⟩⟩
    ·rw [if_neg c5] at H
     exact absurd H (by simp)
   ·rw [if_neg c4] at H
    have c4b0 : decide (x8_1 < (l0.length : Int)) = false := decide_eq_false c4
    clear c4
    have H' := Aside0.mk H
    clear H
    go_wp2
    go_loopg [9, 10] k1 (fun kq v9 v10 w' => ∃ (x9_2 : List Int) (x10_2 : Int), v10 = .int .i64 x10_2 ∧ Aside0 (treemergeref32_Kept.l1 kq l0 l1 l2 x7_1 x9_2 x10_2 = some r) ∧ Aside0 (kq ≤ k1) ∧ Aside0 (Kd.R (Kd.int .i64) 3 w' w.heap.size (fun k_ => some k_ ≠ (v9 : Value).ownBlock) u7 x7_1) ∧ Aside0 (Kd.R (Kd.int .i64) 3 w' w.heap.size (fun k_ => some k_ ≠ (u7 : Value).ownBlock) v9 x9_2) ∧ Aside0 (Below w.heap.size w w'))
    case atStart => exact ⟨(([] : List Int)), (0), SX, H', ⟨Nat.le_refl _⟩, ⟨by (with_reducible repeat (first | apply Kd.R_alloc | apply Kd.R_drewN | apply Kd.R_drew)); exact Kd.R_mono HO_7.out (fun _ hk => (by simp [Value.ownBlock]))⟩, ⟨NX⟩, ⟨BX HB.out⟩⟩
    case round =>
     clear H'
     try clear c1
     try clear p1
     try clear q1
     try clear hx1
     try clear c2
     try clear p2
     try clear c4
     try clear c4b0
     try clear c5
     try clear c5b0
     try clear p6
     try clear c7
     try clear c9
     try clear c11
     try clear c13
     try clear hx183_0
     try clear hx185_0
     try clear hx187_0
     try clear hx189_0
     try clear p183
     try clear p185
     try clear p187
     try clear p189
     try clear p2
     try clear q183
     try clear q185
     try clear q187
     try clear q189
     obtain ⟨x9_2, x10_2, rfl, HA, HK2, HO_7, HO_9, HB⟩ := hrel
     cases gk with
     | zero => exact absurd HA.out (by simp [treemergeref32_Kept.l1])
     | succ k2 =>
      have H := HA.out
      clear HA
      simp only [treemergeref32_Kept.l1] at H
      by_cases c16 : x10_2 < (l1.length : Int)
      ·rw [if_pos c16] at H
       have c16b0 : decide (x10_2 < (l1.length : Int)) = true := decide_eq_true c16
       clear c16
       by_cases c17 : 0 ≤ x10_2
       ·rw [if_pos c17] at H
        have c17b0 : decide (0 ≤ x10_2) = true := decide_eq_true c17
        clear c17
        replace H := Option.bind_eq_some_iff.mp H
        obtain ⟨t194, A180, H⟩ := H
        replace H : (if t194 = true then (treemergeref32_Kept.l1 k2 l0 l1 l2 x7_1 x9_2 (wrap64 (x10_2 + 1))) else ((treemergeref32_Has.f k2 x9_2 (rd l1 x10_2)).bind fun t196 => (if t196 = true then (treemergeref32_Kept.l1 k2 l0 l1 l2 x7_1 x9_2 (wrap64 (x10_2 + 1))) else ((treemergeref32_put.f k2 x9_2 (rd l1 x10_2)).bind fun t198 => (treemergeref32_Kept.l1 k2 l0 l1 l2 x7_1 t198 (wrap64 (x10_2 + 1))))))) = some r := H
        have A18 := Aside0.mk A180
        clear A180
        by_cases c19 : t194 = true
        ·subst c19
         have H1 : (treemergeref32_Kept.l1 k2 l0 l1 l2 x7_1 x9_2 (wrap64 (x10_2 + 1))) = some r := by rw [if_pos rfl] at H; exact H
         clear H
         have H := H1
         clear H1
         have H' := Aside0.mk H
         clear H
         have p193 : 0 ≤ (x10_2 : Int) := of_decide_eq_true AX
         have q193 : x10_2 < (l1.length : Int) := of_decide_eq_true AX
         obtain ⟨ad193, e193, hx193_0⟩ := Kd.at_int HR1.out x10_2 p193 q193
         cases e193
         replace hx193_0 := (HB.out.cell (World.block_lt_of_cell? w _ hx193_0)).trans hx193_0
         replace p193 := eq_true p193
         replace q193 := eq_true q193
         go_wp2_with (first | ((with_reducible refine gate_callee (f := 17) rfl ?_); refine goesL_ (some 60) rfl rfl Try.func17 (by kernel_rfl) rfl #[.slice A0 l0.length c0, .int .i64 (rd l1 x10_2)] rfl MX ?_; (with_reducible refine (treemergeref32_Has.calls k2 _ _ l0 (rd l1 x10_2) true _ ?side1 ?side2 A18.out).mono ?_); (case side1 => exact CX (Kd.C_below HR0.out HB.out)); (case side2 => exact HC0.out); rintro e w' ⟨rfl, ⟨nd, rfl⟩⟩; refine ⟨_, rfl, ?_⟩))
         go_roundg k2
         case measure => have := HK1.out; have := HK2.out; omega
         case rel => exact ⟨(x9_2), (wrap64 (x10_2 + 1)), SX, H', ⟨by have := HK1.out; have := HK2.out; omega⟩, ⟨RX HO_7.out⟩, ⟨RX HO_9.out⟩, ⟨BX HB.out⟩⟩
        ·replace c19 := Bool.eq_false_iff.mpr c19
         subst c19
         have H1 : ((treemergeref32_Has.f k2 x9_2 (rd l1 x10_2)).bind fun t196 => (if t196 = true then (treemergeref32_Kept.l1 k2 l0 l1 l2 x7_1 x9_2 (wrap64 (x10_2 + 1))) else ((treemergeref32_put.f k2 x9_2 (rd l1 x10_2)).bind fun t198 => (treemergeref32_Kept.l1 k2 l0 l1 l2 x7_1 t198 (wrap64 (x10_2 + 1)))))) = some r := by rw [if_neg (show ¬ (false = true) by decide)] at H; exact H
         clear H
         have H := H1
         clear H1
         replace H := Option.bind_eq_some_iff.mp H
         obtain ⟨t196, A200, H⟩ := H
         replace H : (if t196 = true then (treemergeref32_Kept.l1 k2 l0 l1 l2 x7_1 x9_2 (wrap64 (x10_2 + 1))) else ((treemergeref32_put.f k2 x9_2 (rd l1 x10_2)).bind fun t198 => (treemergeref32_Kept.l1 k2 l0 l1 l2 x7_1 t198 (wrap64 (x10_2 + 1))))) = some r := H
         have A20 := Aside0.mk A200
         clear A200
         by_cases c21 : t196 = true
         ·subst c21
          have H1 : (treemergeref32_Kept.l1 k2 l0 l1 l2 x7_1 x9_2 (wrap64 (x10_2 + 1))) = some r := by rw [if_pos rfl] at H; exact H
          clear H
          have H := H1
          clear H1
          have H' := Aside0.mk H
          clear H
          have p193 : 0 ≤ (x10_2 : Int) := of_decide_eq_true AX
          have q193 : x10_2 < (l1.length : Int) := of_decide_eq_true AX
          obtain ⟨ad193, e193, hx193_0⟩ := Kd.at_int HR1.out x10_2 p193 q193
          cases e193
          replace hx193_0 := (HB.out.cell (World.block_lt_of_cell? w _ hx193_0)).trans hx193_0
          replace p193 := eq_true p193
          replace q193 := eq_true q193
          go_wp2_with (first | ((with_reducible refine gate_callee (f := 17) rfl ?_); refine goesL_ (some 60) rfl rfl Try.func17 (by kernel_rfl) rfl #[.slice A0 l0.length c0, .int .i64 (rd l1 x10_2)] rfl MX ?_; (with_reducible refine (treemergeref32_Has.calls k2 _ _ l0 (rd l1 x10_2) false _ ?side1 ?side2 A18.out).mono ?_); (case side1 => exact CX (Kd.C_below HR0.out HB.out)); (case side2 => exact HC0.out); rintro e w' ⟨rfl, ⟨nd, rfl⟩⟩; refine ⟨_, rfl, ?_⟩; have p195 : 0 ≤ (x10_2 : Int) := of_decide_eq_true AX; have q195 : x10_2 < (l1.length : Int) := of_decide_eq_true AX; obtain ⟨ad195, e195, hx195_0⟩ := Kd.at_int HR1.out x10_2 p195 q195; obtain rfl : ad193 = ad195 := (by injection e195); replace hx195_0 := (HB.out.cell (World.block_lt_of_cell? w _ hx195_0)).trans hx195_0; replace p195 := eq_true p195; replace q195 := eq_true q195; obtain ⟨Ao22, co22, eo22⟩ := Kd.R_slice HO_9.out; subst eo22) | (go_at_call 17; (with_reducible refine (treemergeref32_Has.calls k2 _ _ x9_2 (rd l1 x10_2) true _ ?side1 ?side2 A20.out).mono ?_); (case side1 => exact CX ((Kd.R_reads' HO_9.out).2.2)); (case side2 => exact (Kd.R_reads' HO_9.out).2.1); rintro e w' ⟨rfl, ⟨nd, rfl⟩⟩))
          go_roundg k2
          case measure => have := HK1.out; have := HK2.out; omega
          case rel => exact ⟨(x9_2), (wrap64 (x10_2 + 1)), SX, H', ⟨by have := HK1.out; have := HK2.out; omega⟩, ⟨RX HO_7.out⟩, ⟨RX HO_9.out⟩, ⟨BX HB.out⟩⟩
         ·replace c21 := Bool.eq_false_iff.mpr c21
          subst c21
          have H1 : ((treemergeref32_put.f k2 x9_2 (rd l1 x10_2)).bind fun t198 => (treemergeref32_Kept.l1 k2 l0 l1 l2 x7_1 t198 (wrap64 (x10_2 + 1)))) = some r := by rw [if_neg (show ¬ (false = true) by decide)] at H; exact H
          clear H
          have H := H1
          clear H1
          replace H := Option.bind_eq_some_iff.mp H
          obtain ⟨t198, A230, H⟩ := H
          replace H : (treemergeref32_Kept.l1 k2 l0 l1 l2 x7_1 t198 (wrap64 (x10_2 + 1))) = some r := H
          have A23 := Aside0.mk A230
          clear A230
          have H' := Aside0.mk H
          clear H
          have p193 : 0 ≤ (x10_2 : Int) := of_decide_eq_true AX
          have q193 : x10_2 < (l1.length : Int) := of_decide_eq_true AX
          obtain ⟨ad193, e193, hx193_0⟩ := Kd.at_int HR1.out x10_2 p193 q193
          cases e193
          replace hx193_0 := (HB.out.cell (World.block_lt_of_cell? w _ hx193_0)).trans hx193_0
          replace p193 := eq_true p193
          replace q193 := eq_true q193
          go_wp2_with (first | ((with_reducible refine gate_callee (f := 17) rfl ?_); refine goesL_ (some 60) rfl rfl Try.func17 (by kernel_rfl) rfl #[.slice A0 l0.length c0, .int .i64 (rd l1 x10_2)] rfl MX ?_; (with_reducible refine (treemergeref32_Has.calls k2 _ _ l0 (rd l1 x10_2) false _ ?side1 ?side2 A18.out).mono ?_); (case side1 => exact CX (Kd.C_below HR0.out HB.out)); (case side2 => exact HC0.out); rintro e w' ⟨rfl, ⟨nd, rfl⟩⟩; refine ⟨_, rfl, ?_⟩; have p195 : 0 ≤ (x10_2 : Int) := of_decide_eq_true AX; have q195 : x10_2 < (l1.length : Int) := of_decide_eq_true AX; obtain ⟨ad195, e195, hx195_0⟩ := Kd.at_int HR1.out x10_2 p195 q195; obtain rfl : ad193 = ad195 := (by injection e195); replace hx195_0 := (HB.out.cell (World.block_lt_of_cell? w _ hx195_0)).trans hx195_0; replace p195 := eq_true p195; replace q195 := eq_true q195; obtain ⟨Ao24, co24, eo24⟩ := Kd.R_slice HO_9.out; subst eo24) | (go_at_call 17; (with_reducible refine (treemergeref32_Has.calls k2 _ _ x9_2 (rd l1 x10_2) false _ ?side1 ?side2 A20.out).mono ?_); (case side1 => exact CX ((Kd.R_reads' HO_9.out).2.2)); (case side2 => exact (Kd.R_reads' HO_9.out).2.1); rintro e w' ⟨rfl, ⟨nd, rfl⟩⟩; have p197 : 0 ≤ (x10_2 : Int) := of_decide_eq_true AX; have q197 : x10_2 < (l1.length : Int) := of_decide_eq_true AX; obtain ⟨ad197, e197, hx197_0⟩ := Kd.at_int HR1.out x10_2 p197 q197; obtain rfl : ad193 = ad197 := (by injection e197); replace hx197_0 := (HB.out.cell (World.block_lt_of_cell? w _ hx197_0)).trans hx197_0; replace p197 := eq_true p197; replace q197 := eq_true q197) | ((with_reducible refine gate_callee (f := 33) rfl ?_); refine goesL_ (some 76) rfl rfl Try.func33 (by kernel_rfl) rfl #[.slice Ao24 x9_2.length co24, .int .i64 (rd l1 x10_2)] rfl MX ?_; (with_reducible refine (treemergeref32_put.calls k2 _ _ x9_2 (rd l1 x10_2) t198 _ ?side1 ?side2 A23.out).mono ?_); (case side1 => exact CX ((Kd.R_reads' HO_9.out).2.2)); (case side2 => exact (Kd.R_reads' HO_9.out).2.1); rintro e w25 ⟨v199, rfl, ho0, hb⟩; refine ⟨_, rfl, ?_⟩; have n0_ := Aside0.mk (Kd.R_elder' (RX HO_7.out) (Kd.R_base ho0) hb); have n1_ := Aside0.mk (Kd.R_elder' (RX HO_9.out) (Kd.R_base ho0) hb); have n2_ := Aside0.mk (Kd.R_lower (Kd.R_new' (Kd.R_new' ho0 (Kd.R_lt (RX HO_7.out))) (Kd.R_lt (RX HO_9.out))) (below_size (BX HB.out))); have n3_ := Aside0.mk (below_step (BX HB.out) hb); clear HO_7; clear HO_9; clear HB; have HO_7 := n0_; have HO_9 := n1_; have HO200 := n2_; have HB := n3_; clear n0_ n1_ n2_ n3_; (try clear hb); (try clear hb2); (try clear hk); (try clear hi); (try clear ho0)))
          go_roundg k2
          case measure => have := HK1.out; have := HK2.out; omega
          case rel => exact ⟨(t198), (wrap64 (x10_2 + 1)), SX, H', ⟨by have := HK1.out; have := HK2.out; omega⟩, ⟨by (with_reducible repeat (first | apply Kd.R_alloc | apply Kd.R_drewN | apply Kd.R_drew)); exact Kd.R_mono HO_7.out (fun _ hk => hk.2)⟩, ⟨by (with_reducible repeat (first | apply Kd.R_alloc | apply Kd.R_drewN | apply Kd.R_drew)); exact Kd.R_mono HO200.out (fun _ hk => hk.1.2)⟩, ⟨BX HB.out⟩⟩
       ·rw [if_neg c17] at H
        exact absurd H (by simp)
      ·rw [if_neg c16] at H
       have c16b0 : decide (x10_2 < (l1.length : Int)) = false := decide_eq_false c16
       clear c16
       have H' := Aside0.mk H
       clear H
       go_wp2
       go_loopg [9, 11] k2 (fun kq v9 v11 w' => ∃ (x9_3 : List Int) (x11_3 : Int), v11 = .int .i64 x11_3 ∧ Aside0 (treemergeref32_Kept.l2 kq l0 l2 x7_1 x9_3 x11_3 = some r) ∧ Aside0 (kq ≤ k2) ∧ Aside0 (Kd.R (Kd.int .i64) 3 w' w.heap.size (fun k_ => some k_ ≠ (v9 : Value).ownBlock) u7 x7_1) ∧ Aside0 (Kd.R (Kd.int .i64) 3 w' w.heap.size (fun k_ => some k_ ≠ (u7 : Value).ownBlock) v9 x9_3) ∧ Aside0 (Below w.heap.size w w'))
       case atStart => exact ⟨(x9_2), (0), SX, H', ⟨Nat.le_refl _⟩, ⟨RX HO_7.out⟩, ⟨RX HO_9.out⟩, ⟨BX HB.out⟩⟩
       case round =>
        clear H'
        try clear c1
        try clear p1
        try clear q1
        try clear hx1
        try clear c2
        try clear p2
        try clear c3
        try clear c4
        try clear c4b0
        try clear c5
        try clear c5b0
        try clear p6
        try clear c7
        try clear c9
        try clear c11
        try clear c13
        try clear c16
        try clear c16b0
        try clear c17
        try clear c17b0
        try clear p18
        try clear q18
        try clear hx18
        try clear c19
        try clear p19
        try clear q19
        try clear hx19
        try clear c21
        try clear hx183_0
        try clear hx185_0
        try clear hx187_0
        try clear hx189_0
        try clear hx193_0
        try clear hx195_0
        try clear hx197_0
        try clear p1
        try clear p183
        try clear p185
        try clear p187
        try clear p189
        try clear p193
        try clear p195
        try clear p197
        try clear p2
        try clear p6
        try clear q1
        try clear q183
        try clear q185
        try clear q187
        try clear q189
        try clear q193
        try clear q195
        try clear q197
        obtain ⟨x9_3, x11_3, rfl, HA, HK3, HO_7, HO_9, HB⟩ := hrel
        cases gk with
        | zero => exact absurd HA.out (by simp [treemergeref32_Kept.l2])
        | succ k3 =>
         have H := HA.out
         clear HA
         simp only [treemergeref32_Kept.l2] at H
         by_cases c26 : x11_3 < (l2.length : Int)
         ·rw [if_pos c26] at H
          have c26b0 : decide (x11_3 < (l2.length : Int)) = true := decide_eq_true c26
          clear c26
          by_cases c27 : 0 ≤ x11_3
          ·rw [if_pos c27] at H
           have c27b0 : decide (0 ≤ x11_3) = true := decide_eq_true c27
           clear c27
           replace H := Option.bind_eq_some_iff.mp H
           obtain ⟨t202, A280, H⟩ := H
           replace H : (if t202 = true then (treemergeref32_Kept.l2 k3 l0 l2 x7_1 x9_3 (wrap64 (x11_3 + 1))) else ((treemergeref32_Has.f k3 x9_3 (rd l2 x11_3)).bind fun t204 => (if t204 = true then (treemergeref32_Kept.l2 k3 l0 l2 x7_1 x9_3 (wrap64 (x11_3 + 1))) else ((treemergeref32_put.f k3 x9_3 (rd l2 x11_3)).bind fun t206 => (treemergeref32_Kept.l2 k3 l0 l2 x7_1 t206 (wrap64 (x11_3 + 1))))))) = some r := H
           have A28 := Aside0.mk A280
           clear A280
           by_cases c29 : t202 = true
           ·subst c29
            have H1 : (treemergeref32_Kept.l2 k3 l0 l2 x7_1 x9_3 (wrap64 (x11_3 + 1))) = some r := by rw [if_pos rfl] at H; exact H
            clear H
            have H := H1
            clear H1
            have H' := Aside0.mk H
            clear H
            have p201 : 0 ≤ (x11_3 : Int) := of_decide_eq_true AX
            have q201 : x11_3 < (l2.length : Int) := of_decide_eq_true AX
            obtain ⟨ad201, e201, hx201_0⟩ := Kd.at_int HR2.out x11_3 p201 q201
            cases e201
            replace hx201_0 := (HB.out.cell (World.block_lt_of_cell? w _ hx201_0)).trans hx201_0
            replace p201 := eq_true p201
            replace q201 := eq_true q201
            go_wp2_with (first | ((with_reducible refine gate_callee (f := 17) rfl ?_); refine goesL_ (some 88) rfl rfl Try.func17 (by kernel_rfl) rfl #[.slice A0 l0.length c0, .int .i64 (rd l2 x11_3)] rfl MX ?_; (with_reducible refine (treemergeref32_Has.calls k3 _ _ l0 (rd l2 x11_3) true _ ?side1 ?side2 A28.out).mono ?_); (case side1 => exact CX (Kd.C_below HR0.out HB.out)); (case side2 => exact HC0.out); rintro e w' ⟨rfl, ⟨nd, rfl⟩⟩; refine ⟨_, rfl, ?_⟩))
            go_roundg k3
            case measure => have := HK1.out; have := HK2.out; have := HK3.out; omega
            case rel => exact ⟨(x9_3), (wrap64 (x11_3 + 1)), SX, H', ⟨by have := HK1.out; have := HK2.out; have := HK3.out; omega⟩, ⟨RX HO_7.out⟩, ⟨RX HO_9.out⟩, ⟨BX HB.out⟩⟩
           ·replace c29 := Bool.eq_false_iff.mpr c29
            subst c29
            have H1 : ((treemergeref32_Has.f k3 x9_3 (rd l2 x11_3)).bind fun t204 => (if t204 = true then (treemergeref32_Kept.l2 k3 l0 l2 x7_1 x9_3 (wrap64 (x11_3 + 1))) else ((treemergeref32_put.f k3 x9_3 (rd l2 x11_3)).bind fun t206 => (treemergeref32_Kept.l2 k3 l0 l2 x7_1 t206 (wrap64 (x11_3 + 1)))))) = some r := by rw [if_neg (show ¬ (false = true) by decide)] at H; exact H
            clear H
            have H := H1
            clear H1
            replace H := Option.bind_eq_some_iff.mp H
            obtain ⟨t204, A300, H⟩ := H
            replace H : (if t204 = true then (treemergeref32_Kept.l2 k3 l0 l2 x7_1 x9_3 (wrap64 (x11_3 + 1))) else ((treemergeref32_put.f k3 x9_3 (rd l2 x11_3)).bind fun t206 => (treemergeref32_Kept.l2 k3 l0 l2 x7_1 t206 (wrap64 (x11_3 + 1))))) = some r := H
            have A30 := Aside0.mk A300
            clear A300
            by_cases c31 : t204 = true
            ·subst c31
             have H1 : (treemergeref32_Kept.l2 k3 l0 l2 x7_1 x9_3 (wrap64 (x11_3 + 1))) = some r := by rw [if_pos rfl] at H; exact H
             clear H
             have H := H1
             clear H1
             have H' := Aside0.mk H
             clear H
             have p201 : 0 ≤ (x11_3 : Int) := of_decide_eq_true AX
             have q201 : x11_3 < (l2.length : Int) := of_decide_eq_true AX
             obtain ⟨ad201, e201, hx201_0⟩ := Kd.at_int HR2.out x11_3 p201 q201
             cases e201
             replace hx201_0 := (HB.out.cell (World.block_lt_of_cell? w _ hx201_0)).trans hx201_0
             replace p201 := eq_true p201
             replace q201 := eq_true q201
             go_wp2_with (first | ((with_reducible refine gate_callee (f := 17) rfl ?_); refine goesL_ (some 88) rfl rfl Try.func17 (by kernel_rfl) rfl #[.slice A0 l0.length c0, .int .i64 (rd l2 x11_3)] rfl MX ?_; (with_reducible refine (treemergeref32_Has.calls k3 _ _ l0 (rd l2 x11_3) false _ ?side1 ?side2 A28.out).mono ?_); (case side1 => exact CX (Kd.C_below HR0.out HB.out)); (case side2 => exact HC0.out); rintro e w' ⟨rfl, ⟨nd, rfl⟩⟩; refine ⟨_, rfl, ?_⟩; have p203 : 0 ≤ (x11_3 : Int) := of_decide_eq_true AX; have q203 : x11_3 < (l2.length : Int) := of_decide_eq_true AX; obtain ⟨ad203, e203, hx203_0⟩ := Kd.at_int HR2.out x11_3 p203 q203; obtain rfl : ad201 = ad203 := (by injection e203); replace hx203_0 := (HB.out.cell (World.block_lt_of_cell? w _ hx203_0)).trans hx203_0; replace p203 := eq_true p203; replace q203 := eq_true q203; obtain ⟨Ao32, co32, eo32⟩ := Kd.R_slice HO_9.out; subst eo32) | (go_at_call 17; (with_reducible refine (treemergeref32_Has.calls k3 _ _ x9_3 (rd l2 x11_3) true _ ?side1 ?side2 A30.out).mono ?_); (case side1 => exact CX ((Kd.R_reads' HO_9.out).2.2)); (case side2 => exact (Kd.R_reads' HO_9.out).2.1); rintro e w' ⟨rfl, ⟨nd, rfl⟩⟩))
             go_roundg k3
             case measure => have := HK1.out; have := HK2.out; have := HK3.out; omega
             case rel => exact ⟨(x9_3), (wrap64 (x11_3 + 1)), SX, H', ⟨by have := HK1.out; have := HK2.out; have := HK3.out; omega⟩, ⟨RX HO_7.out⟩, ⟨RX HO_9.out⟩, ⟨BX HB.out⟩⟩
            ·replace c31 := Bool.eq_false_iff.mpr c31
             subst c31
             have H1 : ((treemergeref32_put.f k3 x9_3 (rd l2 x11_3)).bind fun t206 => (treemergeref32_Kept.l2 k3 l0 l2 x7_1 t206 (wrap64 (x11_3 + 1)))) = some r := by rw [if_neg (show ¬ (false = true) by decide)] at H; exact H
             clear H
             have H := H1
             clear H1
             replace H := Option.bind_eq_some_iff.mp H
             obtain ⟨t206, A330, H⟩ := H
             replace H : (treemergeref32_Kept.l2 k3 l0 l2 x7_1 t206 (wrap64 (x11_3 + 1))) = some r := H
             have A33 := Aside0.mk A330
             clear A330
             have H' := Aside0.mk H
             clear H
             have p201 : 0 ≤ (x11_3 : Int) := of_decide_eq_true AX
             have q201 : x11_3 < (l2.length : Int) := of_decide_eq_true AX
             obtain ⟨ad201, e201, hx201_0⟩ := Kd.at_int HR2.out x11_3 p201 q201
             cases e201
             replace hx201_0 := (HB.out.cell (World.block_lt_of_cell? w _ hx201_0)).trans hx201_0
             replace p201 := eq_true p201
             replace q201 := eq_true q201
             go_wp2_with (first | ((with_reducible refine gate_callee (f := 17) rfl ?_); refine goesL_ (some 88) rfl rfl Try.func17 (by kernel_rfl) rfl #[.slice A0 l0.length c0, .int .i64 (rd l2 x11_3)] rfl MX ?_; (with_reducible refine (treemergeref32_Has.calls k3 _ _ l0 (rd l2 x11_3) false _ ?side1 ?side2 A28.out).mono ?_); (case side1 => exact CX (Kd.C_below HR0.out HB.out)); (case side2 => exact HC0.out); rintro e w' ⟨rfl, ⟨nd, rfl⟩⟩; refine ⟨_, rfl, ?_⟩; have p203 : 0 ≤ (x11_3 : Int) := of_decide_eq_true AX; have q203 : x11_3 < (l2.length : Int) := of_decide_eq_true AX; obtain ⟨ad203, e203, hx203_0⟩ := Kd.at_int HR2.out x11_3 p203 q203; obtain rfl : ad201 = ad203 := (by injection e203); replace hx203_0 := (HB.out.cell (World.block_lt_of_cell? w _ hx203_0)).trans hx203_0; replace p203 := eq_true p203; replace q203 := eq_true q203; obtain ⟨Ao34, co34, eo34⟩ := Kd.R_slice HO_9.out; subst eo34) | (go_at_call 17; (with_reducible refine (treemergeref32_Has.calls k3 _ _ x9_3 (rd l2 x11_3) false _ ?side1 ?side2 A30.out).mono ?_); (case side1 => exact CX ((Kd.R_reads' HO_9.out).2.2)); (case side2 => exact (Kd.R_reads' HO_9.out).2.1); rintro e w' ⟨rfl, ⟨nd, rfl⟩⟩; have p205 : 0 ≤ (x11_3 : Int) := of_decide_eq_true AX; have q205 : x11_3 < (l2.length : Int) := of_decide_eq_true AX; obtain ⟨ad205, e205, hx205_0⟩ := Kd.at_int HR2.out x11_3 p205 q205; obtain rfl : ad201 = ad205 := (by injection e205); replace hx205_0 := (HB.out.cell (World.block_lt_of_cell? w _ hx205_0)).trans hx205_0; replace p205 := eq_true p205; replace q205 := eq_true q205) | ((with_reducible refine gate_callee (f := 33) rfl ?_); refine goesL_ (some 104) rfl rfl Try.func33 (by kernel_rfl) rfl #[.slice Ao34 x9_3.length co34, .int .i64 (rd l2 x11_3)] rfl MX ?_; (with_reducible refine (treemergeref32_put.calls k3 _ _ x9_3 (rd l2 x11_3) t206 _ ?side1 ?side2 A33.out).mono ?_); (case side1 => exact CX ((Kd.R_reads' HO_9.out).2.2)); (case side2 => exact (Kd.R_reads' HO_9.out).2.1); rintro e w35 ⟨v207, rfl, ho0, hb⟩; refine ⟨_, rfl, ?_⟩; have n0_ := Aside0.mk (Kd.R_elder' (RX HO_7.out) (Kd.R_base ho0) hb); have n1_ := Aside0.mk (Kd.R_elder' (RX HO_9.out) (Kd.R_base ho0) hb); have n2_ := Aside0.mk (Kd.R_lower (Kd.R_new' (Kd.R_new' ho0 (Kd.R_lt (RX HO_7.out))) (Kd.R_lt (RX HO_9.out))) (below_size (BX HB.out))); have n3_ := Aside0.mk (below_step (BX HB.out) hb); clear HO_7; clear HO_9; clear HB; have HO_7 := n0_; have HO_9 := n1_; have HO208 := n2_; have HB := n3_; clear n0_ n1_ n2_ n3_; (try clear hb); (try clear hb2); (try clear hk); (try clear hi); (try clear ho0)))
             go_roundg k3
             case measure => have := HK1.out; have := HK2.out; have := HK3.out; omega
             case rel => exact ⟨(t206), (wrap64 (x11_3 + 1)), SX, H', ⟨by have := HK1.out; have := HK2.out; have := HK3.out; omega⟩, ⟨by (with_reducible repeat (first | apply Kd.R_alloc | apply Kd.R_drewN | apply Kd.R_drew)); exact Kd.R_mono HO_7.out (fun _ hk => hk.2)⟩, ⟨by (with_reducible repeat (first | apply Kd.R_alloc | apply Kd.R_drewN | apply Kd.R_drew)); exact Kd.R_mono HO208.out (fun _ hk => hk.1.2)⟩, ⟨BX HB.out⟩⟩
          ·rw [if_neg c27] at H
           exact absurd H (by simp)
         ·rw [if_neg c26] at H
          have c26b0 : decide (x11_3 < (l2.length : Int)) = false := decide_eq_false c26
          clear c26
          have H' := Aside0.mk H
          clear H
          go_wp2
          go_loopg [7, 12] k3 (fun kq v7 v12 w' => ∃ (x7_4 : List Int) (x12_4 : Int), v12 = .int .i64 x12_4 ∧ Aside0 (treemergeref32_Kept.l3 kq x7_4 x9_3 x12_4 = some r) ∧ Aside0 (kq ≤ k3) ∧ Aside0 (Kd.R (Kd.int .i64) 3 w' w.heap.size (fun k_ => some k_ ≠ (u9 : Value).ownBlock) v7 x7_4) ∧ Aside0 (Kd.R (Kd.int .i64) 3 w' w.heap.size (fun k_ => some k_ ≠ (v7 : Value).ownBlock) u9 x9_3) ∧ Aside0 (Below w.heap.size w w'))
          case atStart => exact ⟨(x7_1), (0), SX, H', ⟨Nat.le_refl _⟩, ⟨RX HO_7.out⟩, ⟨RX HO_9.out⟩, ⟨BX HB.out⟩⟩
          case round =>
           clear H'
           try clear c1
           try clear p1
           try clear q1
           try clear hx1
           try clear c2
           try clear p2
           try clear q2
           try clear hx2
           try clear c3
           try clear c4
           try clear c4b0
           try clear c5
           try clear c5b0
           try clear p6
           try clear c7
           try clear c9
           try clear c11
           try clear c13
           try clear c16
           try clear c16b0
           try clear c17
           try clear c17b0
           try clear p18
           try clear q18
           try clear hx18
           try clear c19
           try clear p19
           try clear q19
           try clear hx19
           try clear p20
           try clear q20
           try clear hx20
           try clear c21
           try clear c26
           try clear c26b0
           try clear c27
           try clear c27b0
           try clear c29
           try clear c31
           try clear c33
           try clear hx183_0
           try clear hx185_0
           try clear hx187_0
           try clear hx189_0
           try clear hx193_0
           try clear hx195_0
           try clear hx197_0
           try clear hx201_0
           try clear hx203_0
           try clear hx205_0
           try clear p1
           try clear p18
           try clear p183
           try clear p185
           try clear p187
           try clear p189
           try clear p19
           try clear p193
           try clear p195
           try clear p197
           try clear p2
           try clear p201
           try clear p203
           try clear p205
           try clear p6
           try clear q1
           try clear q18
           try clear q183
           try clear q185
           try clear q187
           try clear q189
           try clear q19
           try clear q193
           try clear q195
           try clear q197
           try clear q201
           try clear q203
           try clear q205
           obtain ⟨x7_4, x12_4, rfl, HA, HK4, HO_7, HO_9, HB⟩ := hrel
           cases gk with
           | zero => exact absurd HA.out (by simp [treemergeref32_Kept.l3])
           | succ k4 =>
            have H := HA.out
            clear HA
            simp only [treemergeref32_Kept.l3] at H
            by_cases c36 : x12_4 < (x9_3.length : Int)
            ·rw [if_pos c36] at H
             have c36b0 : decide (x12_4 < (x9_3.length : Int)) = true := decide_eq_true c36
             try (have c36b0h := (by assumption : x9_3.length = _) ▸ c36b0)
             clear c36
             by_cases c37 : 0 ≤ x12_4
             ·rw [if_pos c37] at H
              have c37b0 : decide (0 ≤ x12_4) = true := decide_eq_true c37
              clear c37
              by_cases c38 : x7_4.length < 17592186044416
              ·rw [if_pos c38] at H
               have LMc38 := Aside0.mk c38
               clear c38
               obtain ⟨y210, hy210⟩ : ∃ y_ : List Int, y_ = (x7_4 ++ [rd x9_3 x12_4]) := ⟨_, rfl⟩
               replace H : (treemergeref32_Kept.l3 k4 y210 x9_3 (wrap64 (x12_4 + 1))) = some r := by first | (rw [hy210]; with_reducible exact H) | (have H2_ := (Option.bind_some _ _).symm.trans H; rw [hy210]; with_reducible exact H2_) | (have H2_ := (Option.bind_some _ _).symm.trans H; with_reducible exact H2_) | with_reducible exact H | (rw [hy210]; exact H) | exact H
               have Ny210 := Aside0.mk hy210
               clear hy210
               have H' := Aside0.mk H
               clear H
               obtain ⟨Ao39, co39, eo39⟩ := Kd.R_slice HO_9.out
               subst eo39
               have p209 : 0 ≤ (x12_4 : Int) := of_decide_eq_true AX
               have q209 : x12_4 < (x9_3.length : Int) := of_decide_eq_true AX
               obtain ⟨ad209, e209, hx209_0⟩ := Kd.at_int (Kd.R_reads' HO_9.out).2.2 x12_4 p209 q209
               cases e209
               replace p209 := eq_true p209
               replace q209 := eq_true q209
               go_wp2_with (first | ((with_reducible refine gate_builtin (b := .append) (xs := #[.tmp 111, .tmp 116]) rfl ?_); at_builtin; refine Kd.R_append (Kd.int .i64) (w0 := w) w.heap.size rfl (.tmp 111) (.tmp 116) 22 3 (.int .i64 0) 8 rfl Try.underlying22 info3 rfl (by decide) (by omega) u7 x7_4 (rd x9_3 x12_4) [.int .i64 (rd x9_3 x12_4)] (fun k_ => some k_ ≠ (.slice (some ad209) x9_3.length co39 : Value).ownBlock) (fun _ => False) rfl rfl ?aP (fun _ hk => hk.elim) ?aF ?aO ?aB ?aS ?aL ?_; (case aP => exact rfl); (case aB => exact (BX HB.out)); (case aF => exact (fun k_ hk => Kd.fresh' (Kd.R_lt (RX HO_9.out)) k_ hk)); (case aO => exact (RX HO_7.out)); (case aS => exact (below_size (BX HB.out))); (case aL => have := LMc38.out; omega); intro v211 w40 ho hb hg hat; rw [← Ny210.out] at ho; have n0_ := Aside0.mk (Kd.R_after (ok := (fun _ => True)) (by (with_reducible repeat (first | apply Kd.R_alloc | apply Kd.R_drewN | apply Kd.R_drew)); exact Kd.R_mono HO_9.out (fun _ hk => ⟨trivial, hk⟩)) hg hat); have n1_ := Aside0.mk (hb); have n2_ := Aside0.mk (ho); clear HO_9; clear HB; clear HO_7; have HO_9 := n0_; have HB := n1_; have HO212 := n2_; clear n0_ n1_ n2_; clear ho hb hg hat))
               go_roundg k4
               case measure => have := HK1.out; have := HK2.out; have := HK3.out; have := HK4.out; omega
               case rel => exact ⟨(y210), (wrap64 (x12_4 + 1)), SX, H', ⟨by have := HK1.out; have := HK2.out; have := HK3.out; have := HK4.out; omega⟩, ⟨RX HO212.out⟩, ⟨by (with_reducible repeat (first | apply Kd.R_alloc | apply Kd.R_drewN | apply Kd.R_drew)); exact Kd.R_mono HO_9.out (fun _ hk => hk.2)⟩, ⟨BX HB.out⟩⟩
              ·rw [if_neg c38] at H
               exact absurd H (by simp)
             ·rw [if_neg c37] at H
              exact absurd H (by simp)
            ·rw [if_neg c36] at H
             have c36b0 : decide (x12_4 < (x9_3.length : Int)) = false := decide_eq_false c36
             try (have c36b0h := (by assumption : x9_3.length = _) ▸ c36b0)
             clear c36
             obtain rfl := Option.some.inj H
             obtain ⟨Ao41, co41, eo41⟩ := Kd.R_slice HO_9.out
             subst eo41
             go_wp2
             go_ret
             exact ⟨_, by first | rfl | (simp [errW_none, errW_some] <;> rfl) | (simp [*, errW_none, errW_some] <;> rfl), by (with_reducible repeat (first | apply Kd.R_alloc | apply Kd.R_drewN | apply Kd.R_drew)); exact Kd.R_mono HO_7.out (fun _ hk => trivial), BX HB.out⟩

/-! ### treemergeref32_Once: function 22 -/
def treemergeref32_Once.l0 : Nat → List Int → List Int → Int → Option (List Int)
 | 0, _, _, _ => none
 | k + 1, x0, x3, x4 => if x4 < (x0.length : Int) then (if 0 ≤ x4 then ((treemergeref32_Has.f k x3 (rd x0 x4)).bind fun t214 => (if t214 = true then (treemergeref32_Once.l0 k x0 x3 (wrap64 (x4 + 1))) else (if x3.length < 17592186044416 then (treemergeref32_Once.l0 k x0 (x3 ++ [rd x0 x4]) (wrap64 (x4 + 1))) else (none)))) else (none)) else (some x3)
def treemergeref32_Once.f (k : Nat) (l0 : List Int) : Option (List Int) := treemergeref32_Once.l0 k l0 ([] : List Int) 0
theorem treemergeref32_Once.mono_l : ∀ k, (∀ y0 y1 y2, LeO (treemergeref32_Once.l0 k y0 y1 y2) (treemergeref32_Once.l0 (k + 1) y0 y1 y2))
 | 0 => fun _ _ _ r h => by simp [treemergeref32_Once.l0] at h
 | k + 1 => by
  have ih0 := treemergeref32_Once.mono_l k
  ·intro y0 y1 y2
   unfold treemergeref32_Once.l0
   repeat' first
   | (with_reducible exact ih0 _ _ _)
   | (with_reducible exact treemergeref32_Has.mono _ _ _)
   | (with_reducible exact LeO.refl _)
   | (with_reducible exact LeO.none _)
   | (with_reducible refine LeO.ite ?_ ?_)
   | (with_reducible refine LeO.bind ?_ (fun _ => ?_))
   | exact ih0 _ _ _
   | exact treemergeref32_Has.mono _ _ _
   | exact LeO.none _
   | refine LeO.ite ?_ ?_
   | refine LeO.bind ?_ (fun _ => ?_)
theorem treemergeref32_Once.mono : ∀ a0 k, LeO (treemergeref32_Once.f k a0) (treemergeref32_Once.f (k + 1) a0) := by
 intro a0 k
 have ih0 := treemergeref32_Once.mono_l k
 unfold treemergeref32_Once.f
 repeat' first
   | (with_reducible exact ih0 _ _ _)
   | (with_reducible exact treemergeref32_Has.mono _ _ _)
   | (with_reducible exact LeO.refl _)
   | (with_reducible exact LeO.none _)
   | (with_reducible refine LeO.ite ?_ ?_)
   | (with_reducible refine LeO.bind ?_ (fun _ => ?_))
   | exact ih0 _ _ _
   | exact treemergeref32_Has.mono _ _ _
   | exact LeO.none _
   | refine LeO.ite ?_ ?_
   | refine LeO.bind ?_ (fun _ => ?_)
set_option maxHeartbeats 8000000 in
set_option maxRecDepth 100000 in
theorem treemergeref32_Once.calls (k : Nat) (A0 : Option Addr) (c0 : Nat) (l0 : List Int) (r : List Int) (w : World) (hr0 : Kd.C (Kd.int .i64) w A0 l0.length l0) (hc0 : l0.length ≤ c0) (h : treemergeref32_Once.f k l0 = some r) :
  Calls Try.prog 22 #[.slice A0 l0.length c0] w fun e w' => ∃ v0_ : Value, e = .returned (v0_) ∧ Kd.R (Kd.int .i64) 3 w' w.heap.size (fun _ => True) v0_ r ∧ Below w.heap.size w w' := by
 have HR0 := Aside0.mk hr0
 have HC0 := Aside0.mk hc0
 clear hr0 hc0
 have HB := Aside0.mk (Below.refl w.heap.size w)
 have H : (treemergeref32_Once.l0 k l0 ([] : List Int) 0) = some r := h
 clear h
 have H' := Aside0.mk H
 clear H
 go_enter Try.func22, Try.ntmps22
 go_wp2
 go_loopg [3, 4] k (fun kq v3 v4 w' => ∃ (x3_1 : List Int) (x4_1 : Int), v4 = .int .i64 x4_1 ∧ Aside0 (treemergeref32_Once.l0 kq l0 x3_1 x4_1 = some r) ∧ Aside0 (kq ≤ k) ∧ Aside0 (Kd.R (Kd.int .i64) 3 w' w.heap.size (fun _ => True) v3 x3_1) ∧ Aside0 (Below w.heap.size w w'))
 case atStart => exact ⟨(([] : List Int)), (0), SX, H', ⟨Nat.le_refl _⟩, ⟨NX⟩, ⟨BX HB.out⟩⟩
 case round =>
  clear H'
  obtain ⟨x3_1, x4_1, rfl, HA, HK1, HO_3, HB⟩ := hrel
  cases gk with
  | zero => exact absurd HA.out (by simp [treemergeref32_Once.l0])
  | succ k1 =>
   have H := HA.out
   clear HA
   simp only [treemergeref32_Once.l0] at H
   by_cases c2 : x4_1 < (l0.length : Int)
   ·rw [if_pos c2] at H
    have c2b0 : decide (x4_1 < (l0.length : Int)) = true := decide_eq_true c2
    clear c2
    by_cases c3 : 0 ≤ x4_1
    ·rw [if_pos c3] at H
     have c3b0 : decide (0 ≤ x4_1) = true := decide_eq_true c3
     clear c3
     replace H := Option.bind_eq_some_iff.mp H
     obtain ⟨t214, A40, H⟩ := H
     replace H : (if t214 = true then (treemergeref32_Once.l0 k1 l0 x3_1 (wrap64 (x4_1 + 1))) else (if x3_1.length < 17592186044416 then (treemergeref32_Once.l0 k1 l0 (x3_1 ++ [rd l0 x4_1]) (wrap64 (x4_1 + 1))) else (none))) = some r := H
     have A4 := Aside0.mk A40
     clear A40
     by_cases c5 : t214 = true
     ·subst c5
      have H1 : (treemergeref32_Once.l0 k1 l0 x3_1 (wrap64 (x4_1 + 1))) = some r := by rw [if_pos rfl] at H; exact H
      clear H
      have H := H1
      clear H1
      have H' := Aside0.mk H
      clear H
      have p213 : 0 ≤ (x4_1 : Int) := of_decide_eq_true AX
      have q213 : x4_1 < (l0.length : Int) := of_decide_eq_true AX
      obtain ⟨ad213, e213, hx213_0⟩ := Kd.at_int HR0.out x4_1 p213 q213
      cases e213
      replace hx213_0 := (HB.out.cell (World.block_lt_of_cell? w _ hx213_0)).trans hx213_0
      replace p213 := eq_true p213
      replace q213 := eq_true q213
      obtain ⟨Ao6, co6, eo6⟩ := Kd.R_slice HO_3.out
      subst eo6
      go_wp2_with (first | ((with_reducible refine gate_callee (f := 17) rfl ?_); refine goesL_ (some 16) rfl rfl Try.func17 (by kernel_rfl) rfl #[.slice Ao6 x3_1.length co6, .int .i64 (rd l0 x4_1)] rfl MX ?_; (with_reducible refine (treemergeref32_Has.calls k1 _ _ x3_1 (rd l0 x4_1) true _ ?side1 ?side2 A4.out).mono ?_); (case side1 => exact CX ((Kd.R_reads' HO_3.out).2.2)); (case side2 => exact (Kd.R_reads' HO_3.out).2.1); rintro e w' ⟨rfl, ⟨nd, rfl⟩⟩; refine ⟨_, rfl, ?_⟩))
      go_roundg k1
      case measure => have := HK1.out; omega
      case rel => exact ⟨(x3_1), (wrap64 (x4_1 + 1)), SX, H', ⟨by have := HK1.out; omega⟩, ⟨RX HO_3.out⟩, ⟨BX HB.out⟩⟩
     ·replace c5 := Bool.eq_false_iff.mpr c5
      subst c5
      have H1 : (if x3_1.length < 17592186044416 then (treemergeref32_Once.l0 k1 l0 (x3_1 ++ [rd l0 x4_1]) (wrap64 (x4_1 + 1))) else (none)) = some r := by rw [if_neg (show ¬ (false = true) by decide)] at H; exact H
      clear H
      have H := H1
      clear H1
      by_cases c7 : x3_1.length < 17592186044416
      ·rw [if_pos c7] at H
       have LMc7 := Aside0.mk c7
       clear c7
       obtain ⟨y216, hy216⟩ : ∃ y_ : List Int, y_ = (x3_1 ++ [rd l0 x4_1]) := ⟨_, rfl⟩
       replace H : (treemergeref32_Once.l0 k1 l0 y216 (wrap64 (x4_1 + 1))) = some r := by first | (rw [hy216]; with_reducible exact H) | (have H2_ := (Option.bind_some _ _).symm.trans H; rw [hy216]; with_reducible exact H2_) | (have H2_ := (Option.bind_some _ _).symm.trans H; with_reducible exact H2_) | with_reducible exact H | (rw [hy216]; exact H) | exact H
       have Ny216 := Aside0.mk hy216
       clear hy216
       have H' := Aside0.mk H
       clear H
       have p213 : 0 ≤ (x4_1 : Int) := of_decide_eq_true AX
       have q213 : x4_1 < (l0.length : Int) := of_decide_eq_true AX
       obtain ⟨ad213, e213, hx213_0⟩ := Kd.at_int HR0.out x4_1 p213 q213
       cases e213
       replace hx213_0 := (HB.out.cell (World.block_lt_of_cell? w _ hx213_0)).trans hx213_0
       replace p213 := eq_true p213
       replace q213 := eq_true q213
       obtain ⟨Ao8, co8, eo8⟩ := Kd.R_slice HO_3.out
       subst eo8
       go_wp2_with (first | ((with_reducible refine gate_callee (f := 17) rfl ?_); refine goesL_ (some 16) rfl rfl Try.func17 (by kernel_rfl) rfl #[.slice Ao8 x3_1.length co8, .int .i64 (rd l0 x4_1)] rfl MX ?_; (with_reducible refine (treemergeref32_Has.calls k1 _ _ x3_1 (rd l0 x4_1) false _ ?side1 ?side2 A4.out).mono ?_); (case side1 => exact CX ((Kd.R_reads' HO_3.out).2.2)); (case side2 => exact (Kd.R_reads' HO_3.out).2.1); rintro e w' ⟨rfl, ⟨nd, rfl⟩⟩; refine ⟨_, rfl, ?_⟩; have p215 : 0 ≤ (x4_1 : Int) := of_decide_eq_true AX; have q215 : x4_1 < (l0.length : Int) := of_decide_eq_true AX; obtain ⟨ad215, e215, hx215_0⟩ := Kd.at_int HR0.out x4_1 p215 q215; obtain rfl : ad213 = ad215 := (by injection e215); replace hx215_0 := (HB.out.cell (World.block_lt_of_cell? w _ hx215_0)).trans hx215_0; replace p215 := eq_true p215; replace q215 := eq_true q215) | ((with_reducible refine gate_builtin (b := .append) (xs := #[.tmp 18, .tmp 23]) rfl ?_); at_builtin; refine Kd.R_append (Kd.int .i64) (w0 := w) w.heap.size rfl (.tmp 18) (.tmp 23) 22 3 (.int .i64 0) 8 rfl Try.underlying22 info3 rfl (by decide) (by omega) (.slice Ao8 x3_1.length co8) x3_1 (rd l0 x4_1) [.int .i64 (rd l0 x4_1)] (fun _ => True) (fun _ => False) rfl rfl ?aP (fun _ hk => hk.elim) ?aF ?aO ?aB ?aS ?aL ?_; (case aP => exact rfl); (case aB => exact (BX HB.out)); (case aF => exact (fun _ _ => trivial)); (case aO => exact (RX HO_3.out)); (case aS => exact (below_size (BX HB.out))); (case aL => have := LMc7.out; omega); intro v217 w9 ho hb hg hat; rw [← Ny216.out] at ho; have n0_ := Aside0.mk (hb); have n1_ := Aside0.mk (ho); clear HB; clear HO_3; have HB := n0_; have HO218 := n1_; clear n0_ n1_; clear ho hb hg hat))
       go_roundg k1
       case measure => have := HK1.out; omega
       case rel => exact ⟨(y216), (wrap64 (x4_1 + 1)), SX, H', ⟨by have := HK1.out; omega⟩, ⟨RX HO218.out⟩, ⟨BX HB.out⟩⟩
      ·rw [if_neg c7] at H
       exact absurd H (by simp)
    ·rw [if_neg c3] at H
     exact absurd H (by simp)
   ·rw [if_neg c2] at H
    have c2b0 : decide (x4_1 < (l0.length : Int)) = false := decide_eq_false c2
    clear c2
    obtain rfl := Option.some.inj H
    go_wp2
    go_ret
    exact ⟨_, by first | rfl | (simp [errW_none, errW_some] <;> rfl) | (simp [*, errW_none, errW_some] <;> rfl), by (with_reducible repeat (first | apply Kd.R_alloc | apply Kd.R_drewN | apply Kd.R_drew)); exact HO_3.out, BX HB.out⟩

end Go.Proofs.Ytdbgdkbpamekpaa.Q
