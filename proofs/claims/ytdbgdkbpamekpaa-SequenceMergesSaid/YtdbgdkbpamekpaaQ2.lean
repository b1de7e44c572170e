-- Written by a program of this session (mk.py) out of the translation; Lean checks it.
import Derived.Test.YtdbgdkbpamekpaaQ0
import Derived.Test.YtdbgdkbpamekpaaQ1
namespace Go.Proofs.Ytdbgdkbpamekpaa.Q
open Go.RowKit Go.Proofs.YtdbgdkbpamekpaaW.PrintWords Go.Proofs.YtdbgdkbpamekpaaW.PrintLast Go.Proofs.YtdbgdkbpamekpaaW.PrintMore
attribute [local go_sem] max2_int min2_int max_two min_two max_three min_three max_four min_four   -- for this text's walks alone
set_option linter.unusedVariables false
set_option linter.unusedSimpArgs false

/-! ### sequence_keeps: function 48 (by hand) -/
/-- The elements that are in another list. -/
def keepL (kept : List Int) : List Int → List Int → List Int
 | [], out => out
 | x :: r, out => keepL kept r (if x ∈ kept then out ++ [x] else out)
set_option maxHeartbeats 2000000 in
theorem sequence_keeps.calls (A0 : Option Addr) (c0 : Nat) (l0 : List Int) (b : Nat) (kept : List Int) (w : World) (hr0 : Kd.C (Kd.int .i64) w A0 l0.length l0) (hM : MapAt intE w b (setM kept)) (hlen : l0.length < 17592186044416) :
  Calls Try.prog 48 #[.slice A0 l0.length c0, .map (some b)] w fun e w' => ∃ v0_ : Value, e = .returned (v0_) ∧ Kd.R (Kd.int .i64) 3 w' w.heap.size (fun _ => True) v0_ (keepL kept l0 []) ∧ Below w.heap.size w w' := by
 have HR0 := Aside0.mk hr0
 have HM := Aside0.mk hM
 clear hr0 hM
 obtain ⟨r, hr⟩ : ∃ r, keepL kept l0 [] = r := ⟨_, rfl⟩
 rw [hr]
 have HF := Aside0.mk hr
 clear hr
 go_enter Try.func48, Try.ntmps48
 go_wp2
 go_loopg [5, 10] l0.length (fun gk v5 v10 w' => ∃ (k : Nat) (out : List Int), v10 = .int .i64 k ∧ k + gk = l0.length ∧ out.length ≤ k ∧ Aside0 (keepL kept (l0.drop k) out = r) ∧ Aside0 (Kd.R (Kd.int .i64) 3 w' w.heap.size (fun _ => True) v5 out) ∧ Aside0 (Below w.heap.size w w'))
 case atStart =>
  refine ⟨0, [], rfl, by omega, by simp, ⟨?_⟩, ⟨?_⟩, ⟨?_⟩⟩
  ·exact HF.out
  ·exact Kd.R_nil _ _ _ _ _
  ·exact Below.refl _ _
 case round =>
  obtain ⟨k, out, rfl, hk, hout, HL, HO, HB⟩ := hrel
  obtain ⟨go, rfl⟩ : ∃ go, go = gk := ⟨gk, rfl⟩
  have HK := Aside0.mk hk
  cases go with
  | succ g =>
   have h1 : decide ((k : Int) < (l0.length : Int)) = true := decide_eq_true (by omega)
   have h2 : decide (k < l0.length) = true := decide_eq_true (by omega)
   have p12 : 0 ≤ (k : Int) := by omega
   have q12 : (k : Int) < (l0.length : Int) := by omega
   obtain ⟨ad, e, hx⟩ := Kd.at_int (Kd.C_below HR0.out HB.out) (k : Int) p12 q12
   cases e
   rw [Int.toNat_natCast] at hx
   have hk9 : k < l0.length := by omega
   have hd : l0.drop k = rd l0 (k : Int) :: l0.drop (k + 1) := by
    rw [List.drop_eq_getElem_cons hk9]
    unfold rd
    simp [List.getD_eq_getElem?_getD, List.getElem?_eq_getElem hk9]
   obtain ⟨x, hxe⟩ : ∃ x, x = rd l0 (k : Int) := ⟨_, rfl⟩
   rw [← hxe] at hx hd
   have HL2 := Aside0.mk (show keepL kept (l0.drop (k + 1)) (if x ∈ kept then out ++ [x] else out) = r by have := HL.out; rw [hd, keepL] at this; exact this)
   clear hd hxe HL hk
   have HG := Aside0.mk (setM_get kept x)
   by_cases hin : x ∈ kept
   ·rw [if_pos hin] at HL2
    rw [decide_eq_true hin] at HG
    clear hin
    obtain ⟨Ao, co, eo⟩ := Kd.R_slice HO.out
    subst eo
    have hb44 : out.length < 17592186044416 := by omega
    go_wp2_with (first | (with_reducible refine wpList_lookup (z := .bool false) rfl _ _ rfl (KeyOk.int Try.underlying3) Try.underlying41 (by kernel_rfl) rfl (HM.out.below HB.out) x rfl ?_; rw [HG.out]) | ((with_reducible refine gate_builtin (b := .append) (xs := #[.tmp 17, .tmp 19]) rfl ?_); at_builtin; refine Kd.R_append (Kd.int .i64) (w0 := w) w.heap.size rfl (.tmp 17) (.tmp 19) 22 3 (.int .i64 0) 8 rfl Try.underlying22 info3 rfl (by decide) (by omega) (.slice Ao out.length co) out x [.int .i64 x] (fun _ => True) (fun _ => False) rfl rfl ?aP (fun _ hk => hk.elim) ?aF ?aO ?aB ?aS ?aL ?_; (case aP => exact rfl); (case aF => exact (fun _ _ => trivial)); (case aO => exact (RX HO.out)); (case aB => exact (BX HB.out)); (case aS => exact (below_size (BX HB.out))); (case aL => omega); intro v9 w9 ho hb hg hat; have HO9 := Aside0.mk ho; have HB9 := Aside0.mk hb; clear ho hb hg hat))
    go_roundg g
    case measure => omega
    case rel => exact ⟨k + 1, out ++ [x], by go_num, by have := HK.out; omega, by simp; omega, HL2, HO9, HB9⟩
   ·rw [if_neg hin] at HL2
    rw [decide_eq_false hin] at HG
    clear hin
    go_wp2_with (with_reducible refine wpList_lookup (z := .bool false) rfl _ _ rfl (KeyOk.int Try.underlying3) Try.underlying41 (by kernel_rfl) rfl (HM.out.below HB.out) x rfl ?_; rw [HG.out])
    go_roundg g
    case measure => omega
    case rel => exact ⟨k + 1, out, by go_num, by have := HK.out; omega, by omega, HL2, HO, HB⟩
  | zero =>
   have h1 : decide ((k : Int) < (l0.length : Int)) = false := decide_eq_false (by omega)
   have h2 : decide (k < l0.length) = false := decide_eq_false (by omega)
   have HL2 := Aside0.mk (show out = r by have := HL.out; rw [List.drop_of_length_le (by omega), keepL] at this; exact this)
   clear hk HL
   go_wp2
   go_ret
   exact ⟨_, rfl, HL2.out ▸ HO.out, HB.out⟩

/-! ### lcs_partner_int: function 101 -/
mutual
def lcs_partner_int.l0 : Nat → List Int → List Int → List (List Int) → Int → Int → Int → Option (Int)
 | 0, _, _, _, _, _, _ => none
 | k + 1, x0, x1, x2, x3, x4, x11 => if x11 < (x1.length : Int) then (if 0 ≤ x3 then (if x3 < (x2.length : Int) then (if 0 ≤ x11 then (if x11 < ((rd_LI x2 x3).length : Int) then (if 0 ≤ x4 then (if x4 < ((rd_LI x2 x3).length : Int) then (lcs_partner_int.j1 k x0 x1 x2 x3 x4 x11 ((rd (rd_LI x2 x3) x11) == (rd (rd_LI x2 x3) x4))) else (none)) else (none)) else (none)) else (none)) else (none)) else (none)) else (lcs_partner_int.j1 k x0 x1 x2 x3 x4 x11 false)
def lcs_partner_int.j1 : Nat → List Int → List Int → List (List Int) → Int → Int → Int → Bool → Option (Int)
 | 0, _, _, _, _, _, _, _ => none
 | k + 1, x0, x1, x2, x3, x4, x11, x33 => if x33 = true then (if 0 ≤ x3 then (if x3 < (x0.length : Int) then (if 0 ≤ x11 then (if x11 < (x1.length : Int) then (if (rd x0 x3) = (rd x1 x11) then (if 0 ≤ (wrap64 (x3 + 1)) then (if (wrap64 (x3 + 1)) < (x2.length : Int) then (if 0 ≤ (wrap64 (x11 + 1)) then (if (wrap64 (x11 + 1)) < ((rd_LI x2 (wrap64 (x3 + 1))).length : Int) then (if x3 < (x2.length : Int) then (if 0 ≤ x4 then (if x4 < ((rd_LI x2 x3).length : Int) then (if (wrap64 ((rd (rd_LI x2 (wrap64 (x3 + 1))) (wrap64 (x11 + 1))) + 1)) = (rd (rd_LI x2 x3) x4) then (some x11) else (lcs_partner_int.l0 k x0 x1 x2 x3 x4 (wrap64 (x11 + 1)))) else (none)) else (none)) else (none)) else (none)) else (none)) else (none)) else (none)) else (lcs_partner_int.l0 k x0 x1 x2 x3 x4 (wrap64 (x11 + 1)))) else (none)) else (none)) else (none)) else (none)) else (some (-1))
end
def lcs_partner_int.f (k : Nat) (l0 : List Int) (l1 : List Int) (l2 : List (List Int)) (a3 : Int) (a4 : Int) : Option (Int) := lcs_partner_int.l0 k l0 l1 l2 a3 a4 a4
theorem lcs_partner_int.mono_l : ∀ k, (∀ y0 y1 y2 y3 y4 y5, LeO (lcs_partner_int.l0 k y0 y1 y2 y3 y4 y5) (lcs_partner_int.l0 (k + 1) y0 y1 y2 y3 y4 y5)) ∧ (∀ y0 y1 y2 y3 y4 y5 y6, LeO (lcs_partner_int.j1 k y0 y1 y2 y3 y4 y5 y6) (lcs_partner_int.j1 (k + 1) y0 y1 y2 y3 y4 y5 y6))
 | 0 => ⟨fun _ _ _ _ _ _ r h => by simp [lcs_partner_int.l0] at h, fun _ _ _ _ _ _ _ r h => by simp [lcs_partner_int.j1] at h⟩
 | k + 1 => by
  obtain ⟨ih0, ih1⟩ := lcs_partner_int.mono_l k
  refine ⟨?_, ?_⟩
  ·intro y0 y1 y2 y3 y4 y5
   unfold lcs_partner_int.l0
   repeat' first
   | (with_reducible exact ih0 _ _ _ _ _ _)
   | (with_reducible exact ih1 _ _ _ _ _ _ _)
   | (with_reducible exact LeO.refl _)
   | (with_reducible exact LeO.none _)
   | (with_reducible refine LeO.ite ?_ ?_)
   | (with_reducible refine LeO.bind ?_ (fun _ => ?_))
   | exact ih0 _ _ _ _ _ _
   | exact ih1 _ _ _ _ _ _ _
   | exact LeO.none _
   | refine LeO.ite ?_ ?_
   | refine LeO.bind ?_ (fun _ => ?_)
  ·intro y0 y1 y2 y3 y4 y5 y6
   unfold lcs_partner_int.j1
   repeat' first
   | (with_reducible exact ih0 _ _ _ _ _ _)
   | (with_reducible exact ih1 _ _ _ _ _ _ _)
   | (with_reducible exact LeO.refl _)
   | (with_reducible exact LeO.none _)
   | (with_reducible refine LeO.ite ?_ ?_)
   | (with_reducible refine LeO.bind ?_ (fun _ => ?_))
   | exact ih0 _ _ _ _ _ _
   | exact ih1 _ _ _ _ _ _ _
   | exact LeO.none _
   | refine LeO.ite ?_ ?_
   | refine LeO.bind ?_ (fun _ => ?_)
theorem lcs_partner_int.mono : ∀ a0 a1 a2 a3 a4 k, LeO (lcs_partner_int.f k a0 a1 a2 a3 a4) (lcs_partner_int.f (k + 1) a0 a1 a2 a3 a4) := by
 intro a0 a1 a2 a3 a4 k
 obtain ⟨ih0, ih1⟩ := lcs_partner_int.mono_l k
 unfold lcs_partner_int.f
 repeat' first
   | (with_reducible exact ih0 _ _ _ _ _ _)
   | (with_reducible exact ih1 _ _ _ _ _ _ _)
   | (with_reducible exact LeO.refl _)
   | (with_reducible exact LeO.none _)
   | (with_reducible refine LeO.ite ?_ ?_)
   | (with_reducible refine LeO.bind ?_ (fun _ => ?_))
   | exact ih0 _ _ _ _ _ _
   | exact ih1 _ _ _ _ _ _ _
   | exact LeO.none _
   | refine LeO.ite ?_ ?_
   | refine LeO.bind ?_ (fun _ => ?_)
set_option maxHeartbeats 8000000 in
set_option maxRecDepth 100000 in
theorem lcs_partner_int.calls (k : Nat) (A0 : Option Addr) (c0 : Nat) (l0 : List Int) (A1 : Option Addr) (c1 : Nat) (l1 : List Int) (A2 : Option Addr) (c2 : Nat) (l2 : List (List Int)) (a3 : Int) (a4 : Int) (r : Int) (w : World) (hr0 : Kd.C (Kd.int .i64) w A0 l0.length l0) (hc0 : l0.length ≤ c0) (hr1 : Kd.C (Kd.int .i64) w A1 l1.length l1) (hc1 : l1.length ≤ c1) (hr2 : Kd.C (Kd.slice 3 (Kd.int .i64)) w A2 l2.length l2) (hc2 : l2.length ≤ c2) (h : lcs_partner_int.f k l0 l1 l2 a3 a4 = some r) :
  Calls Try.prog 101 #[.slice A0 l0.length c0, .slice A1 l1.length c1, .slice A2 l2.length c2, .int .i64 a3, .int .i64 a4] w fun e w' => e = .returned (.int .i64 r) ∧ Drawn0 w w' := by
 have HR0 := Aside0.mk hr0
 have HC0 := Aside0.mk hc0
 clear hr0 hc0
 have HR1 := Aside0.mk hr1
 have HC1 := Aside0.mk hc1
 clear hr1 hc1
 have HR2 := Aside0.mk hr2
 have HC2 := Aside0.mk hc2
 clear hr2 hc2
 have H : (lcs_partner_int.l0 k l0 l1 l2 a3 a4 a4) = some r := h
 clear h
 have H' := Aside0.mk H
 clear H
 go_enter Try.func101, Try.ntmps101
 go_wp2
 repeat (go_quiet (fail); try go_wp2)
 go_loopg [11] k (fun kq v11 w' => ∃ (x11_1 : Int), v11 = .int .i64 x11_1 ∧ Aside0 (lcs_partner_int.l0 kq l0 l1 l2 a3 a4 x11_1 = some r) ∧ Aside0 (kq ≤ k) ∧ Drawn0 w w')
 case atStart => exact ⟨(a4), SX, H', ⟨Nat.le_refl _⟩, by repeat (first | exact Drawn0.refl _ | apply Drawn0.step)⟩
 case round =>
  clear H'
  try clear c1
  try clear c2
  try clear p2
  obtain ⟨x11_1, rfl, HA, HK1, ⟨m1, rfl⟩⟩ := hrel
  cases gk with
  | zero => exact absurd HA.out (by simp [lcs_partner_int.l0])
  | succ k1 =>
   have H := HA.out
   clear HA
   simp only [lcs_partner_int.l0] at H
   have HC6 := Aside0.mk H
   clear H
   go_upto_region 2 with (fail)
   repeat (go_quiet (fail); go_upto_region 2 with (fail))
   go_cut [33] (fun v33 wc => ∃ (kq : Nat) (x33_5 : Bool), v33 = .bool x33_5 ∧ Aside0 (lcs_partner_int.j1 kq l0 l1 l2 a3 a4 x11_1 x33_5 = some r) ∧ Aside0 (kq ≤ k1) ∧ Drawn0 w wc)
   case first =>
    have H := HC6.out
    clear HC6
    by_cases c7 : x11_1 < (l1.length : Int)
    ·rw [if_pos c7] at H
     have c7b0 : decide (x11_1 < (l1.length : Int)) = true := decide_eq_true c7
     clear c7
     (first | rw [c7b0] | (simp only [i64_w, i32_w]; rw [c7b0]) | skip)
     by_cases c8 : 0 ≤ a3
     ·rw [if_pos c8] at H
      have c8b0 : decide (0 ≤ a3) = true := decide_eq_true c8
      clear c8
      by_cases c9 : a3 < (l2.length : Int)
      ·rw [if_pos c9] at H
       have c9b0 : decide (a3 < (l2.length : Int)) = true := decide_eq_true c9
       clear c9
       by_cases c10 : 0 ≤ x11_1
       ·rw [if_pos c10] at H
        have c10b0 : decide (0 ≤ x11_1) = true := decide_eq_true c10
        clear c10
        by_cases c11 : x11_1 < ((rd_LI l2 a3).length : Int)
        ·rw [if_pos c11] at H
         have c11b0 : decide (x11_1 < ((rd_LI l2 a3).length : Int)) = true := decide_eq_true c11
         clear c11
         by_cases c12 : 0 ≤ a4
         ·rw [if_pos c12] at H
          have c12b0 : decide (0 ≤ a4) = true := decide_eq_true c12
          clear c12
          by_cases c13 : a4 < ((rd_LI l2 a3).length : Int)
          ·rw [if_pos c13] at H
           have c13b0 : decide (a4 < ((rd_LI l2 a3).length : Int)) = true := decide_eq_true c13
           clear c13
           have H' := Aside0.mk H
           clear H
           have p101 : 0 ≤ (a3 : Int) := of_decide_eq_true AX
           have q101 : a3 < (l2.length : Int) := of_decide_eq_true AX
           obtain ⟨ad101, A101_0, c101_0, e101, hx101_0, hl101_0, hi101_0⟩ := at_LI HR2.out a3 p101 q101
           cases e101
           have HR101_0 := Aside0.mk hi101_0
           have HC101_0 := Aside0.mk hl101_0
           clear hi101_0 hl101_0
           replace p101 := eq_true p101
           replace q101 := eq_true q101
           have p102 : 0 ≤ (x11_1 : Int) := of_decide_eq_true AX
           have q102 : x11_1 < ((rd_LI l2 a3).length : Int) := of_decide_eq_true AX
           obtain ⟨ad102, e102, hx102_0⟩ := Kd.at_int HR101_0.out x11_1 p102 q102
           cases e102
           replace p102 := eq_true p102
           replace q102 := eq_true q102
           have p103 : 0 ≤ (a3 : Int) := of_decide_eq_true AX
           have q103 : a3 < (l2.length : Int) := of_decide_eq_true AX
           obtain ⟨ad103, A103_0, c103_0, e103, hx103_0, hl103_0, hi103_0⟩ := at_LI HR2.out a3 p103 q103
           obtain rfl : ad101 = ad103 := (by injection e103)
           have HR103_0 := Aside0.mk hi103_0
           have HC103_0 := Aside0.mk hl103_0
           clear hi103_0 hl103_0
           replace p103 := eq_true p103
           replace q103 := eq_true q103
           have ea_ := Option.some.inj (hx101_0.symm.trans hx103_0)
           injection ea_ with ea_ en_ ec_
           subst ea_
           subst ec_
           clear en_
           have p104 : 0 ≤ (a4 : Int) := of_decide_eq_true AX
           have q104 : a4 < ((rd_LI l2 a3).length : Int) := of_decide_eq_true AX
           obtain ⟨ad104, e104, hx104_0⟩ := Kd.at_int HR103_0.out a4 p104 q104
           cases e104
           replace p104 := eq_true p104
           replace q104 := eq_true q104
           go_wp2
           repeat (go_quiet (fail); try go_wp2)
           go_meet
           case rel => exact ⟨_, (((rd (rd_LI l2 a3) x11_1) == (rd (rd_LI l2 a3) a4))), SX, H', ⟨by have := HK1.out; first | omega | exact Nat.le_refl _⟩, by repeat (first | exact Drawn0.refl _ | apply Drawn0.step)⟩
          ·rw [if_neg c13] at H
           exact absurd H (by simp)
         ·rw [if_neg c12] at H
          exact absurd H (by simp)
        ·rw [if_neg c11] at H
         exact absurd H (by simp)
       ·rw [if_neg c10] at H
        exact absurd H (by simp)
      ·rw [if_neg c9] at H
       exact absurd H (by simp)
     ·rw [if_neg c8] at H
      exact absurd H (by simp)
    ·rw [if_neg c7] at H
     have c7b0 : decide (x11_1 < (l1.length : Int)) = false := decide_eq_false c7
     clear c7
     (first | rw [c7b0] | (simp only [i64_w, i32_w]; rw [c7b0]) | skip)
     have H' := Aside0.mk H
     clear H
     go_wp2
     repeat (go_quiet (fail); try go_wp2)
     go_meet
     case rel => exact ⟨_, (false), SX, H', ⟨by have := HK1.out; first | omega | exact Nat.le_refl _⟩, by repeat (first | exact Drawn0.refl _ | apply Drawn0.step)⟩
   case rest =>
    clear HC6
    try clear c1
    try clear p1
    try clear q1
    try clear hx1
    try clear c2
    try clear p2
    try clear c7
    try clear c7b0
    try clear c8
    try clear c8b0
    try clear c9
    try clear c9b0
    try clear c10
    try clear c10b0
    try clear p10
    try clear q10
    try clear hx10
    try clear c11
    try clear c11b0
    try clear c12
    try clear c12b0
    try clear c13
    try clear c13b0
    try clear hx101_0
    try clear hx102_0
    try clear hx103_0
    try clear hx104_0
    try clear p101
    try clear p102
    try clear p103
    try clear p104
    try clear p2
    try clear q101
    try clear q102
    try clear q103
    try clear q104
    obtain ⟨kq, x33_5, rfl, HA, HJ5, ⟨mc5, rfl⟩⟩ := hcut
    cases kq with
    | zero => exact absurd HA.out (by simp [lcs_partner_int.j1])
    | succ kj5 =>
     have H := HA.out
     clear HA
     simp only [lcs_partner_int.j1] at H
     by_cases c14 : x33_5 = true
     ·subst c14
      have H1 : (if 0 ≤ a3 then (if a3 < (l0.length : Int) then (if 0 ≤ x11_1 then (if x11_1 < (l1.length : Int) then (if (rd l0 a3) = (rd l1 x11_1) then (if 0 ≤ (wrap64 (a3 + 1)) then (if (wrap64 (a3 + 1)) < (l2.length : Int) then (if 0 ≤ (wrap64 (x11_1 + 1)) then (if (wrap64 (x11_1 + 1)) < ((rd_LI l2 (wrap64 (a3 + 1))).length : Int) then (if a3 < (l2.length : Int) then (if 0 ≤ a4 then (if a4 < ((rd_LI l2 a3).length : Int) then (if (wrap64 ((rd (rd_LI l2 (wrap64 (a3 + 1))) (wrap64 (x11_1 + 1))) + 1)) = (rd (rd_LI l2 a3) a4) then (some x11_1) else (lcs_partner_int.l0 kj5 l0 l1 l2 a3 a4 (wrap64 (x11_1 + 1)))) else (none)) else (none)) else (none)) else (none)) else (none)) else (none)) else (none)) else (lcs_partner_int.l0 kj5 l0 l1 l2 a3 a4 (wrap64 (x11_1 + 1)))) else (none)) else (none)) else (none)) else (none)) = some r := by rw [if_pos rfl] at H; exact H
      clear H
      have H := H1
      clear H1
      by_cases c15 : 0 ≤ a3
      ·rw [if_pos c15] at H
       have c15b0 : decide (0 ≤ a3) = true := decide_eq_true c15
       clear c15
       by_cases c16 : a3 < (l0.length : Int)
       ·rw [if_pos c16] at H
        have c16b0 : decide (a3 < (l0.length : Int)) = true := decide_eq_true c16
        clear c16
        by_cases c17 : 0 ≤ x11_1
        ·rw [if_pos c17] at H
         have c17b0 : decide (0 ≤ x11_1) = true := decide_eq_true c17
         clear c17
         by_cases c18 : x11_1 < (l1.length : Int)
         ·rw [if_pos c18] at H
          have c18b0 : decide (x11_1 < (l1.length : Int)) = true := decide_eq_true c18
          clear c18
          by_cases c19 : (rd l0 a3) = (rd l1 x11_1)
          ·rw [if_pos c19] at H
           have c19b0 : ((rd l0 a3) == (rd l1 x11_1)) = true := beq_iff_eq.mpr c19
           have c19b1 : ((rd l0 a3) != (rd l1 x11_1)) = false := bne_eq_false_iff_eq.mpr c19
           clear c19
           obtain ⟨ji20, hji20⟩ : ∃ j_ : Int, (wrap64 (a3 + 1)) = j_ := ⟨_, rfl⟩
           replace H : (if 0 ≤ (ji20) then (if (ji20) < (l2.length : Int) then (if 0 ≤ (wrap64 (x11_1 + 1)) then (if (wrap64 (x11_1 + 1)) < ((rd_LI l2 (ji20)).length : Int) then (if a3 < (l2.length : Int) then (if 0 ≤ a4 then (if a4 < ((rd_LI l2 a3).length : Int) then (if (wrap64 ((rd (rd_LI l2 (ji20)) (wrap64 (x11_1 + 1))) + 1)) = (rd (rd_LI l2 a3) a4) then (some x11_1) else (lcs_partner_int.l0 kj5 l0 l1 l2 a3 a4 (wrap64 (x11_1 + 1)))) else (none)) else (none)) else (none)) else (none)) else (none)) else (none)) else (none)) = some r := by first | (rw [hji20] at H; exact H) | (simp only [hji20] at H ⊢; exact H)
           have hji20w : (IntKind.i64.wrap (a3 + 1)) = ji20 := (i64_w _).trans hji20
           by_cases c21 : 0 ≤ (ji20)
           ·rw [if_pos c21] at H
            have c21b0 : decide (0 ≤ (ji20)) = true := decide_eq_true c21
            clear c21
            by_cases c22 : (ji20) < (l2.length : Int)
            ·rw [if_pos c22] at H
             have c22b0 : decide ((ji20) < (l2.length : Int)) = true := decide_eq_true c22
             clear c22
             obtain ⟨ji23, hji23⟩ : ∃ j_ : Int, (wrap64 (x11_1 + 1)) = j_ := ⟨_, rfl⟩
             replace H : (if 0 ≤ (ji23) then (if (ji23) < ((rd_LI l2 (ji20)).length : Int) then (if a3 < (l2.length : Int) then (if 0 ≤ a4 then (if a4 < ((rd_LI l2 a3).length : Int) then (if (wrap64 ((rd (rd_LI l2 (ji20)) (ji23)) + 1)) = (rd (rd_LI l2 a3) a4) then (some x11_1) else (lcs_partner_int.l0 kj5 l0 l1 l2 a3 a4 ji23)) else (none)) else (none)) else (none)) else (none)) else (none)) = some r := by first | (rw [hji23] at H; exact H) | (simp only [hji23] at H ⊢; exact H)
             have hji23w : (IntKind.i64.wrap (x11_1 + 1)) = ji23 := (i64_w _).trans hji23
             by_cases c24 : 0 ≤ (ji23)
             ·rw [if_pos c24] at H
              have c24b0 : decide (0 ≤ (ji23)) = true := decide_eq_true c24
              clear c24
              by_cases c25 : (ji23) < ((rd_LI l2 (ji20)).length : Int)
              ·rw [if_pos c25] at H
               have c25b0 : decide ((ji23) < ((rd_LI l2 (ji20)).length : Int)) = true := decide_eq_true c25
               clear c25
               by_cases c26 : a3 < (l2.length : Int)
               ·rw [if_pos c26] at H
                have c26b0 : decide (a3 < (l2.length : Int)) = true := decide_eq_true c26
                clear c26
                by_cases c27 : 0 ≤ a4
                ·rw [if_pos c27] at H
                 have c27b0 : decide (0 ≤ a4) = true := decide_eq_true c27
                 clear c27
                 by_cases c28 : a4 < ((rd_LI l2 a3).length : Int)
                 ·rw [if_pos c28] at H
                  have c28b0 : decide (a4 < ((rd_LI l2 a3).length : Int)) = true := decide_eq_true c28
                  clear c28
                  by_cases c29 : (wrap64 ((rd (rd_LI l2 (ji20)) (ji23)) + 1)) = (rd (rd_LI l2 a3) a4)
                  ·rw [if_pos c29] at H
                   have c29b0 : ((wrap64 ((rd (rd_LI l2 (ji20)) (ji23)) + 1)) == (rd (rd_LI l2 a3) a4)) = true := beq_iff_eq.mpr c29
                   have c29b1 : ((wrap64 ((rd (rd_LI l2 (ji20)) (ji23)) + 1)) != (rd (rd_LI l2 a3) a4)) = false := bne_eq_false_iff_eq.mpr c29
                   clear c29
                   obtain rfl := Option.some.inj H
                   have p105 : 0 ≤ (a3 : Int) := of_decide_eq_true AX
                   have q105 : a3 < (l0.length : Int) := of_decide_eq_true AX
                   obtain ⟨ad105, e105, hx105_0⟩ := Kd.at_int HR0.out a3 p105 q105
                   cases e105
                   replace p105 := eq_true p105
                   replace q105 := eq_true q105
                   have p106 : 0 ≤ (x11_1 : Int) := of_decide_eq_true AX
                   have q106 : x11_1 < (l1.length : Int) := of_decide_eq_true AX
                   obtain ⟨ad106, e106, hx106_0⟩ := Kd.at_int HR1.out x11_1 p106 q106
                   cases e106
                   replace p106 := eq_true p106
                   replace q106 := eq_true q106
                   have p107 : 0 ≤ ((ji20) : Int) := of_decide_eq_true AX
                   have q107 : (ji20) < (l2.length : Int) := of_decide_eq_true AX
                   obtain ⟨ad107, A107_0, c107_0, e107, hx107_0, hl107_0, hi107_0⟩ := at_LI HR2.out (ji20) p107 q107
                   cases e107
                   have HR107_0 := Aside0.mk hi107_0
                   have HC107_0 := Aside0.mk hl107_0
                   clear hi107_0 hl107_0
                   replace p107 := eq_true p107
                   replace q107 := eq_true q107
                   have p108 : 0 ≤ ((ji23) : Int) := of_decide_eq_true AX
                   have q108 : (ji23) < ((rd_LI l2 (ji20)).length : Int) := of_decide_eq_true AX
                   obtain ⟨ad108, e108, hx108_0⟩ := Kd.at_int HR107_0.out (ji23) p108 q108
                   cases e108
                   replace p108 := eq_true p108
                   replace q108 := eq_true q108
                   have p109 : 0 ≤ (a3 : Int) := of_decide_eq_true AX
                   have q109 : a3 < (l2.length : Int) := of_decide_eq_true AX
                   obtain ⟨ad109, A109_0, c109_0, e109, hx109_0, hl109_0, hi109_0⟩ := at_LI HR2.out a3 p109 q109
                   obtain rfl : ad107 = ad109 := (by injection e109)
                   have HR109_0 := Aside0.mk hi109_0
                   have HC109_0 := Aside0.mk hl109_0
                   clear hi109_0 hl109_0
                   replace p109 := eq_true p109
                   replace q109 := eq_true q109
                   have p110 : 0 ≤ (a4 : Int) := of_decide_eq_true AX
                   have q110 : a4 < ((rd_LI l2 a3).length : Int) := of_decide_eq_true AX
                   obtain ⟨ad110, e110, hx110_0⟩ := Kd.at_int HR109_0.out a4 p110 q110
                   cases e110
                   replace p110 := eq_true p110
                   replace q110 := eq_true q110
                   go_wp2
                   repeat (go_quiet (fail); try go_wp2)
                   go_ret
                   exact ⟨by first | rfl | (simp; done) | (simp only [← hji20, ← hji23] <;> (first | rfl | simp)) | (simp [*]; done), by repeat (first | exact Drawn0.refl _ | apply Drawn0.step)⟩
                  ·rw [if_neg c29] at H
                   have c29b0 : ((wrap64 ((rd (rd_LI l2 (ji20)) (ji23)) + 1)) == (rd (rd_LI l2 a3) a4)) = false := beq_eq_false_iff_ne.mpr c29
                   have c29b1 : ((wrap64 ((rd (rd_LI l2 (ji20)) (ji23)) + 1)) != (rd (rd_LI l2 a3) a4)) = true := bne_iff_ne.mpr c29
                   have H' := Aside0.mk H
                   clear H
                   have p105 : 0 ≤ (a3 : Int) := of_decide_eq_true AX
                   have q105 : a3 < (l0.length : Int) := of_decide_eq_true AX
                   obtain ⟨ad105, e105, hx105_0⟩ := Kd.at_int HR0.out a3 p105 q105
                   cases e105
                   replace p105 := eq_true p105
                   replace q105 := eq_true q105
                   have p106 : 0 ≤ (x11_1 : Int) := of_decide_eq_true AX
                   have q106 : x11_1 < (l1.length : Int) := of_decide_eq_true AX
                   obtain ⟨ad106, e106, hx106_0⟩ := Kd.at_int HR1.out x11_1 p106 q106
                   cases e106
                   replace p106 := eq_true p106
                   replace q106 := eq_true q106
                   have p107 : 0 ≤ ((ji20) : Int) := of_decide_eq_true AX
                   have q107 : (ji20) < (l2.length : Int) := of_decide_eq_true AX
                   obtain ⟨ad107, A107_0, c107_0, e107, hx107_0, hl107_0, hi107_0⟩ := at_LI HR2.out (ji20) p107 q107
                   cases e107
                   have HR107_0 := Aside0.mk hi107_0
                   have HC107_0 := Aside0.mk hl107_0
                   clear hi107_0 hl107_0
                   replace p107 := eq_true p107
                   replace q107 := eq_true q107
                   have p108 : 0 ≤ ((ji23) : Int) := of_decide_eq_true AX
                   have q108 : (ji23) < ((rd_LI l2 (ji20)).length : Int) := of_decide_eq_true AX
                   obtain ⟨ad108, e108, hx108_0⟩ := Kd.at_int HR107_0.out (ji23) p108 q108
                   cases e108
                   replace p108 := eq_true p108
                   replace q108 := eq_true q108
                   have p109 : 0 ≤ (a3 : Int) := of_decide_eq_true AX
                   have q109 : a3 < (l2.length : Int) := of_decide_eq_true AX
                   obtain ⟨ad109, A109_0, c109_0, e109, hx109_0, hl109_0, hi109_0⟩ := at_LI HR2.out a3 p109 q109
                   obtain rfl : ad107 = ad109 := (by injection e109)
                   have HR109_0 := Aside0.mk hi109_0
                   have HC109_0 := Aside0.mk hl109_0
                   clear hi109_0 hl109_0
                   replace p109 := eq_true p109
                   replace q109 := eq_true q109
                   have p110 : 0 ≤ (a4 : Int) := of_decide_eq_true AX
                   have q110 : a4 < ((rd_LI l2 a3).length : Int) := of_decide_eq_true AX
                   obtain ⟨ad110, e110, hx110_0⟩ := Kd.at_int HR109_0.out a4 p110 q110
                   cases e110
                   replace p110 := eq_true p110
                   replace q110 := eq_true q110
                   go_wp2
                   repeat (go_quiet (fail); try go_wp2)
                   go_roundg kj5
                   case measure => have := HK1.out; have := HJ5.out; omega
                   case rel => exact ⟨(ji23), (by first | rfl | (simp; done) | (simp only [← hji23] <;> (first | rfl | simp)) | (simp [*]; done)), H', ⟨by have := HK1.out; have := HJ5.out; omega⟩, by repeat (first | exact Drawn0.refl _ | apply Drawn0.step)⟩
                 ·rw [if_neg c28] at H
                  exact absurd H (by simp)
                ·rw [if_neg c27] at H
                 exact absurd H (by simp)
               ·rw [if_neg c26] at H
                exact absurd H (by simp)
              ·rw [if_neg c25] at H
               exact absurd H (by simp)
             ·rw [if_neg c24] at H
              exact absurd H (by simp)
            ·rw [if_neg c22] at H
             exact absurd H (by simp)
           ·rw [if_neg c21] at H
            exact absurd H (by simp)
          ·rw [if_neg c19] at H
           have c19b0 : ((rd l0 a3) == (rd l1 x11_1)) = false := beq_eq_false_iff_ne.mpr c19
           have c19b1 : ((rd l0 a3) != (rd l1 x11_1)) = true := bne_iff_ne.mpr c19
           have H' := Aside0.mk H
           clear H
           have p105 : 0 ≤ (a3 : Int) := of_decide_eq_true AX
           have q105 : a3 < (l0.length : Int) := of_decide_eq_true AX
           obtain ⟨ad105, e105, hx105_0⟩ := Kd.at_int HR0.out a3 p105 q105
           cases e105
           replace p105 := eq_true p105
           replace q105 := eq_true q105
           have p106 : 0 ≤ (x11_1 : Int) := of_decide_eq_true AX
           have q106 : x11_1 < (l1.length : Int) := of_decide_eq_true AX
           obtain ⟨ad106, e106, hx106_0⟩ := Kd.at_int HR1.out x11_1 p106 q106
           cases e106
           replace p106 := eq_true p106
           replace q106 := eq_true q106
           go_wp2
           repeat (go_quiet (fail); try go_wp2)
           go_roundg kj5
           case measure => have := HK1.out; have := HJ5.out; omega
           case rel => exact ⟨(wrap64 (x11_1 + 1)), SX, H', ⟨by have := HK1.out; have := HJ5.out; omega⟩, by repeat (first | exact Drawn0.refl _ | apply Drawn0.step)⟩
         ·rw [if_neg c18] at H
          exact absurd H (by simp)
        ·rw [if_neg c17] at H
         exact absurd H (by simp)
       ·rw [if_neg c16] at H
        exact absurd H (by simp)
      ·rw [if_neg c15] at H
       exact absurd H (by simp)
     ·replace c14 := Bool.eq_false_iff.mpr c14
      subst c14
      have H1 : (some (-1)) = some r := by rw [if_neg (show ¬ (false = true) by decide)] at H; exact H
      clear H
      have H := H1
      clear H1
      obtain rfl := Option.some.inj H
      go_wp2
      repeat (go_quiet (fail); try go_wp2)
      go_ret
      exact ⟨SX, by repeat (first | exact Drawn0.refl _ | apply Drawn0.step)⟩

end Go.Proofs.Ytdbgdkbpamekpaa.Q
