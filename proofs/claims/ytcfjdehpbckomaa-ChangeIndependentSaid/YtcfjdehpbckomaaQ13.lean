
import Derived.Test.YtcfjdehpbckomaaQ0
namespace Go.Proofs.Ytcfjdehpbckomaa.Q
open Go.RowKit Go.Proofs.YtcfjdehpbckomaaW.dS Go.Proofs.YtcfjdehpbckomaaW.jm Go.Proofs.YtcfjdehpbckomaaW.mm
attribute [local go_sem] mU na nt mX m6 nu mP mW
set_option linter.unusedVariables false
set_option linter.unusedSimpArgs false
/-! ### treemergeref30_Find: function 59 -/
def dh.l0 : Nat → List Int → Int → Int → Option (Int)
 | 0, _, _, _ => none
 | k + 1, x0, x1, x5 => if x5 < (x0.length : Int) then (if 0 ≤ x5 then (if (rd x0 x5) = x1 then (some x5) else (dh.l0 k x0 x1 (wrap64 (x5 + 1)))) else (none)) else (some (-1))
def dh.f (k : Nat) (l0 : List Int) (a1 : Int) : Option (Int) := dh.l0 k l0 a1 0
theorem dh.fp : ∀ k, (∀ y0 y1 y2, aI (dh.l0 k y0 y1 y2) (dh.l0 (k + 1) y0 y1 y2))
 | 0 => fun _ _ _ r h => by simp [dh.l0] at h
 | k + 1 => by
  have dq := dh.fp k
  ·intro y0 y1 y2
   unfold dh.l0
   repeat' first
   | (with_reducible exact dq _ _ _)
   | (with_reducible exact aI.refl _)
   | (with_reducible exact aI.none _)
   | (with_reducible refine aI.ite ?_ ?_)
   | (with_reducible refine aI.bind ?_ (fun _ => ?_))
theorem dh.mono : ∀ a0 a1 k, aI (dh.f k a0 a1) (dh.f (k + 1) a0 a1) := by
 intro a0 a1 k
 have dq := dh.fp k
 unfold dh.f
 repeat' first
   | (with_reducible exact dq _ _ _)
   | (with_reducible exact aI.refl _)
   | (with_reducible exact aI.none _)
   | (with_reducible refine aI.ite ?_ ?_)
   | (with_reducible refine aI.bind ?_ (fun _ => ?_))
set_option maxHeartbeats 8000000 in
set_option maxRecDepth 100000 in
theorem dh.calls (k : Nat) (A0 : Option Addr) (c0 : Nat) (l0 : List Int) (a1 : Int) (r : Int) (w : World) (hr0 : Kd.C (Kd.int .i64) w A0 l0.length l0) (hc0 : l0.length ≤ c0) (h : dh.f k l0 a1 = some r) :
  Calls Try.prog 59 #[.slice A0 l0.length c0, .int .i64 a1] w fun e w' => e = .returned (.int .i64 r) ∧ bL w w' := by
 have dr := ae.mk hr0
 have qg := ae.mk hc0
 clear hr0 hc0
 have H : (dh.l0 k l0 a1 0) = some r := h
 clear h
 have H' := ae.mk H
 clear H
 go_enter Try.func59, Try.ntmps59
 go_wp2
 go_loopg [5] k (fun kq v5 w' => ∃ (a_ : Int), v5 = .int .i64 a_ ∧ ae (dh.l0 kq l0 a1 a_ = some r) ∧ ae (kq ≤ k) ∧ bL w w')
 case atStart => exact ⟨(0), SX, H', ⟨Nat.le_refl _⟩, by repeat (first | exact bL.refl _ | apply bL.step)⟩
 case round =>
  clear H'
  try clear p2
  obtain ⟨a_, rfl, HA, d1, ⟨m1, rfl⟩⟩ := hrel
  cases gk with
  | zero => exact absurd HA.out (by simp [dh.l0])
  | succ k1 =>
   have H := HA.out
   clear HA
   simp only [dh.l0] at H
   by_cases c3 : a_ < (l0.length : Int)
   ·rw [if_pos c3] at H
    have kC : decide (a_ < (l0.length : Int)) = true := decide_eq_true c3
    clear c3
    by_cases c4 : 0 ≤ a_
    ·rw [if_pos c4] at H
     have nN : decide (0 ≤ a_) = true := decide_eq_true c4
     clear c4
     by_cases c5 : (rd l0 a_) = a1
     ·rw [if_pos c5] at H
      have jn : ((rd l0 a_) == a1) = true := beq_iff_eq.mpr c5
      have qi : ((rd l0 a_) != a1) = false := bne_eq_false_iff_eq.mpr c5
      clear c5
      obtain rfl := Option.some.inj H
      have wt : 0 ≤ (a_ : Int) := of_decide_eq_true AX
      have za : a_ < (l0.length : Int) := of_decide_eq_true AX
      obtain ⟨aaq, MU, adJ⟩ := Kd.dB dr.out a_ wt za
      cases MU
      replace wt := eq_true wt
      replace za := eq_true za
      go_wp2
      go_ret
      exact ⟨SX, by repeat (first | exact bL.refl _ | apply bL.step)⟩
     ·rw [if_neg c5] at H
      have jn : ((rd l0 a_) == a1) = false := beq_eq_false_iff_ne.mpr c5
      have qi : ((rd l0 a_) != a1) = true := bne_iff_ne.mpr c5
      have H' := ae.mk H
      clear H
      have wt : 0 ≤ (a_ : Int) := of_decide_eq_true AX
      have za : a_ < (l0.length : Int) := of_decide_eq_true AX
      obtain ⟨aaq, MU, adJ⟩ := Kd.dB dr.out a_ wt za
      cases MU
      replace wt := eq_true wt
      replace za := eq_true za
      go_wp2
      go_roundg k1
      case measure => have := d1.out; omega
      case rel => exact ⟨(wrap64 (a_ + 1)), SX, H', ⟨by have := d1.out; omega⟩, by repeat (first | exact bL.refl _ | apply bL.step)⟩
    ·rw [if_neg c4] at H
     exact absurd H (by simp)
   ·rw [if_neg c3] at H
    have kC : decide (a_ < (l0.length : Int)) = false := decide_eq_false c3
    clear c3
    obtain rfl := Option.some.inj H
    go_wp2
    go_ret
    exact ⟨SX, by repeat (first | exact bL.refl _ | apply bL.step)⟩
mutual
def cV.l0 : Nat → List (bC) → List (bC) → List Int → Int → Int → Option (Bool)
 | 0, _, _, _, _, _ => none
 | k + 1, x0, x1, x2, x3, x9 => if x9 < (x2.length : Int) then (if 0 ≤ x9 then (if (rd x2 x9) < 0 then (cV.j1 k x0 x1 x2 x3 x9 true) else (if (rd x2 x9) ≥ x3 then (cV.j1 k x0 x1 x2 x3 x9 true) else ((dh.f k x2 (rd x2 x9)).bind fun AJ => (cV.j1 k x0 x1 x2 x3 x9 (AJ != x9))))) else (none)) else ((dh.f k x2 0).bind fun tH => (if 0 < (x0.length : Int) then (if 0 < (x1.length : Int) then (if ((aD x0 0).f1) = ((aD x1 0).f1) then (some (tH == 0)) else (some (decide (tH < 0)))) else (none)) else (none)))
def cV.j1 : Nat → List (bC) → List (bC) → List Int → Int → Int → Bool → Option (Bool)
 | 0, _, _, _, _, _, _ => none
 | k + 1, x0, x1, x2, x3, x9, x44 => if x44 = true then (some false) else (if 0 ≤ x9 then (if x9 < (x2.length : Int) then (if (rd x2 x9) < (x0.length : Int) then (if 0 ≤ (rd x2 x9) then (if x9 < (x1.length : Int) then (if ((aD x0 (rd x2 x9)).f1) = ((aD x1 x9).f1) then (cV.l0 k x0 x1 x2 x3 (wrap64 (x9 + 1))) else (some false)) else (none)) else (none)) else (cV.l0 k x0 x1 x2 x3 (wrap64 (x9 + 1)))) else (none)) else (none))
end
def cV.f (k : Nat) (l0 : List (bC)) (l1 : List (bC)) (l2 : List Int) (a3 : Int) : Option (Bool) := if (l2.length : Int) = (l1.length : Int) then (cV.l0 k l0 l1 l2 a3 0) else (some false)
theorem cV.fp : ∀ k, (∀ y0 y1 y2 y3 y4, aI (cV.l0 k y0 y1 y2 y3 y4) (cV.l0 (k + 1) y0 y1 y2 y3 y4)) ∧ (∀ y0 y1 y2 y3 y4 y5, aI (cV.j1 k y0 y1 y2 y3 y4 y5) (cV.j1 (k + 1) y0 y1 y2 y3 y4 y5))
 | 0 => ⟨fun _ _ _ _ _ r h => by simp [cV.l0] at h, fun _ _ _ _ _ _ r h => by simp [cV.j1] at h⟩
 | k + 1 => by
  obtain ⟨dq, ih1⟩ := cV.fp k
  refine ⟨?_, ?_⟩ <;> intros <;> (first | unfold cV.l0 | unfold cV.j1) <;> repeat' first
   | (with_reducible exact dq _ _ _ _ _)
   | (with_reducible exact ih1 _ _ _ _ _ _)
   | (with_reducible exact dh.mono _ _ _)
   | (with_reducible exact aI.refl _)
   | (with_reducible exact aI.none _)
   | (with_reducible refine aI.ite ?_ ?_)
   | (with_reducible refine aI.bind ?_ (fun _ => ?_))
   | exact dq _ _ _ _ _
   | exact ih1 _ _ _ _ _ _
   | exact dh.mono _ _ _
   | exact aI.none _
   | refine aI.ite ?_ ?_
   | refine aI.bind ?_ (fun _ => ?_)
theorem cV.mono : ∀ a0 a1 a2 a3 k, aI (cV.f k a0 a1 a2 a3) (cV.f (k + 1) a0 a1 a2 a3) := by
 intro a0 a1 a2 a3 k
 obtain ⟨dq, ih1⟩ := cV.fp k
 unfold cV.f
 repeat' first
   | (with_reducible exact dq _ _ _ _ _)
   | (with_reducible exact ih1 _ _ _ _ _ _)
   | (with_reducible exact dh.mono _ _ _)
   | (with_reducible exact aI.refl _)
   | (with_reducible exact aI.none _)
   | (with_reducible refine aI.ite ?_ ?_)
   | (with_reducible refine aI.bind ?_ (fun _ => ?_))
set_option maxHeartbeats 8000000 in
set_option maxRecDepth 100000 in
theorem cV.calls (k : Nat) (A0 : Option Addr) (c0 : Nat) (l0 : List (bC)) (A1 : Option Addr) (c1 : Nat) (l1 : List (bC)) (A2 : Option Addr) (c2 : Nat) (l2 : List Int) (a3 : Int) (r : Bool) (w : World) (hr0 : Kd.C fc w A0 l0.length l0) (hc0 : l0.length ≤ c0) (hr1 : Kd.C fc w A1 l1.length l1) (hc1 : l1.length ≤ c1) (hr2 : Kd.C (Kd.int .i64) w A2 l2.length l2) (hc2 : l2.length ≤ c2) (h : cV.f k l0 l1 l2 a3 = some r) :
  Calls Try.prog 58 #[.slice A0 l0.length c0, .slice A1 l1.length c1, .slice A2 l2.length c2, .int .i64 a3] w fun e w' => e = .returned (.bool r) ∧ bL w w' := by
 have dr := ae.mk hr0
 have qg := ae.mk hc0
 clear hr0 hc0
 have lg := ae.mk hr1
 have sH := ae.mk hc1
 clear hr1 hc1
 have gD := ae.mk hr2
 have lO := ae.mk hc2
 clear hr2 hc2
 have H : (if (l2.length : Int) = (l1.length : Int) then (cV.l0 k l0 l1 l2 a3 0) else (some false)) = some r := h
 clear h
 by_cases c5 : (l2.length : Int) = (l1.length : Int)
 ·rw [if_pos c5] at H
  have jn : ((l2.length : Int) == (l1.length : Int)) = true := beq_iff_eq.mpr c5
  have qi : ((l2.length : Int) != (l1.length : Int)) = false := bne_eq_false_iff_eq.mpr c5
  have B4 : (l2.length == l1.length) = true := by first | simpa using c5 | (simp at c5 ⊢; omega)
  clear c5
  have H' := ae.mk H
  clear H
  go_enter Try.func58, Try.ntmps58
  go_wp2
  repeat (go_quiet (fail); try go_wp2)
  go_loopg [9] k (fun kq v9 w' => ∃ (bj : Int), v9 = .int .i64 bj ∧ ae (cV.l0 kq l0 l1 l2 a3 bj = some r) ∧ ae (kq ≤ k) ∧ bL w w')
  case atStart => exact ⟨(0), SX, H', ⟨Nat.le_refl _⟩, by repeat (first | exact bL.refl _ | apply bL.step)⟩
  case round =>
   clear H'
   try clear c1
   try clear c2
   try clear p2
   try clear c5
   try clear jn
   try clear qi
   try clear B4
   obtain ⟨bj, rfl, HA, d1, ⟨m1, rfl⟩⟩ := hrel
   cases gk with
   | zero => exact absurd HA.out (by simp [cV.l0])
   | succ k1 =>
    have H := HA.out
    clear HA
    simp only [cV.l0] at H
    by_cases c6 : bj < (l2.length : Int)
    ·rw [if_pos c6] at H
     have gJ : decide (bj < (l2.length : Int)) = true := decide_eq_true c6
     clear c6
     have yT := ae.mk H
     clear H
     go_upto_region 6 with (fail)
     repeat (go_quiet (fail); go_upto_region 6 with (fail))
     go_cut [44] (fun v44 wc => ∃ (kq : Nat) (IB : Bool), v44 = .bool IB ∧ ae (cV.j1 kq l0 l1 l2 a3 bj IB = some r) ∧ ae (kq ≤ k1) ∧ bL w wc)
     case first =>
      have H := yT.out
      clear yT
      by_cases c8 : 0 ≤ bj
      ·rw [if_pos c8] at H
       have kc : decide (0 ≤ bj) = true := decide_eq_true c8
       clear c8
       (first | rw [kc] | (simp only [gY, gX]; rw [kc]) | skip)
       by_cases c9 : (rd l2 bj) < 0
       ·rw [if_pos c9] at H
        have BO : decide ((rd l2 bj) < 0) = true := decide_eq_true c9
        clear c9
        have H' := ae.mk H
        clear H
        have qc : 0 ≤ (bj : Int) := of_decide_eq_true AX
        have qa : bj < (l2.length : Int) := of_decide_eq_true AX
        obtain ⟨Ej, Ef, PN⟩ := Kd.dB gD.out bj qc qa
        cases Ef
        replace qc := eq_true qc
        replace qa := eq_true qa
        go_wp2
        repeat (go_quiet (fail); try go_wp2)
        go_meet
        case rel => exact ⟨_, (true), SX, H', ⟨by have := d1.out; first | omega | exact Nat.le_refl _⟩, by repeat (first | exact bL.refl _ | apply bL.step)⟩
       ·rw [if_neg c9] at H
        have BO : decide ((rd l2 bj) < 0) = false := decide_eq_false c9
        clear c9
        by_cases dO : (rd l2 bj) ≥ a3
        ·rw [if_pos dO] at H
         have k6 : decide (a3 ≤ (rd l2 bj)) = true := decide_eq_true dO
         clear dO
         have H' := ae.mk H
         clear H
         have qc : 0 ≤ (bj : Int) := of_decide_eq_true AX
         have qa : bj < (l2.length : Int) := of_decide_eq_true AX
         obtain ⟨Ej, Ef, PN⟩ := Kd.dB gD.out bj qc qa
         cases Ef
         replace qc := eq_true qc
         replace qa := eq_true qa
         have vU : 0 ≤ (bj : Int) := of_decide_eq_true AX
         have u4 : bj < (l2.length : Int) := of_decide_eq_true AX
         obtain ⟨Qz, OP, SC⟩ := Kd.dB gD.out bj vU u4
         obtain rfl : Ej = Qz := (by injection OP)
         replace vU := eq_true vU
         replace u4 := eq_true u4
         go_wp2
         repeat (go_quiet (fail); try go_wp2)
         go_meet
         case rel => exact ⟨_, (true), SX, H', ⟨by have := d1.out; first | omega | exact Nat.le_refl _⟩, by repeat (first | exact bL.refl _ | apply bL.step)⟩
        ·rw [if_neg dO] at H
         have k6 : decide (a3 ≤ (rd l2 bj)) = false := decide_eq_false dO
         clear dO
         replace H := Option.bind_eq_some_iff.mp H
         obtain ⟨AJ, rj, H⟩ := H
         have pl := ae.mk rj
         clear rj
         have H' := ae.mk H
         clear H
         have qc : 0 ≤ (bj : Int) := of_decide_eq_true AX
         have qa : bj < (l2.length : Int) := of_decide_eq_true AX
         obtain ⟨Ej, Ef, PN⟩ := Kd.dB gD.out bj qc qa
         cases Ef
         replace qc := eq_true qc
         replace qa := eq_true qa
         have vU : 0 ≤ (bj : Int) := of_decide_eq_true AX
         have u4 : bj < (l2.length : Int) := of_decide_eq_true AX
         obtain ⟨Qz, OP, SC⟩ := Kd.dB gD.out bj vU u4
         obtain rfl : Ej = Qz := (by injection OP)
         replace vU := eq_true vU
         replace u4 := eq_true u4
         have Is : 0 ≤ (bj : Int) := of_decide_eq_true AX
         have Iy : bj < (l2.length : Int) := of_decide_eq_true AX
         obtain ⟨ZY, aff, abt⟩ := Kd.dB gD.out bj Is Iy
         obtain rfl : Ej = ZY := (by injection aff)
         replace Is := eq_true Is
         replace Iy := eq_true Iy
         go_wp2_with (first | (go_at_call 59; (with_reducible refine (dh.calls k1 _ _ l2 (rd l2 bj) AJ _ ?aH ?aG pl.out).mono ?_); (case aH => exact CX gD.out); (case aG => exact lO.out); rintro e w' ⟨rfl, ⟨nd, rfl⟩⟩; (try first | exact ⟨rfl, _, World.drewN_drewN _ _ _⟩ | exact ⟨rfl, _, Eq.trans (World.drewN_drewN _ _ _) (congrArg (World.drewN _) (Nat.add_assoc _ _ _))⟩)))
         repeat (go_quiet (first | (go_at_call 59; (with_reducible refine (dh.calls k1 _ _ l2 (rd l2 bj) AJ _ ?aH ?aG pl.out).mono ?_); (case aH => exact CX gD.out); (case aG => exact lO.out); rintro e w' ⟨rfl, ⟨nd, rfl⟩⟩; (try first | exact ⟨rfl, _, World.drewN_drewN _ _ _⟩ | exact ⟨rfl, _, Eq.trans (World.drewN_drewN _ _ _) (congrArg (World.drewN _) (Nat.add_assoc _ _ _))⟩))); try go_wp2_with (first | (go_at_call 59; (with_reducible refine (dh.calls k1 _ _ l2 (rd l2 bj) AJ _ ?aH ?aG pl.out).mono ?_); (case aH => exact CX gD.out); (case aG => exact lO.out); rintro e w' ⟨rfl, ⟨nd, rfl⟩⟩; (try first | exact ⟨rfl, _, World.drewN_drewN _ _ _⟩ | exact ⟨rfl, _, Eq.trans (World.drewN_drewN _ _ _) (congrArg (World.drewN _) (Nat.add_assoc _ _ _))⟩))))
         go_meet
         case rel => exact ⟨_, ((AJ != bj)), SX, H', ⟨by have := d1.out; first | omega | exact Nat.le_refl _⟩, by repeat (first | exact bL.refl _ | apply bL.step)⟩
      ·rw [if_neg c8] at H
       exact absurd H (by simp)
     case rest =>
      clear yT
      try clear c1
      try clear c2
      try clear p2
      try clear p3
      try clear q3
      try clear kE
      try clear c5
      try clear jn
      try clear qi
      try clear B4
      try clear c6
      try clear gJ
      try clear c8
      try clear kc
      try clear c9
      try clear BO
      try clear dO
      try clear k6
      try clear PN
      try clear SC
      try clear abt
      try clear p2
      try clear qc
      try clear vU
      try clear Is
      try clear qa
      try clear u4
      try clear Iy
      obtain ⟨kq, IB, rfl, HA, lD, ⟨mc6, rfl⟩⟩ := hcut
      cases kq with
      | zero => exact absurd HA.out (by simp [cV.j1])
      | succ vF =>
       have H := HA.out
       clear HA
       simp only [cV.j1] at H
       by_cases ji : IB = true
       ·subst ji
        have H1 : (some false) = some r := by rw [if_pos rfl] at H; exact H
        clear H
        have H := H1
        clear H1
        obtain rfl := Option.some.inj H
        go_wp2
        repeat (go_quiet (fail); try go_wp2)
        go_ret
        exact ⟨SX, by repeat (first | exact bL.refl _ | apply bL.step)⟩
       ·replace ji := Bool.eq_false_iff.mpr ji
        subst ji
        have H1 : (if 0 ≤ bj then (if bj < (l2.length : Int) then (if (rd l2 bj) < (l0.length : Int) then (if 0 ≤ (rd l2 bj) then (if bj < (l1.length : Int) then (if ((aD l0 (rd l2 bj)).f1) = ((aD l1 bj).f1) then (cV.l0 vF l0 l1 l2 a3 (wrap64 (bj + 1))) else (some false)) else (none)) else (none)) else (cV.l0 vF l0 l1 l2 a3 (wrap64 (bj + 1)))) else (none)) else (none)) = some r := by rw [if_neg (show ¬ (false = true) by decide)] at H; exact H
        clear H
        have H := H1
        clear H1
        by_cases iN : 0 ≤ bj
        ·rw [if_pos iN] at H
         have QI : decide (0 ≤ bj) = true := decide_eq_true iN
         clear iN
         by_cases mO : bj < (l2.length : Int)
         ·rw [if_pos mO] at H
          have ae9 : decide (bj < (l2.length : Int)) = true := decide_eq_true mO
          clear mO
          by_cases kH : (rd l2 bj) < (l0.length : Int)
          ·rw [if_pos kH] at H
           have IZ : decide ((rd l2 bj) < (l0.length : Int)) = true := decide_eq_true kH
           clear kH
           by_cases en : 0 ≤ (rd l2 bj)
           ·rw [if_pos en] at H
            have sy : decide (0 ≤ (rd l2 bj)) = true := decide_eq_true en
            clear en
            by_cases ip : bj < (l1.length : Int)
            ·rw [if_pos ip] at H
             have zO : decide (bj < (l1.length : Int)) = true := decide_eq_true ip
             clear ip
             by_cases fY : ((aD l0 (rd l2 bj)).f1) = ((aD l1 bj).f1)
             ·rw [if_pos fY] at H
              have CZ : (((aD l0 (rd l2 bj)).f1) == ((aD l1 bj).f1)) = true := beq_iff_eq.mpr fY
              have GP : (((aD l0 (rd l2 bj)).f1) != ((aD l1 bj).f1)) = false := bne_eq_false_iff_eq.mpr fY
              clear fY
              have H' := ae.mk H
              clear H
              have rH : 0 ≤ (bj : Int) := of_decide_eq_true AX
              have qO : bj < (l2.length : Int) := of_decide_eq_true AX
              obtain ⟨Ka, Hk, Yp⟩ := Kd.dB gD.out bj rH qO
              cases Hk
              replace rH := eq_true rH
              replace qO := eq_true qO
              have zl : 0 ≤ (bj : Int) := of_decide_eq_true AX
              have zw : bj < (l2.length : Int) := of_decide_eq_true AX
              obtain ⟨PF, Rc, ail⟩ := Kd.dB gD.out bj zl zw
              obtain rfl : Ka = PF := (by injection Rc)
              replace zl := eq_true zl
              replace zw := eq_true zw
              have wF : 0 ≤ ((rd l2 bj) : Int) := of_decide_eq_true AX
              have yx : (rd l2 bj) < (l0.length : Int) := of_decide_eq_true AX
              obtain ⟨aa0, ae1, afX, ahX, akz, Ql, acn, agQ, aiR, ag6, abp, Gz, C_, GI, FZ⟩ := gv dr.out (rd l2 bj) wF yx
              cases Ql
              have adq := ae.mk C_
              have ahP := ae.mk Gz
              clear C_ Gz
              have ac' := ae.mk FZ
              have aaC := ae.mk GI
              clear FZ GI
              replace wF := eq_true wF
              replace yx := eq_true yx
              have xo : 0 ≤ (bj : Int) := of_decide_eq_true AX
              have xK : bj < (l1.length : Int) := of_decide_eq_true AX
              obtain ⟨ahJ, adt, ag_, adC, aj8, Qv, aiO, agi, adI, ahQ, abv, De, EN, DZ, CO⟩ := gv lg.out bj xo xK
              cases Qv
              have ah9 := ae.mk EN
              have ajH := ae.mk De
              clear EN De
              have ae5 := ae.mk CO
              have abI := ae.mk DZ
              clear CO DZ
              replace xo := eq_true xo
              replace xK := eq_true xK
              go_wp2
              repeat (go_quiet (fail); try go_wp2)
              go_roundg vF
              case measure => have := d1.out; have := lD.out; omega
              case rel => exact ⟨(wrap64 (bj + 1)), SX, H', ⟨by have := d1.out; have := lD.out; omega⟩, by repeat (first | exact bL.refl _ | apply bL.step)⟩
             ·rw [if_neg fY] at H
              have CZ : (((aD l0 (rd l2 bj)).f1) == ((aD l1 bj).f1)) = false := beq_eq_false_iff_ne.mpr fY
              have GP : (((aD l0 (rd l2 bj)).f1) != ((aD l1 bj).f1)) = true := bne_iff_ne.mpr fY
              obtain rfl := Option.some.inj H
              have rH : 0 ≤ (bj : Int) := of_decide_eq_true AX
              have qO : bj < (l2.length : Int) := of_decide_eq_true AX
              obtain ⟨Ka, Hk, Yp⟩ := Kd.dB gD.out bj rH qO
              cases Hk
              replace rH := eq_true rH
              replace qO := eq_true qO
              have zl : 0 ≤ (bj : Int) := of_decide_eq_true AX
              have zw : bj < (l2.length : Int) := of_decide_eq_true AX
              obtain ⟨PF, Rc, ail⟩ := Kd.dB gD.out bj zl zw
              obtain rfl : Ka = PF := (by injection Rc)
              replace zl := eq_true zl
              replace zw := eq_true zw
              have wF : 0 ≤ ((rd l2 bj) : Int) := of_decide_eq_true AX
              have yx : (rd l2 bj) < (l0.length : Int) := of_decide_eq_true AX
              obtain ⟨aa0, ae1, afX, ahX, akz, Ql, acn, agQ, aiR, ag6, abp, Gz, C_, GI, FZ⟩ := gv dr.out (rd l2 bj) wF yx
              cases Ql
              have adq := ae.mk C_
              have ahP := ae.mk Gz
              clear C_ Gz
              have ac' := ae.mk FZ
              have aaC := ae.mk GI
              clear FZ GI
              replace wF := eq_true wF
              replace yx := eq_true yx
              have xo : 0 ≤ (bj : Int) := of_decide_eq_true AX
              have xK : bj < (l1.length : Int) := of_decide_eq_true AX
              obtain ⟨ahJ, adt, ag_, adC, aj8, Qv, aiO, agi, adI, ahQ, abv, De, EN, DZ, CO⟩ := gv lg.out bj xo xK
              cases Qv
              have ah9 := ae.mk EN
              have ajH := ae.mk De
              clear EN De
              have ae5 := ae.mk CO
              have abI := ae.mk DZ
              clear CO DZ
              replace xo := eq_true xo
              replace xK := eq_true xK
              go_wp2
              repeat (go_quiet (fail); try go_wp2)
              go_ret
              exact ⟨SX, by repeat (first | exact bL.refl _ | apply bL.step)⟩
            ·rw [if_neg ip] at H
             exact absurd H (by simp)
           ·rw [if_neg en] at H
            exact absurd H (by simp)
          ·rw [if_neg kH] at H
           have IZ : decide ((rd l2 bj) < (l0.length : Int)) = false := decide_eq_false kH
           clear kH
           have H' := ae.mk H
           clear H
           have rH : 0 ≤ (bj : Int) := of_decide_eq_true AX
           have qO : bj < (l2.length : Int) := of_decide_eq_true AX
           obtain ⟨Ka, Hk, Yp⟩ := Kd.dB gD.out bj rH qO
           cases Hk
           replace rH := eq_true rH
           replace qO := eq_true qO
           go_wp2
           repeat (go_quiet (fail); try go_wp2)
           go_roundg vF
           case measure => have := d1.out; have := lD.out; omega
           case rel => exact ⟨(wrap64 (bj + 1)), SX, H', ⟨by have := d1.out; have := lD.out; omega⟩, by repeat (first | exact bL.refl _ | apply bL.step)⟩
         ·rw [if_neg mO] at H
          exact absurd H (by simp)
        ·rw [if_neg iN] at H
         exact absurd H (by simp)
    ·rw [if_neg c6] at H
     have gJ : decide (bj < (l2.length : Int)) = false := decide_eq_false c6
     clear c6
     replace H := Option.bind_eq_some_iff.mp H
     obtain ⟨tH, XB, H⟩ := H
     have AE := ae.mk XB
     clear XB
     by_cases nD : 0 < (l0.length : Int)
     ·rw [if_pos nD] at H
      have Ye : decide (0 < (l0.length : Int)) = true := decide_eq_true nD
      have Wi : decide (0 < l0.length) = true := decide_eq_true (by omega)
      clear nD
      by_cases kS : 0 < (l1.length : Int)
      ·rw [if_pos kS] at H
       have abj : decide (0 < (l1.length : Int)) = true := decide_eq_true kS
       have ac4 : decide (0 < l1.length) = true := decide_eq_true (by omega)
       clear kS
       by_cases gQ : ((aD l0 0).f1) = ((aD l1 0).f1)
       ·rw [if_pos gQ] at H
        have ui : (((aD l0 0).f1) == ((aD l1 0).f1)) = true := beq_iff_eq.mpr gQ
        have Lk : (((aD l0 0).f1) != ((aD l1 0).f1)) = false := bne_eq_false_iff_eq.mpr gQ
        clear gQ
        obtain rfl := Option.some.inj H
        go_wp2_with (first | (go_at_call 59; (with_reducible refine (dh.calls k1 _ _ l2 0 tH _ ?aH ?aG AE.out).mono ?_); (case aH => exact CX gD.out); (case aG => exact lO.out); rintro e w' ⟨rfl, ⟨nd, rfl⟩⟩; (try first | exact ⟨rfl, _, World.drewN_drewN _ _ _⟩ | exact ⟨rfl, _, Eq.trans (World.drewN_drewN _ _ _) (congrArg (World.drewN _) (Nat.add_assoc _ _ _))⟩); have kQ : 0 ≤ (0 : Int) := (by omega); have kp : 0 < (l0.length : Int) := of_decide_eq_true AX; obtain ⟨FV, Ci, Dn, FS, Gw, q5, kV, kA, ki, kj, kY, mY, nF, mQ, nE⟩ := gv dr.out 0 kQ kp; cases q5; have EY : (0 < l0.length) = True := eq_true (by omega); (try rw [show ((0 : Int)).toNat = 0 from rfl] at kV); (try rw [show 0 * 5 = 0 from rfl] at kV); (try rw [Addr.add_zero'] at kV); (try rw [show ((0 : Int)).toNat = 0 from rfl] at kA); (try rw [show 0 * 5 = 0 from rfl] at kA); (try rw [Addr.add_zero'] at kA); (try rw [show ((0 : Int)).toNat = 0 from rfl] at ki); (try rw [show 0 * 5 = 0 from rfl] at ki); (try rw [Addr.add_zero'] at ki); (try rw [show ((0 : Int)).toNat = 0 from rfl] at kj); (try rw [show 0 * 5 = 0 from rfl] at kj); (try rw [Addr.add_zero'] at kj); (try rw [show ((0 : Int)).toNat = 0 from rfl] at kY); (try rw [show 0 * 5 = 0 from rfl] at kY); (try rw [Addr.add_zero'] at kY); have Fb := ae.mk nF; have D1 := ae.mk mY; clear nF mY; have Dl := ae.mk nE; have GR := ae.mk mQ; clear nE mQ; replace kQ := eq_true kQ; replace kp := eq_true kp; have kL : 0 ≤ (0 : Int) := (by omega); have kO : 0 < (l1.length : Int) := of_decide_eq_true AX; obtain ⟨G7, Er, Gp, D3, GN, rV, kW, kD, kv, kr, kh, nL, nC, nG, nK⟩ := gv lg.out 0 kL kO; cases rV; have DO : (0 < l1.length) = True := eq_true (by omega); (try rw [show ((0 : Int)).toNat = 0 from rfl] at kW); (try rw [show 0 * 5 = 0 from rfl] at kW); (try rw [Addr.add_zero'] at kW); (try rw [show ((0 : Int)).toNat = 0 from rfl] at kD); (try rw [show 0 * 5 = 0 from rfl] at kD); (try rw [Addr.add_zero'] at kD); (try rw [show ((0 : Int)).toNat = 0 from rfl] at kv); (try rw [show 0 * 5 = 0 from rfl] at kv); (try rw [Addr.add_zero'] at kv); (try rw [show ((0 : Int)).toNat = 0 from rfl] at kr); (try rw [show 0 * 5 = 0 from rfl] at kr); (try rw [Addr.add_zero'] at kr); (try rw [show ((0 : Int)).toNat = 0 from rfl] at kh); (try rw [show 0 * 5 = 0 from rfl] at kh); (try rw [Addr.add_zero'] at kh); have Fm := ae.mk nC; have Cw := ae.mk nL; clear nC nL; have EW := ae.mk nK; have Dg := ae.mk nG; clear nK nG; replace kL := eq_true kL; replace kO := eq_true kO))
        repeat (go_quiet (first | (go_at_call 59; (with_reducible refine (dh.calls k1 _ _ l2 0 tH _ ?aH ?aG AE.out).mono ?_); (case aH => exact CX gD.out); (case aG => exact lO.out); rintro e w' ⟨rfl, ⟨nd, rfl⟩⟩; (try first | exact ⟨rfl, _, World.drewN_drewN _ _ _⟩ | exact ⟨rfl, _, Eq.trans (World.drewN_drewN _ _ _) (congrArg (World.drewN _) (Nat.add_assoc _ _ _))⟩); have kQ : 0 ≤ (0 : Int) := (by omega); have kp : 0 < (l0.length : Int) := of_decide_eq_true AX; obtain ⟨FV, Ci, Dn, FS, Gw, q5, kV, kA, ki, kj, kY, mY, nF, mQ, nE⟩ := gv dr.out 0 kQ kp; cases q5; have EY : (0 < l0.length) = True := eq_true (by omega); (try rw [show ((0 : Int)).toNat = 0 from rfl] at kV); (try rw [show 0 * 5 = 0 from rfl] at kV); (try rw [Addr.add_zero'] at kV); (try rw [show ((0 : Int)).toNat = 0 from rfl] at kA); (try rw [show 0 * 5 = 0 from rfl] at kA); (try rw [Addr.add_zero'] at kA); (try rw [show ((0 : Int)).toNat = 0 from rfl] at ki); (try rw [show 0 * 5 = 0 from rfl] at ki); (try rw [Addr.add_zero'] at ki); (try rw [show ((0 : Int)).toNat = 0 from rfl] at kj); (try rw [show 0 * 5 = 0 from rfl] at kj); (try rw [Addr.add_zero'] at kj); (try rw [show ((0 : Int)).toNat = 0 from rfl] at kY); (try rw [show 0 * 5 = 0 from rfl] at kY); (try rw [Addr.add_zero'] at kY); have Fb := ae.mk nF; have D1 := ae.mk mY; clear nF mY; have Dl := ae.mk nE; have GR := ae.mk mQ; clear nE mQ; replace kQ := eq_true kQ; replace kp := eq_true kp; have kL : 0 ≤ (0 : Int) := (by omega); have kO : 0 < (l1.length : Int) := of_decide_eq_true AX; obtain ⟨G7, Er, Gp, D3, GN, rV, kW, kD, kv, kr, kh, nL, nC, nG, nK⟩ := gv lg.out 0 kL kO; cases rV; have DO : (0 < l1.length) = True := eq_true (by omega); (try rw [show ((0 : Int)).toNat = 0 from rfl] at kW); (try rw [show 0 * 5 = 0 from rfl] at kW); (try rw [Addr.add_zero'] at kW); (try rw [show ((0 : Int)).toNat = 0 from rfl] at kD); (try rw [show 0 * 5 = 0 from rfl] at kD); (try rw [Addr.add_zero'] at kD); (try rw [show ((0 : Int)).toNat = 0 from rfl] at kv); (try rw [show 0 * 5 = 0 from rfl] at kv); (try rw [Addr.add_zero'] at kv); (try rw [show ((0 : Int)).toNat = 0 from rfl] at kr); (try rw [show 0 * 5 = 0 from rfl] at kr); (try rw [Addr.add_zero'] at kr); (try rw [show ((0 : Int)).toNat = 0 from rfl] at kh); (try rw [show 0 * 5 = 0 from rfl] at kh); (try rw [Addr.add_zero'] at kh); have Fm := ae.mk nC; have Cw := ae.mk nL; clear nC nL; have EW := ae.mk nK; have Dg := ae.mk nG; clear nK nG; replace kL := eq_true kL; replace kO := eq_true kO)); try go_wp2_with (first | (go_at_call 59; (with_reducible refine (dh.calls k1 _ _ l2 0 tH _ ?aH ?aG AE.out).mono ?_); (case aH => exact CX gD.out); (case aG => exact lO.out); rintro e w' ⟨rfl, ⟨nd, rfl⟩⟩; (try first | exact ⟨rfl, _, World.drewN_drewN _ _ _⟩ | exact ⟨rfl, _, Eq.trans (World.drewN_drewN _ _ _) (congrArg (World.drewN _) (Nat.add_assoc _ _ _))⟩); have kQ : 0 ≤ (0 : Int) := (by omega); have kp : 0 < (l0.length : Int) := of_decide_eq_true AX; obtain ⟨FV, Ci, Dn, FS, Gw, q5, kV, kA, ki, kj, kY, mY, nF, mQ, nE⟩ := gv dr.out 0 kQ kp; cases q5; have EY : (0 < l0.length) = True := eq_true (by omega); (try rw [show ((0 : Int)).toNat = 0 from rfl] at kV); (try rw [show 0 * 5 = 0 from rfl] at kV); (try rw [Addr.add_zero'] at kV); (try rw [show ((0 : Int)).toNat = 0 from rfl] at kA); (try rw [show 0 * 5 = 0 from rfl] at kA); (try rw [Addr.add_zero'] at kA); (try rw [show ((0 : Int)).toNat = 0 from rfl] at ki); (try rw [show 0 * 5 = 0 from rfl] at ki); (try rw [Addr.add_zero'] at ki); (try rw [show ((0 : Int)).toNat = 0 from rfl] at kj); (try rw [show 0 * 5 = 0 from rfl] at kj); (try rw [Addr.add_zero'] at kj); (try rw [show ((0 : Int)).toNat = 0 from rfl] at kY); (try rw [show 0 * 5 = 0 from rfl] at kY); (try rw [Addr.add_zero'] at kY); have Fb := ae.mk nF; have D1 := ae.mk mY; clear nF mY; have Dl := ae.mk nE; have GR := ae.mk mQ; clear nE mQ; replace kQ := eq_true kQ; replace kp := eq_true kp; have kL : 0 ≤ (0 : Int) := (by omega); have kO : 0 < (l1.length : Int) := of_decide_eq_true AX; obtain ⟨G7, Er, Gp, D3, GN, rV, kW, kD, kv, kr, kh, nL, nC, nG, nK⟩ := gv lg.out 0 kL kO; cases rV; have DO : (0 < l1.length) = True := eq_true (by omega); (try rw [show ((0 : Int)).toNat = 0 from rfl] at kW); (try rw [show 0 * 5 = 0 from rfl] at kW); (try rw [Addr.add_zero'] at kW); (try rw [show ((0 : Int)).toNat = 0 from rfl] at kD); (try rw [show 0 * 5 = 0 from rfl] at kD); (try rw [Addr.add_zero'] at kD); (try rw [show ((0 : Int)).toNat = 0 from rfl] at kv); (try rw [show 0 * 5 = 0 from rfl] at kv); (try rw [Addr.add_zero'] at kv); (try rw [show ((0 : Int)).toNat = 0 from rfl] at kr); (try rw [show 0 * 5 = 0 from rfl] at kr); (try rw [Addr.add_zero'] at kr); (try rw [show ((0 : Int)).toNat = 0 from rfl] at kh); (try rw [show 0 * 5 = 0 from rfl] at kh); (try rw [Addr.add_zero'] at kh); have Fm := ae.mk nC; have Cw := ae.mk nL; clear nC nL; have EW := ae.mk nK; have Dg := ae.mk nG; clear nK nG; replace kL := eq_true kL; replace kO := eq_true kO)))
        go_ret
        exact ⟨SX, by repeat (first | exact bL.refl _ | apply bL.step)⟩
       ·rw [if_neg gQ] at H
        have ui : (((aD l0 0).f1) == ((aD l1 0).f1)) = false := beq_eq_false_iff_ne.mpr gQ
        have Lk : (((aD l0 0).f1) != ((aD l1 0).f1)) = true := bne_iff_ne.mpr gQ
        obtain rfl := Option.some.inj H
        go_wp2_with (first | (go_at_call 59; (with_reducible refine (dh.calls k1 _ _ l2 0 tH _ ?aH ?aG AE.out).mono ?_); (case aH => exact CX gD.out); (case aG => exact lO.out); rintro e w' ⟨rfl, ⟨nd, rfl⟩⟩; (try first | exact ⟨rfl, _, World.drewN_drewN _ _ _⟩ | exact ⟨rfl, _, Eq.trans (World.drewN_drewN _ _ _) (congrArg (World.drewN _) (Nat.add_assoc _ _ _))⟩); have kQ : 0 ≤ (0 : Int) := (by omega); have kp : 0 < (l0.length : Int) := of_decide_eq_true AX; obtain ⟨FV, Ci, Dn, FS, Gw, q5, kV, kA, ki, kj, kY, mY, nF, mQ, nE⟩ := gv dr.out 0 kQ kp; cases q5; have EY : (0 < l0.length) = True := eq_true (by omega); (try rw [show ((0 : Int)).toNat = 0 from rfl] at kV); (try rw [show 0 * 5 = 0 from rfl] at kV); (try rw [Addr.add_zero'] at kV); (try rw [show ((0 : Int)).toNat = 0 from rfl] at kA); (try rw [show 0 * 5 = 0 from rfl] at kA); (try rw [Addr.add_zero'] at kA); (try rw [show ((0 : Int)).toNat = 0 from rfl] at ki); (try rw [show 0 * 5 = 0 from rfl] at ki); (try rw [Addr.add_zero'] at ki); (try rw [show ((0 : Int)).toNat = 0 from rfl] at kj); (try rw [show 0 * 5 = 0 from rfl] at kj); (try rw [Addr.add_zero'] at kj); (try rw [show ((0 : Int)).toNat = 0 from rfl] at kY); (try rw [show 0 * 5 = 0 from rfl] at kY); (try rw [Addr.add_zero'] at kY); have Fb := ae.mk nF; have D1 := ae.mk mY; clear nF mY; have Dl := ae.mk nE; have GR := ae.mk mQ; clear nE mQ; replace kQ := eq_true kQ; replace kp := eq_true kp; have kL : 0 ≤ (0 : Int) := (by omega); have kO : 0 < (l1.length : Int) := of_decide_eq_true AX; obtain ⟨G7, Er, Gp, D3, GN, rV, kW, kD, kv, kr, kh, nL, nC, nG, nK⟩ := gv lg.out 0 kL kO; cases rV; have DO : (0 < l1.length) = True := eq_true (by omega); (try rw [show ((0 : Int)).toNat = 0 from rfl] at kW); (try rw [show 0 * 5 = 0 from rfl] at kW); (try rw [Addr.add_zero'] at kW); (try rw [show ((0 : Int)).toNat = 0 from rfl] at kD); (try rw [show 0 * 5 = 0 from rfl] at kD); (try rw [Addr.add_zero'] at kD); (try rw [show ((0 : Int)).toNat = 0 from rfl] at kv); (try rw [show 0 * 5 = 0 from rfl] at kv); (try rw [Addr.add_zero'] at kv); (try rw [show ((0 : Int)).toNat = 0 from rfl] at kr); (try rw [show 0 * 5 = 0 from rfl] at kr); (try rw [Addr.add_zero'] at kr); (try rw [show ((0 : Int)).toNat = 0 from rfl] at kh); (try rw [show 0 * 5 = 0 from rfl] at kh); (try rw [Addr.add_zero'] at kh); have Fm := ae.mk nC; have Cw := ae.mk nL; clear nC nL; have EW := ae.mk nK; have Dg := ae.mk nG; clear nK nG; replace kL := eq_true kL; replace kO := eq_true kO))
        repeat (go_quiet (first | (go_at_call 59; (with_reducible refine (dh.calls k1 _ _ l2 0 tH _ ?aH ?aG AE.out).mono ?_); (case aH => exact CX gD.out); (case aG => exact lO.out); rintro e w' ⟨rfl, ⟨nd, rfl⟩⟩; (try first | exact ⟨rfl, _, World.drewN_drewN _ _ _⟩ | exact ⟨rfl, _, Eq.trans (World.drewN_drewN _ _ _) (congrArg (World.drewN _) (Nat.add_assoc _ _ _))⟩); have kQ : 0 ≤ (0 : Int) := (by omega); have kp : 0 < (l0.length : Int) := of_decide_eq_true AX; obtain ⟨FV, Ci, Dn, FS, Gw, q5, kV, kA, ki, kj, kY, mY, nF, mQ, nE⟩ := gv dr.out 0 kQ kp; cases q5; have EY : (0 < l0.length) = True := eq_true (by omega); (try rw [show ((0 : Int)).toNat = 0 from rfl] at kV); (try rw [show 0 * 5 = 0 from rfl] at kV); (try rw [Addr.add_zero'] at kV); (try rw [show ((0 : Int)).toNat = 0 from rfl] at kA); (try rw [show 0 * 5 = 0 from rfl] at kA); (try rw [Addr.add_zero'] at kA); (try rw [show ((0 : Int)).toNat = 0 from rfl] at ki); (try rw [show 0 * 5 = 0 from rfl] at ki); (try rw [Addr.add_zero'] at ki); (try rw [show ((0 : Int)).toNat = 0 from rfl] at kj); (try rw [show 0 * 5 = 0 from rfl] at kj); (try rw [Addr.add_zero'] at kj); (try rw [show ((0 : Int)).toNat = 0 from rfl] at kY); (try rw [show 0 * 5 = 0 from rfl] at kY); (try rw [Addr.add_zero'] at kY); have Fb := ae.mk nF; have D1 := ae.mk mY; clear nF mY; have Dl := ae.mk nE; have GR := ae.mk mQ; clear nE mQ; replace kQ := eq_true kQ; replace kp := eq_true kp; have kL : 0 ≤ (0 : Int) := (by omega); have kO : 0 < (l1.length : Int) := of_decide_eq_true AX; obtain ⟨G7, Er, Gp, D3, GN, rV, kW, kD, kv, kr, kh, nL, nC, nG, nK⟩ := gv lg.out 0 kL kO; cases rV; have DO : (0 < l1.length) = True := eq_true (by omega); (try rw [show ((0 : Int)).toNat = 0 from rfl] at kW); (try rw [show 0 * 5 = 0 from rfl] at kW); (try rw [Addr.add_zero'] at kW); (try rw [show ((0 : Int)).toNat = 0 from rfl] at kD); (try rw [show 0 * 5 = 0 from rfl] at kD); (try rw [Addr.add_zero'] at kD); (try rw [show ((0 : Int)).toNat = 0 from rfl] at kv); (try rw [show 0 * 5 = 0 from rfl] at kv); (try rw [Addr.add_zero'] at kv); (try rw [show ((0 : Int)).toNat = 0 from rfl] at kr); (try rw [show 0 * 5 = 0 from rfl] at kr); (try rw [Addr.add_zero'] at kr); (try rw [show ((0 : Int)).toNat = 0 from rfl] at kh); (try rw [show 0 * 5 = 0 from rfl] at kh); (try rw [Addr.add_zero'] at kh); have Fm := ae.mk nC; have Cw := ae.mk nL; clear nC nL; have EW := ae.mk nK; have Dg := ae.mk nG; clear nK nG; replace kL := eq_true kL; replace kO := eq_true kO)); try go_wp2_with (first | (go_at_call 59; (with_reducible refine (dh.calls k1 _ _ l2 0 tH _ ?aH ?aG AE.out).mono ?_); (case aH => exact CX gD.out); (case aG => exact lO.out); rintro e w' ⟨rfl, ⟨nd, rfl⟩⟩; (try first | exact ⟨rfl, _, World.drewN_drewN _ _ _⟩ | exact ⟨rfl, _, Eq.trans (World.drewN_drewN _ _ _) (congrArg (World.drewN _) (Nat.add_assoc _ _ _))⟩); have kQ : 0 ≤ (0 : Int) := (by omega); have kp : 0 < (l0.length : Int) := of_decide_eq_true AX; obtain ⟨FV, Ci, Dn, FS, Gw, q5, kV, kA, ki, kj, kY, mY, nF, mQ, nE⟩ := gv dr.out 0 kQ kp; cases q5; have EY : (0 < l0.length) = True := eq_true (by omega); (try rw [show ((0 : Int)).toNat = 0 from rfl] at kV); (try rw [show 0 * 5 = 0 from rfl] at kV); (try rw [Addr.add_zero'] at kV); (try rw [show ((0 : Int)).toNat = 0 from rfl] at kA); (try rw [show 0 * 5 = 0 from rfl] at kA); (try rw [Addr.add_zero'] at kA); (try rw [show ((0 : Int)).toNat = 0 from rfl] at ki); (try rw [show 0 * 5 = 0 from rfl] at ki); (try rw [Addr.add_zero'] at ki); (try rw [show ((0 : Int)).toNat = 0 from rfl] at kj); (try rw [show 0 * 5 = 0 from rfl] at kj); (try rw [Addr.add_zero'] at kj); (try rw [show ((0 : Int)).toNat = 0 from rfl] at kY); (try rw [show 0 * 5 = 0 from rfl] at kY); (try rw [Addr.add_zero'] at kY); have Fb := ae.mk nF; have D1 := ae.mk mY; clear nF mY; have Dl := ae.mk nE; have GR := ae.mk mQ; clear nE mQ; replace kQ := eq_true kQ; replace kp := eq_true kp; have kL : 0 ≤ (0 : Int) := (by omega); have kO : 0 < (l1.length : Int) := of_decide_eq_true AX; obtain ⟨G7, Er, Gp, D3, GN, rV, kW, kD, kv, kr, kh, nL, nC, nG, nK⟩ := gv lg.out 0 kL kO; cases rV; have DO : (0 < l1.length) = True := eq_true (by omega); (try rw [show ((0 : Int)).toNat = 0 from rfl] at kW); (try rw [show 0 * 5 = 0 from rfl] at kW); (try rw [Addr.add_zero'] at kW); (try rw [show ((0 : Int)).toNat = 0 from rfl] at kD); (try rw [show 0 * 5 = 0 from rfl] at kD); (try rw [Addr.add_zero'] at kD); (try rw [show ((0 : Int)).toNat = 0 from rfl] at kv); (try rw [show 0 * 5 = 0 from rfl] at kv); (try rw [Addr.add_zero'] at kv); (try rw [show ((0 : Int)).toNat = 0 from rfl] at kr); (try rw [show 0 * 5 = 0 from rfl] at kr); (try rw [Addr.add_zero'] at kr); (try rw [show ((0 : Int)).toNat = 0 from rfl] at kh); (try rw [show 0 * 5 = 0 from rfl] at kh); (try rw [Addr.add_zero'] at kh); have Fm := ae.mk nC; have Cw := ae.mk nL; clear nC nL; have EW := ae.mk nK; have Dg := ae.mk nG; clear nK nG; replace kL := eq_true kL; replace kO := eq_true kO)))
        go_ret
        exact ⟨SX, by repeat (first | exact bL.refl _ | apply bL.step)⟩
      ·rw [if_neg kS] at H
       exact absurd H (by simp)
     ·rw [if_neg nD] at H
      exact absurd H (by simp)
 ·rw [if_neg c5] at H
  have jn : ((l2.length : Int) == (l1.length : Int)) = false := beq_eq_false_iff_ne.mpr c5
  have qi : ((l2.length : Int) != (l1.length : Int)) = true := bne_iff_ne.mpr c5
  have B4 : (l2.length == l1.length) = false := by first | simpa using c5 | (simp at c5 ⊢; omega)
  obtain rfl := Option.some.inj H
  go_enter Try.func58, Try.ntmps58
  go_wp2
  repeat (go_quiet (fail); try go_wp2)
  go_ret
  exact ⟨SX, by repeat (first | exact bL.refl _ | apply bL.step)⟩
end Go.Proofs.Ytcfjdehpbckomaa.Q
