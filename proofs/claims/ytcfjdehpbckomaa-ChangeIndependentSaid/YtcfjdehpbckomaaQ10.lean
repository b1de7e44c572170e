
import Derived.Test.YtcfjdehpbckomaaQ0
namespace Go.Proofs.Ytcfjdehpbckomaa.Q
open Go.RowKit Go.Proofs.YtcfjdehpbckomaaW.dS Go.Proofs.YtcfjdehpbckomaaW.jm Go.Proofs.YtcfjdehpbckomaaW.mm
attribute [local go_sem] mU na nt mX m6 nu mP mW
set_option linter.unusedVariables false
set_option linter.unusedSimpArgs false
/-! ### treemergeref31_parent: function 34 -/
def r_.f (l0 : List (bC)) (l1 : List Int) (a2 : Int) : Option (Int) := if 0 ≤ a2 then (if a2 < (l0.length : Int) then (if ((aD l0 a2).f0) < 0 then (some (-1)) else (if 0 ≤ ((aD l0 a2).f0) then (if ((aD l0 a2).f0) < (l1.length : Int) then (some (rd l1 ((aD l0 a2).f0))) else (none)) else (none))) else (none)) else (none)
set_option maxHeartbeats 8000000 in
set_option maxRecDepth 100000 in
theorem r_.calls (A0 : Option Addr) (c0 : Nat) (l0 : List (bC)) (A1 : Option Addr) (c1 : Nat) (l1 : List Int) (a2 : Int) (r : Int) (w : World) (hr0 : Kd.C fc w A0 l0.length l0) (hc0 : l0.length ≤ c0) (hr1 : Kd.C (Kd.int .i64) w A1 l1.length l1) (hc1 : l1.length ≤ c1) (h : r_.f l0 l1 a2 = some r) :
  Calls Try.prog 34 #[.slice A0 l0.length c0, .slice A1 l1.length c1, .int .i64 a2] w fun e w' => e = .returned (.int .i64 r) ∧ bL w w' := by
 have dr := ae.mk hr0
 have qg := ae.mk hc0
 clear hr0 hc0
 have lg := ae.mk hr1
 have sH := ae.mk hc1
 clear hr1 hc1
 have H : (if 0 ≤ a2 then (if a2 < (l0.length : Int) then (if ((aD l0 a2).f0) < 0 then (some (-1)) else (if 0 ≤ ((aD l0 a2).f0) then (if ((aD l0 a2).f0) < (l1.length : Int) then (some (rd l1 ((aD l0 a2).f0))) else (none)) else (none))) else (none)) else (none)) = some r := h
 clear h
 by_cases c4 : 0 ≤ a2
 ·rw [if_pos c4] at H
  have nN : decide (0 ≤ a2) = true := decide_eq_true c4
  clear c4
  by_cases c5 : a2 < (l0.length : Int)
  ·rw [if_pos c5] at H
   have jn : decide (a2 < (l0.length : Int)) = true := decide_eq_true c5
   clear c5
   by_cases c6 : ((aD l0 a2).f0) < 0
   ·rw [if_pos c6] at H
    have gJ : decide (((aD l0 a2).f0) < 0) = true := decide_eq_true c6
    clear c6
    obtain rfl := Option.some.inj H
    have wy : 0 ≤ (a2 : Int) := of_decide_eq_true AX
    have yv : a2 < (l0.length : Int) := of_decide_eq_true AX
    obtain ⟨U', aeV, acP, Z5, ae7, e308, ZQ, aj2, aaO, YS, XH, GW, D6, Es, CY⟩ := gv dr.out a2 wy yv
    cases e308
    have ahU := ae.mk D6
    have ai7 := ae.mk GW
    clear D6 GW
    have ajZ := ae.mk CY
    have aiq := ae.mk Es
    clear CY Es
    replace wy := eq_true wy
    replace yv := eq_true yv
    go_enter Try.func34, Try.ntmps34
    go_wp2
    go_ret
    exact ⟨SX, by repeat (first | exact bL.refl _ | apply bL.step)⟩
   ·rw [if_neg c6] at H
    have gJ : decide (((aD l0 a2).f0) < 0) = false := decide_eq_false c6
    clear c6
    by_cases c7 : 0 ≤ ((aD l0 a2).f0)
    ·rw [if_pos c7] at H
     have q' : decide (0 ≤ ((aD l0 a2).f0)) = true := decide_eq_true c7
     clear c7
     by_cases c8 : ((aD l0 a2).f0) < (l1.length : Int)
     ·rw [if_pos c8] at H
      have kc : decide (((aD l0 a2).f0) < (l1.length : Int)) = true := decide_eq_true c8
      clear c8
      obtain rfl := Option.some.inj H
      have wy : 0 ≤ (a2 : Int) := of_decide_eq_true AX
      have yv : a2 < (l0.length : Int) := of_decide_eq_true AX
      obtain ⟨U', aeV, acP, Z5, ae7, e308, ZQ, aj2, aaO, YS, XH, GW, D6, Es, CY⟩ := gv dr.out a2 wy yv
      cases e308
      have ahU := ae.mk D6
      have ai7 := ae.mk GW
      clear D6 GW
      have ajZ := ae.mk CY
      have aiq := ae.mk Es
      clear CY Es
      replace wy := eq_true wy
      replace yv := eq_true yv
      have MY : 0 ≤ (a2 : Int) := of_decide_eq_true AX
      have Po : a2 < (l0.length : Int) := of_decide_eq_true AX
      obtain ⟨afC, ath, asW, avM, auk, e309, axt, ak5, anI, ab2, afD, Ty, YY, VF, Yl⟩ := gv dr.out a2 MY Po
      obtain rfl : U' = afC := (by injection e309)
      have amt := ae.mk YY
      have auN := ae.mk Ty
      clear YY Ty
      have aui := ae.mk Yl
      have aoV := ae.mk VF
      clear Yl VF
      replace MY := eq_true MY
      replace Po := eq_true Po
      have zg := Option.some.inj (YS.symm.trans ab2)
      injection zg with zg Ps Lr
      subst zg
      subst Lr
      clear Ps
      have zg := Option.some.inj (XH.symm.trans afD)
      injection zg with zg Ps Lr
      subst zg
      subst Lr
      clear Ps
      have MH : 0 ≤ (((aD l0 a2).f0) : Int) := of_decide_eq_true AX
      have Sh : ((aD l0 a2).f0) < (l1.length : Int) := of_decide_eq_true AX
      obtain ⟨apn, e310, amO⟩ := Kd.dB lg.out ((aD l0 a2).f0) MH Sh
      cases e310
      replace MH := eq_true MH
      replace Sh := eq_true Sh
      go_enter Try.func34, Try.ntmps34
      go_wp2
      go_ret
      exact ⟨SX, by repeat (first | exact bL.refl _ | apply bL.step)⟩
     ·rw [if_neg c8] at H
      exact absurd H (by simp)
    ·rw [if_neg c7] at H
     exact absurd H (by simp)
  ·rw [if_neg c5] at H
   exact absurd H (by simp)
 ·rw [if_neg c4] at H
  exact absurd H (by simp)
def iE.l0 : Nat → List ByteArray → List ByteArray → Int → Option (Bool)
 | 0, _, _, _ => none
 | k + 1, x0, x1, x5 => if x5 < (x0.length : Int) then (if 0 ≤ x5 then (if x5 < (x1.length : Int) then (if (eY ByteArray.empty x0 x5).toList = (eY ByteArray.empty x1 x5).toList then (iE.l0 k x0 x1 (wrap64 (x5 + 1))) else (some false)) else (none)) else (none)) else (some true)
def iE.f (k : Nat) (l0 : List ByteArray) (l1 : List ByteArray) : Option (Bool) := if (l0.length : Int) = (l1.length : Int) then (iE.l0 k l0 l1 0) else (some false)
theorem iE.fp : ∀ k, (∀ y0 y1 y2, aI (iE.l0 k y0 y1 y2) (iE.l0 (k + 1) y0 y1 y2))
 | 0 => fun _ _ _ r h => by simp [iE.l0] at h
 | k + 1 => by
  have dq := iE.fp k
  ·intro y0 y1 y2
   unfold iE.l0
   repeat' first
   | (with_reducible exact dq _ _ _)
   | (with_reducible exact aI.refl _)
   | (with_reducible exact aI.none _)
   | (with_reducible refine aI.ite ?_ ?_)
   | (with_reducible refine aI.bind ?_ (fun _ => ?_))
theorem iE.mono : ∀ a0 a1 k, aI (iE.f k a0 a1) (iE.f (k + 1) a0 a1) := by
 intro a0 a1 k
 have dq := iE.fp k
 unfold iE.f
 repeat' first
   | (with_reducible exact dq _ _ _)
   | (with_reducible exact aI.refl _)
   | (with_reducible exact aI.none _)
   | (with_reducible refine aI.ite ?_ ?_)
   | (with_reducible refine aI.bind ?_ (fun _ => ?_))
set_option maxHeartbeats 8000000 in
set_option maxRecDepth 100000 in
theorem iE.calls (k : Nat) (A0 : Option Addr) (c0 : Nat) (l0 : List ByteArray) (A1 : Option Addr) (c1 : Nat) (l1 : List ByteArray) (r : Bool) (w : World) (hr0 : Kd.C Kd.string w A0 l0.length l0) (hc0 : l0.length ≤ c0) (hr1 : Kd.C Kd.string w A1 l1.length l1) (hc1 : l1.length ≤ c1) (h : iE.f k l0 l1 = some r) :
  Calls Try.prog 35 #[.slice A0 l0.length c0, .slice A1 l1.length c1] w fun e w' => e = .returned (.bool r) ∧ bL w w' := by
 have dr := ae.mk hr0
 have qg := ae.mk hc0
 clear hr0 hc0
 have lg := ae.mk hr1
 have sH := ae.mk hc1
 clear hr1 hc1
 have H : (if (l0.length : Int) = (l1.length : Int) then (iE.l0 k l0 l1 0) else (some false)) = some r := h
 clear h
 by_cases c3 : (l0.length : Int) = (l1.length : Int)
 ·rw [if_pos c3] at H
  have kC : ((l0.length : Int) == (l1.length : Int)) = true := beq_iff_eq.mpr c3
  have p8 : ((l0.length : Int) != (l1.length : Int)) = false := bne_eq_false_iff_eq.mpr c3
  have vB : (l0.length == l1.length) = true := by first | simpa using c3 | (simp at c3 ⊢; omega)
  clear c3
  have H' := ae.mk H
  clear H
  go_enter Try.func35, Try.ntmps35
  go_wp2
  repeat (go_quiet (fail); try go_wp2)
  go_loopg [5] k (fun kq v5 w' => ∃ (a_ : Int), v5 = .int .i64 a_ ∧ ae (iE.l0 kq l0 l1 a_ = some r) ∧ ae (kq ≤ k) ∧ bL w w')
  case atStart => exact ⟨(0), SX, H', ⟨Nat.le_refl _⟩, by repeat (first | exact bL.refl _ | apply bL.step)⟩
  case round =>
   clear H'
   try clear c1
   try clear p2
   try clear c3
   try clear kC
   try clear p8
   try clear vB
   obtain ⟨a_, rfl, HA, d1, ⟨m1, rfl⟩⟩ := hrel
   cases gk with
   | zero => exact absurd HA.out (by simp [iE.l0])
   | succ k1 =>
    have H := HA.out
    clear HA
    simp only [iE.l0] at H
    by_cases c4 : a_ < (l0.length : Int)
    ·rw [if_pos c4] at H
     have nN : decide (a_ < (l0.length : Int)) = true := decide_eq_true c4
     clear c4
     by_cases c5 : 0 ≤ a_
     ·rw [if_pos c5] at H
      have jn : decide (0 ≤ a_) = true := decide_eq_true c5
      clear c5
      by_cases c6 : a_ < (l1.length : Int)
      ·rw [if_pos c6] at H
       have gJ : decide (a_ < (l1.length : Int)) = true := decide_eq_true c6
       clear c6
       by_cases c7 : (eY ByteArray.empty l0 a_).toList = (eY ByteArray.empty l1 a_).toList
       ·rw [if_pos c7] at H
        have q' : ((eY ByteArray.empty l0 a_).toList == (eY ByteArray.empty l1 a_).toList) = true := beq_iff_eq.mpr c7
        have Ms : ((eY ByteArray.empty l0 a_).toList != (eY ByteArray.empty l1 a_).toList) = false := bne_eq_false_iff_eq.mpr c7
        clear c7
        have H' := ae.mk H
        clear H
        have yQ : 0 ≤ (a_ : Int) := of_decide_eq_true AX
        have yr : a_ < (l0.length : Int) := of_decide_eq_true AX
        obtain ⟨ah0, RO, aaQ⟩ := Kd.rh dr.out a_ yQ yr
        cases RO
        replace yQ := eq_true yQ
        replace yr := eq_true yr
        have wT : 0 ≤ (a_ : Int) := of_decide_eq_true AX
        have xj : a_ < (l1.length : Int) := of_decide_eq_true AX
        obtain ⟨Zz, Oz, abK⟩ := Kd.rh lg.out a_ wT xj
        cases Oz
        replace wT := eq_true wT
        replace xj := eq_true xj
        go_wp2
        repeat (go_quiet (fail); try go_wp2)
        go_roundg k1
        case measure => have := d1.out; omega
        case rel => exact ⟨(wrap64 (a_ + 1)), SX, H', ⟨by have := d1.out; omega⟩, by repeat (first | exact bL.refl _ | apply bL.step)⟩
       ·rw [if_neg c7] at H
        have q' : ((eY ByteArray.empty l0 a_).toList == (eY ByteArray.empty l1 a_).toList) = false := beq_eq_false_iff_ne.mpr c7
        have Ms : ((eY ByteArray.empty l0 a_).toList != (eY ByteArray.empty l1 a_).toList) = true := bne_iff_ne.mpr c7
        obtain rfl := Option.some.inj H
        have yQ : 0 ≤ (a_ : Int) := of_decide_eq_true AX
        have yr : a_ < (l0.length : Int) := of_decide_eq_true AX
        obtain ⟨ah0, RO, aaQ⟩ := Kd.rh dr.out a_ yQ yr
        cases RO
        replace yQ := eq_true yQ
        replace yr := eq_true yr
        have wT : 0 ≤ (a_ : Int) := of_decide_eq_true AX
        have xj : a_ < (l1.length : Int) := of_decide_eq_true AX
        obtain ⟨Zz, Oz, abK⟩ := Kd.rh lg.out a_ wT xj
        cases Oz
        replace wT := eq_true wT
        replace xj := eq_true xj
        go_wp2
        repeat (go_quiet (fail); try go_wp2)
        go_ret
        exact ⟨SX, by repeat (first | exact bL.refl _ | apply bL.step)⟩
      ·rw [if_neg c6] at H
       exact absurd H (by simp)
     ·rw [if_neg c5] at H
      exact absurd H (by simp)
    ·rw [if_neg c4] at H
     have nN : decide (a_ < (l0.length : Int)) = false := decide_eq_false c4
     clear c4
     obtain rfl := Option.some.inj H
     go_wp2
     repeat (go_quiet (fail); try go_wp2)
     go_ret
     exact ⟨SX, by repeat (first | exact bL.refl _ | apply bL.step)⟩
 ·rw [if_neg c3] at H
  have kC : ((l0.length : Int) == (l1.length : Int)) = false := beq_eq_false_iff_ne.mpr c3
  have p8 : ((l0.length : Int) != (l1.length : Int)) = true := bne_iff_ne.mpr c3
  have vB : (l0.length == l1.length) = false := by first | simpa using c3 | (simp at c3 ⊢; omega)
  obtain rfl := Option.some.inj H
  go_enter Try.func35, Try.ntmps35
  go_wp2
  repeat (go_quiet (fail); try go_wp2)
  go_ret
  exact ⟨SX, by repeat (first | exact bL.refl _ | apply bL.step)⟩
def ij.l0 : Nat → List Int → List Int → Int → Int → Int → ByteArray → List ByteArray → List Int → Int → Int → ByteArray → List ByteArray → List Int → Option (Bool)
 | 0, _, _, _, _, _, _, _, _, _, _, _, _, _ => none
 | k + 1, x2, x3, x9, adx, acH, ajB, akb, GM, ahT, aiv, afj, agq, EE => if x9 < (GM.length : Int) then (if 0 ≤ x9 then (if 0 ≤ (rd GM x9) then (if (rd GM x9) < (x2.length : Int) then (if x9 < (EE.length : Int) then (if 0 ≤ (rd EE x9) then (if (rd EE x9) < (x3.length : Int) then (if (rd x2 (rd GM x9)) = (rd x3 (rd EE x9)) then (ij.l0 k x2 x3 (wrap64 (x9 + 1)) adx acH ajB akb GM ahT aiv afj agq EE) else (some false)) else (none)) else (none)) else (none)) else (none)) else (none)) else (none)) else (some true)
def ij.f (k : Nat) (aE : Int) (aA : Int) (p7 : ByteArray) (au : List ByteArray) (fi : List Int) (aK : Int) (aM : Int) (pU : ByteArray) (bR : List ByteArray) (fB : List Int) (l2 : List Int) (l3 : List Int) : Option (Bool) := if (fi.length : Int) = (fB.length : Int) then (ij.l0 k l2 l3 0 aE aA p7 au fi aK aM pU bR fB) else (some false)
theorem ij.fp : ∀ k, (∀ y0 y1 y2 y3 y4 y5 y6 y7 y8 y9 NU LU PI, aI (ij.l0 k y0 y1 y2 y3 y4 y5 y6 y7 y8 y9 NU LU PI) (ij.l0 (k + 1) y0 y1 y2 y3 y4 y5 y6 y7 y8 y9 NU LU PI))
 | 0 => fun _ _ _ _ _ _ _ _ _ _ _ _ _ r h => by simp [ij.l0] at h
 | k + 1 => by
  have dq := ij.fp k
  ·intro y0 y1 y2 y3 y4 y5 y6 y7 y8 y9 NU LU PI
   unfold ij.l0
   repeat' first
   | (with_reducible exact dq _ _ _ _ _ _ _ _ _ _ _ _ _)
   | (with_reducible exact aI.refl _)
   | (with_reducible exact aI.none _)
   | (with_reducible refine aI.ite ?_ ?_)
   | (with_reducible refine aI.bind ?_ (fun _ => ?_))
theorem ij.mono : ∀ a0 a1 a2 a3 a4 a5 a6 a7 a8 a9 mq mj k, aI (ij.f k a0 a1 a2 a3 a4 a5 a6 a7 a8 a9 mq mj) (ij.f (k + 1) a0 a1 a2 a3 a4 a5 a6 a7 a8 a9 mq mj) := by
 intro a0 a1 a2 a3 a4 a5 a6 a7 a8 a9 mq mj k
 have dq := ij.fp k
 unfold ij.f
 repeat' first
   | (with_reducible exact dq _ _ _ _ _ _ _ _ _ _ _ _ _)
   | (with_reducible exact aI.refl _)
   | (with_reducible exact aI.none _)
   | (with_reducible refine aI.ite ?_ ?_)
   | (with_reducible refine aI.bind ?_ (fun _ => ?_))
set_option maxHeartbeats 8000000 in
set_option maxRecDepth 100000 in
theorem ij.calls (k : Nat) (aE : Int) (aA : Int) (p7 : ByteArray) (br : Option Addr) (bq : Nat) (au : List ByteArray) (tx : Option Addr) (tT : Nat) (fi : List Int) (aK : Int) (aM : Int) (pU : ByteArray) (eG : Option Addr) (eD : Nat) (bR : List ByteArray) (tu : Option Addr) (t8 : Nat) (fB : List Int) (A2 : Option Addr) (c2 : Nat) (l2 : List Int) (A3 : Option Addr) (c3 : Nat) (l3 : List Int) (r : Bool) (w : World) (fC : Kd.C Kd.string w br au.length au) (fL : au.length ≤ bq) (YH : Kd.C (Kd.int .i64) w tx fi.length fi) (YC : fi.length ≤ tT) (mJ : Kd.C Kd.string w eG bR.length bR) (mK : bR.length ≤ eD) (XY : Kd.C (Kd.int .i64) w tu fB.length fB) (X_ : fB.length ≤ t8) (hr2 : Kd.C (Kd.int .i64) w A2 l2.length l2) (hc2 : l2.length ≤ c2) (hr3 : Kd.C (Kd.int .i64) w A3 l3.length l3) (hc3 : l3.length ≤ c3) (h : ij.f k aE aA p7 au fi aK aM pU bR fB l2 l3 = some r) :
  Calls Try.prog 36 #[.agg #[.int .i64 aE, .int .i64 aA, .string p7, .slice br au.length bq, .slice tx fi.length tT], .agg #[.int .i64 aK, .int .i64 aM, .string pU, .slice eG bR.length eD, .slice tu fB.length t8], .slice A2 l2.length c2, .slice A3 l3.length c3] w fun e w' => e = .returned (.bool r) ∧ Below w.heap.size w w' := by
 have K9 := Try.underlying70
 have fm := ae.mk fC
 have f_ := ae.mk fL
 clear fC fL
 have S6 := ae.mk YH
 have asz := ae.mk YC
 clear YH YC
 have si := ae.mk mJ
 have sU := ae.mk mK
 clear mJ mK
 have Yf := ae.mk XY
 have ayc := ae.mk X_
 clear XY X_
 have gD := ae.mk hr2
 have lO := ae.mk hc2
 clear hr2 hc2
 have qr := ae.mk hr3
 have rG := ae.mk hc3
 clear hr3 hc3
 have HB := ae.mk (Below.refl w.heap.size w)
 have H : (if (fi.length : Int) = (fB.length : Int) then (ij.l0 k l2 l3 0 aE aA p7 au fi aK aM pU bR fB) else (some false)) = some r := h
 clear h
 by_cases c5 : (fi.length : Int) = (fB.length : Int)
 ·rw [if_pos c5] at H
  have jn : ((fi.length : Int) == (fB.length : Int)) = true := beq_iff_eq.mpr c5
  have qi : ((fi.length : Int) != (fB.length : Int)) = false := bne_eq_false_iff_eq.mpr c5
  have B4 : (fi.length == fB.length) = true := by first | simpa using c5 | (simp at c5 ⊢; omega)
  clear c5
  have H' := ae.mk H
  clear H
  go_enter Try.func36, Try.ntmps36
  go_wp2_with (first | ((with_reducible refine bz (N := 4) rfl ?_); refine bT ?hg (N := 4) ?hd (cs := #[.int .i64 aE, .int .i64 aA, .string p7, .slice br au.length bq, .slice tx fi.length tT]) (t := 70) ?hr ?_; (case hd => rfl); (case hg => rfl); (case hr => first | (go_simp; done) | (go_simp; rfl) | (obtain ⟨_, _, rfl⟩ := Kd.bm (ae.out (by assumption : ae (Kd.R _ _ _ _ _ _ _))); go_simp; done)); intro Bw hg w6 av hb; have af := bn HB hb; have ag := ae.mk (av); have ah := bK HB hg; have am := bK HB hg; clear HB; have HB := af; have e7 := ag; have Du := ah; have sx := am; clear af ag ah am; clear hb av hg) | ((with_reducible refine bz (N := 5) rfl ?_); refine bT ?hg (N := 5) ?hd (cs := #[.int .i64 aK, .int .i64 aM, .string pU, .slice eG bR.length eD, .slice tu fB.length t8]) (t := 70) ?hr ?_; (case hd => rfl); (case hg => rfl); (case hr => first | (go_simp; done) | (go_simp; rfl) | (obtain ⟨_, _, rfl⟩ := Kd.bm (ae.out (by assumption : ae (Kd.R _ _ _ _ _ _ _))); go_simp; done)); intro BD hg w7 av hb; have af := bw e7 hb; have ag := bn HB hb; have ah := ae.mk (av); have am := bK HB hg; have aJ := bK HB hg; have aW := iP e7 hg; have be := iL e7 hg; clear e7; clear HB; have e7 := af; have HB := ag; have n5 := ah; have CM := am; have su := aJ; have pw := aW; have pc := be; clear af ag ah am aJ aW be; clear hb av hg; have QY := pw.out; have QA := pc.out; obtain ⟨vV, vl, xc, xU, Ll, uI, vW, wD, zF, Ow⟩ := ni e7; obtain ⟨E9, F7, Hz, Jh, Hw, Dq, E4, KV, Kx, KQ⟩ := ni n5))
  repeat (go_quiet (first | ((with_reducible refine bz (N := 4) rfl ?_); refine bT ?hg (N := 4) ?hd (cs := #[.int .i64 aE, .int .i64 aA, .string p7, .slice br au.length bq, .slice tx fi.length tT]) (t := 70) ?hr ?_; (case hd => rfl); (case hg => rfl); (case hr => first | (go_simp; done) | (go_simp; rfl) | (obtain ⟨_, _, rfl⟩ := Kd.bm (ae.out (by assumption : ae (Kd.R _ _ _ _ _ _ _))); go_simp; done)); intro Bw hg w6 av hb; have af := bn HB hb; have ag := ae.mk (av); have ah := bK HB hg; have am := bK HB hg; clear HB; have HB := af; have e7 := ag; have Du := ah; have sx := am; clear af ag ah am; clear hb av hg) | ((with_reducible refine bz (N := 5) rfl ?_); refine bT ?hg (N := 5) ?hd (cs := #[.int .i64 aK, .int .i64 aM, .string pU, .slice eG bR.length eD, .slice tu fB.length t8]) (t := 70) ?hr ?_; (case hd => rfl); (case hg => rfl); (case hr => first | (go_simp; done) | (go_simp; rfl) | (obtain ⟨_, _, rfl⟩ := Kd.bm (ae.out (by assumption : ae (Kd.R _ _ _ _ _ _ _))); go_simp; done)); intro BD hg w7 av hb; have af := bw e7 hb; have ag := bn HB hb; have ah := ae.mk (av); have am := bK HB hg; have aJ := bK HB hg; have aW := iP e7 hg; have be := iL e7 hg; clear e7; clear HB; have e7 := af; have HB := ag; have n5 := ah; have CM := am; have su := aJ; have pw := aW; have pc := be; clear af ag ah am aJ aW be; clear hb av hg; have QY := pw.out; have QA := pc.out; obtain ⟨vV, vl, xc, xU, Ll, uI, vW, wD, zF, Ow⟩ := ni e7; obtain ⟨E9, F7, Hz, Jh, Hw, Dq, E4, KV, Kx, KQ⟩ := ni n5)); try go_wp2_with (first | ((with_reducible refine bz (N := 4) rfl ?_); refine bT ?hg (N := 4) ?hd (cs := #[.int .i64 aE, .int .i64 aA, .string p7, .slice br au.length bq, .slice tx fi.length tT]) (t := 70) ?hr ?_; (case hd => rfl); (case hg => rfl); (case hr => first | (go_simp; done) | (go_simp; rfl) | (obtain ⟨_, _, rfl⟩ := Kd.bm (ae.out (by assumption : ae (Kd.R _ _ _ _ _ _ _))); go_simp; done)); intro Bw hg w6 av hb; have af := bn HB hb; have ag := ae.mk (av); have ah := bK HB hg; have am := bK HB hg; clear HB; have HB := af; have e7 := ag; have Du := ah; have sx := am; clear af ag ah am; clear hb av hg) | ((with_reducible refine bz (N := 5) rfl ?_); refine bT ?hg (N := 5) ?hd (cs := #[.int .i64 aK, .int .i64 aM, .string pU, .slice eG bR.length eD, .slice tu fB.length t8]) (t := 70) ?hr ?_; (case hd => rfl); (case hg => rfl); (case hr => first | (go_simp; done) | (go_simp; rfl) | (obtain ⟨_, _, rfl⟩ := Kd.bm (ae.out (by assumption : ae (Kd.R _ _ _ _ _ _ _))); go_simp; done)); intro BD hg w7 av hb; have af := bw e7 hb; have ag := bn HB hb; have ah := ae.mk (av); have am := bK HB hg; have aJ := bK HB hg; have aW := iP e7 hg; have be := iL e7 hg; clear e7; clear HB; have e7 := af; have HB := ag; have n5 := ah; have CM := am; have su := aJ; have pw := aW; have pc := be; clear af ag ah am aJ aW be; clear hb av hg; have QY := pw.out; have QA := pc.out; obtain ⟨vV, vl, xc, xU, Ll, uI, vW, wD, zF, Ow⟩ := ni e7; obtain ⟨E9, F7, Hz, Jh, Hw, Dq, E4, KV, Kx, KQ⟩ := ni n5)))
  go_loopg [9] k (fun kq v9 w' => ∃ (bj : Int), v9 = .int .i64 bj ∧ ae (ij.l0 kq l2 l3 bj aE aA p7 au fi aK aM pU bR fB = some r) ∧ ae (kq ≤ k) ∧ ae (w'.heap[Bw]? = some (.cells #[.int .i64 aE, .int .i64 aA, .string p7, (.slice br au.length bq), (.slice tx fi.length tT)] 70 (0, 0))) ∧ ae (w'.heap[BD]? = some (.cells #[.int .i64 aK, .int .i64 aM, .string pU, (.slice eG bR.length eD), (.slice tu fB.length t8)] 70 (0, 0))) ∧ ae (Below w.heap.size w w'))
  case atStart => exact ⟨(0), SX, H', ⟨Nat.le_refl _⟩, ⟨by (with_reducible repeat (first | refine bf ?_ _ | refine bd ?_ | refine aU ?_ _)); exact e7.out⟩, ⟨by (with_reducible repeat (first | refine bf ?_ _ | refine bd ?_ | refine aU ?_ _)); exact n5.out⟩, ⟨by repeat (first | (with_reducible first | exact HB.out | apply aQ | apply aY | apply aT | refine ao ?_ sx.out | refine ao ?_ su.out) | exact HB.out)⟩⟩
  case round =>
   clear H'
   try clear c1
   try clear c2
   try clear p2
   try clear c3
   try clear c5
   try clear jn
   try clear qi
   try clear B4
   try clear c8
   try clear E9
   try clear F7
   try clear Hz
   try clear Jh
   try clear Hw
   try clear vV
   try clear vl
   try clear xc
   try clear xU
   try clear Ll
   try clear Dq
   try clear E4
   try clear KV
   try clear Kx
   try clear KQ
   try clear uI
   try clear vW
   try clear wD
   try clear zF
   try clear Ow
   obtain ⟨bj, rfl, HA, d1, e7, n5, HB⟩ := hrel
   cases gk with
   | zero => exact absurd HA.out (by simp [ij.l0])
   | succ k1 =>
    have H := HA.out
    clear HA
    simp only [ij.l0] at H
    by_cases gf : bj < (fi.length : Int)
    ·rw [if_pos gf] at H
     have BW : decide (bj < (fi.length : Int)) = true := decide_eq_true gf
     clear gf
     by_cases ji : 0 ≤ bj
     ·rw [if_pos ji] at H
      have NK : decide (0 ≤ bj) = true := decide_eq_true ji
      clear ji
      by_cases iN : 0 ≤ (rd fi bj)
      ·rw [if_pos iN] at H
       have QI : decide (0 ≤ (rd fi bj)) = true := decide_eq_true iN
       clear iN
       by_cases mO : (rd fi bj) < (l2.length : Int)
       ·rw [if_pos mO] at H
        have ae9 : decide ((rd fi bj) < (l2.length : Int)) = true := decide_eq_true mO
        clear mO
        by_cases kH : bj < (fB.length : Int)
        ·rw [if_pos kH] at H
         have IZ : decide (bj < (fB.length : Int)) = true := decide_eq_true kH
         clear kH
         by_cases en : 0 ≤ (rd fB bj)
         ·rw [if_pos en] at H
          have sy : decide (0 ≤ (rd fB bj)) = true := decide_eq_true en
          clear en
          by_cases ip : (rd fB bj) < (l3.length : Int)
          ·rw [if_pos ip] at H
           have zO : decide ((rd fB bj) < (l3.length : Int)) = true := decide_eq_true ip
           clear ip
           by_cases fY : (rd l2 (rd fi bj)) = (rd l3 (rd fB bj))
           ·rw [if_pos fY] at H
            have CZ : ((rd l2 (rd fi bj)) == (rd l3 (rd fB bj))) = true := beq_iff_eq.mpr fY
            have GP : ((rd l2 (rd fi bj)) != (rd l3 (rd fB bj))) = false := bne_eq_false_iff_eq.mpr fY
            clear fY
            have H' := ae.mk H
            clear H
            have Ts := pw.out
            have Yz := pc.out
            obtain ⟨s_, tc, wJ, yY, aiA, tb, ut, zk, xl, abA⟩ := ni e7
            have zG : 0 ≤ (bj : Int) := of_decide_eq_true AX
            have xq : bj < (fi.length : Int) := of_decide_eq_true AX
            obtain ⟨aiL, Nv, xf⟩ := Kd.dB S6.out bj zG xq
            cases Nv
            replace xf := (HB.out.cell (World.block_lt_of_cell? w _ xf)).trans xf
            replace zG := eq_true zG
            replace xq := eq_true xq
            have yp : 0 ≤ ((rd fi bj) : Int) := of_decide_eq_true AX
            have wY : (rd fi bj) < (l2.length : Int) := of_decide_eq_true AX
            obtain ⟨aje, QN, zp⟩ := Kd.dB gD.out (rd fi bj) yp wY
            cases QN
            replace zp := (HB.out.cell (World.block_lt_of_cell? w _ zp)).trans zp
            replace yp := eq_true yp
            replace wY := eq_true wY
            obtain ⟨Xk, Ti, ajF, agI, Zc, TS, WS, afi, ahd, aj3⟩ := ni n5
            have yU : 0 ≤ (bj : Int) := of_decide_eq_true AX
            have wI : bj < (fB.length : Int) := of_decide_eq_true AX
            obtain ⟨abO, L7, zq⟩ := Kd.dB Yf.out bj yU wI
            cases L7
            replace zq := (HB.out.cell (World.block_lt_of_cell? w _ zq)).trans zq
            replace yU := eq_true yU
            replace wI := eq_true wI
            have yw : 0 ≤ ((rd fB bj) : Int) := of_decide_eq_true AX
            have xF : (rd fB bj) < (l3.length : Int) := of_decide_eq_true AX
            obtain ⟨acM, MV, zI⟩ := Kd.dB qr.out (rd fB bj) yw xF
            cases MV
            replace zI := (HB.out.cell (World.block_lt_of_cell? w _ zI)).trans zI
            replace yw := eq_true yw
            replace xF := eq_true xF
            go_wp2
            repeat (go_quiet (fail); try go_wp2)
            go_roundg k1
            case measure => have := d1.out; omega
            case rel => exact ⟨(wrap64 (bj + 1)), SX, H', ⟨by have := d1.out; omega⟩, ⟨by (with_reducible repeat (first | refine bf ?_ _ | refine bd ?_ | refine aU ?_ _)); exact e7.out⟩, ⟨by (with_reducible repeat (first | refine bf ?_ _ | refine bd ?_ | refine aU ?_ _)); exact n5.out⟩, ⟨by repeat (first | (with_reducible first | exact HB.out | apply aQ | apply aY | apply aT | refine ao ?_ sx.out | refine ao ?_ su.out) | exact HB.out)⟩⟩
           ·rw [if_neg fY] at H
            have CZ : ((rd l2 (rd fi bj)) == (rd l3 (rd fB bj))) = false := beq_eq_false_iff_ne.mpr fY
            have GP : ((rd l2 (rd fi bj)) != (rd l3 (rd fB bj))) = true := bne_iff_ne.mpr fY
            obtain rfl := Option.some.inj H
            have aep := pw.out
            have aiC := pc.out
            obtain ⟨BY, z7, Ba, zS, ab8, z6, BA, Af, AS, ais⟩ := ni e7
            have zG : 0 ≤ (bj : Int) := of_decide_eq_true AX
            have xq : bj < (fi.length : Int) := of_decide_eq_true AX
            obtain ⟨aiL, Nv, xf⟩ := Kd.dB S6.out bj zG xq
            cases Nv
            replace xf := (HB.out.cell (World.block_lt_of_cell? w _ xf)).trans xf
            replace zG := eq_true zG
            replace xq := eq_true xq
            have yp : 0 ≤ ((rd fi bj) : Int) := of_decide_eq_true AX
            have wY : (rd fi bj) < (l2.length : Int) := of_decide_eq_true AX
            obtain ⟨aje, QN, zp⟩ := Kd.dB gD.out (rd fi bj) yp wY
            cases QN
            replace zp := (HB.out.cell (World.block_lt_of_cell? w _ zp)).trans zp
            replace yp := eq_true yp
            replace wY := eq_true wY
            obtain ⟨IT, Je, PZ, Qj, axU, Lc, Jr, RG, RF, avR⟩ := ni n5
            have yU : 0 ≤ (bj : Int) := of_decide_eq_true AX
            have wI : bj < (fB.length : Int) := of_decide_eq_true AX
            obtain ⟨abO, L7, zq⟩ := Kd.dB Yf.out bj yU wI
            cases L7
            replace zq := (HB.out.cell (World.block_lt_of_cell? w _ zq)).trans zq
            replace yU := eq_true yU
            replace wI := eq_true wI
            have yw : 0 ≤ ((rd fB bj) : Int) := of_decide_eq_true AX
            have xF : (rd fB bj) < (l3.length : Int) := of_decide_eq_true AX
            obtain ⟨acM, MV, zI⟩ := Kd.dB qr.out (rd fB bj) yw xF
            cases MV
            replace zI := (HB.out.cell (World.block_lt_of_cell? w _ zI)).trans zI
            replace yw := eq_true yw
            replace xF := eq_true xF
            go_wp2
            repeat (go_quiet (fail); try go_wp2)
            go_ret
            exact ⟨by first | rfl | (simp [bY, bX] <;> rfl) | (simp [*, bY, bX] <;> rfl), by repeat (first | (with_reducible first | exact HB.out | apply aQ | apply aY | apply aT | refine ao ?_ sx.out | refine ao ?_ su.out) | exact HB.out)⟩
          ·rw [if_neg ip] at H
           exact absurd H (by simp)
         ·rw [if_neg en] at H
          exact absurd H (by simp)
        ·rw [if_neg kH] at H
         exact absurd H (by simp)
       ·rw [if_neg mO] at H
        exact absurd H (by simp)
      ·rw [if_neg iN] at H
       exact absurd H (by simp)
     ·rw [if_neg ji] at H
      exact absurd H (by simp)
    ·rw [if_neg gf] at H
     have BW : decide (bj < (fi.length : Int)) = false := decide_eq_false gf
     clear gf
     obtain rfl := Option.some.inj H
     have arZ := pw.out
     have alS := pc.out
     obtain ⟨afK, ahe, al9, avY, atd, ag0, ajI, arC, alr, alF⟩ := ni e7
     go_wp2
     repeat (go_quiet (fail); try go_wp2)
     go_ret
     exact ⟨by first | rfl | (simp [bY, bX] <;> rfl) | (simp [*, bY, bX] <;> rfl), by repeat (first | (with_reducible first | exact HB.out | apply aQ | apply aY | apply aT | refine ao ?_ sx.out | refine ao ?_ su.out) | exact HB.out)⟩
 ·rw [if_neg c5] at H
  have jn : ((fi.length : Int) == (fB.length : Int)) = false := beq_eq_false_iff_ne.mpr c5
  have qi : ((fi.length : Int) != (fB.length : Int)) = true := bne_iff_ne.mpr c5
  have B4 : (fi.length == fB.length) = false := by first | simpa using c5 | (simp at c5 ⊢; omega)
  obtain rfl := Option.some.inj H
  go_enter Try.func36, Try.ntmps36
  go_wp2_with (first | ((with_reducible refine bz (N := 4) rfl ?_); refine bT ?hg (N := 4) ?hd (cs := #[.int .i64 aE, .int .i64 aA, .string p7, .slice br au.length bq, .slice tx fi.length tT]) (t := 70) ?hr ?_; (case hd => rfl); (case hg => rfl); (case hr => first | (go_simp; done) | (go_simp; rfl) | (obtain ⟨_, _, rfl⟩ := Kd.bm (ae.out (by assumption : ae (Kd.R _ _ _ _ _ _ _))); go_simp; done)); intro Bw hg QW av hb; have af := bn HB hb; have ag := ae.mk (av); have ah := bK HB hg; have am := bK HB hg; clear HB; have HB := af; have e7 := ag; have Du := ah; have sx := am; clear af ag ah am; clear hb av hg) | ((with_reducible refine bz (N := 5) rfl ?_); refine bT ?hg (N := 5) ?hd (cs := #[.int .i64 aK, .int .i64 aM, .string pU, .slice eG bR.length eD, .slice tu fB.length t8]) (t := 70) ?hr ?_; (case hd => rfl); (case hg => rfl); (case hr => first | (go_simp; done) | (go_simp; rfl) | (obtain ⟨_, _, rfl⟩ := Kd.bm (ae.out (by assumption : ae (Kd.R _ _ _ _ _ _ _))); go_simp; done)); intro BD hg uC av hb; have af := bw e7 hb; have ag := bn HB hb; have ah := ae.mk (av); have am := bK HB hg; have aJ := bK HB hg; have aW := iP e7 hg; have be := iL e7 hg; clear e7; clear HB; have e7 := af; have HB := ag; have n5 := ah; have CM := am; have su := aJ; have pw := aW; have pc := be; clear af ag ah am aJ aW be; clear hb av hg; have Li := pw.out; have Qb := pc.out; obtain ⟨MM, Ng, Xe, Uf, Vp, PW, Rt, Yn, Vj, VA⟩ := ni e7; obtain ⟨yP, xQ, CU, Dm, LK, wH, wL, Fo, Hn, L6⟩ := ni n5))
  repeat (go_quiet (first | ((with_reducible refine bz (N := 4) rfl ?_); refine bT ?hg (N := 4) ?hd (cs := #[.int .i64 aE, .int .i64 aA, .string p7, .slice br au.length bq, .slice tx fi.length tT]) (t := 70) ?hr ?_; (case hd => rfl); (case hg => rfl); (case hr => first | (go_simp; done) | (go_simp; rfl) | (obtain ⟨_, _, rfl⟩ := Kd.bm (ae.out (by assumption : ae (Kd.R _ _ _ _ _ _ _))); go_simp; done)); intro Bw hg QW av hb; have af := bn HB hb; have ag := ae.mk (av); have ah := bK HB hg; have am := bK HB hg; clear HB; have HB := af; have e7 := ag; have Du := ah; have sx := am; clear af ag ah am; clear hb av hg) | ((with_reducible refine bz (N := 5) rfl ?_); refine bT ?hg (N := 5) ?hd (cs := #[.int .i64 aK, .int .i64 aM, .string pU, .slice eG bR.length eD, .slice tu fB.length t8]) (t := 70) ?hr ?_; (case hd => rfl); (case hg => rfl); (case hr => first | (go_simp; done) | (go_simp; rfl) | (obtain ⟨_, _, rfl⟩ := Kd.bm (ae.out (by assumption : ae (Kd.R _ _ _ _ _ _ _))); go_simp; done)); intro BD hg uC av hb; have af := bw e7 hb; have ag := bn HB hb; have ah := ae.mk (av); have am := bK HB hg; have aJ := bK HB hg; have aW := iP e7 hg; have be := iL e7 hg; clear e7; clear HB; have e7 := af; have HB := ag; have n5 := ah; have CM := am; have su := aJ; have pw := aW; have pc := be; clear af ag ah am aJ aW be; clear hb av hg; have Li := pw.out; have Qb := pc.out; obtain ⟨MM, Ng, Xe, Uf, Vp, PW, Rt, Yn, Vj, VA⟩ := ni e7; obtain ⟨yP, xQ, CU, Dm, LK, wH, wL, Fo, Hn, L6⟩ := ni n5)); try go_wp2_with (first | ((with_reducible refine bz (N := 4) rfl ?_); refine bT ?hg (N := 4) ?hd (cs := #[.int .i64 aE, .int .i64 aA, .string p7, .slice br au.length bq, .slice tx fi.length tT]) (t := 70) ?hr ?_; (case hd => rfl); (case hg => rfl); (case hr => first | (go_simp; done) | (go_simp; rfl) | (obtain ⟨_, _, rfl⟩ := Kd.bm (ae.out (by assumption : ae (Kd.R _ _ _ _ _ _ _))); go_simp; done)); intro Bw hg QW av hb; have af := bn HB hb; have ag := ae.mk (av); have ah := bK HB hg; have am := bK HB hg; clear HB; have HB := af; have e7 := ag; have Du := ah; have sx := am; clear af ag ah am; clear hb av hg) | ((with_reducible refine bz (N := 5) rfl ?_); refine bT ?hg (N := 5) ?hd (cs := #[.int .i64 aK, .int .i64 aM, .string pU, .slice eG bR.length eD, .slice tu fB.length t8]) (t := 70) ?hr ?_; (case hd => rfl); (case hg => rfl); (case hr => first | (go_simp; done) | (go_simp; rfl) | (obtain ⟨_, _, rfl⟩ := Kd.bm (ae.out (by assumption : ae (Kd.R _ _ _ _ _ _ _))); go_simp; done)); intro BD hg uC av hb; have af := bw e7 hb; have ag := bn HB hb; have ah := ae.mk (av); have am := bK HB hg; have aJ := bK HB hg; have aW := iP e7 hg; have be := iL e7 hg; clear e7; clear HB; have e7 := af; have HB := ag; have n5 := ah; have CM := am; have su := aJ; have pw := aW; have pc := be; clear af ag ah am aJ aW be; clear hb av hg; have Li := pw.out; have Qb := pc.out; obtain ⟨MM, Ng, Xe, Uf, Vp, PW, Rt, Yn, Vj, VA⟩ := ni e7; obtain ⟨yP, xQ, CU, Dm, LK, wH, wL, Fo, Hn, L6⟩ := ni n5)))
  go_ret
  exact ⟨by first | rfl | (simp [bY, bX] <;> rfl) | (simp [*, bY, bX] <;> rfl), by repeat (first | (with_reducible first | exact HB.out | apply aQ | apply aY | apply aT | refine ao ?_ sx.out | refine ao ?_ su.out) | exact HB.out)⟩
end Go.Proofs.Ytcfjdehpbckomaa.Q
