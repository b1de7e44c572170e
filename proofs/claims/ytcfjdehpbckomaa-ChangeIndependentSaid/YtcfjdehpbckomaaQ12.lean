
import Derived.Test.YtcfjdehpbckomaaQ0
namespace Go.Proofs.Ytcfjdehpbckomaa.Q
open Go.RowKit Go.Proofs.YtcfjdehpbckomaaW.dS Go.Proofs.YtcfjdehpbckomaaW.jm Go.Proofs.YtcfjdehpbckomaaW.mm
attribute [local go_sem] mU na nt mX m6 nu mP mW
set_option linter.unusedVariables false
set_option linter.unusedSimpArgs false
/-! ### treemergeref31_Clash: function 42 -/
def xu.f (aE : Int) (aA : Int) (aK : Int) (aM : Int) : Option (Bool) := if aE = aK then (if aA = aM then (if aA = 1 then (some false) else (some (aA != 2))) else (if aA = 2 then (some true) else (some (aM == 2)))) else (some false)
set_option maxHeartbeats 8000000 in
set_option maxRecDepth 100000 in
theorem xu.calls (aE : Int) (aA : Int) (aK : Int) (aM : Int) (r : Bool) (w : World) (h : xu.f aE aA aK aM = some r) :
  Calls Try.prog 42 #[.agg #[.int .i64 aE, .int .i64 aA], .agg #[.int .i64 aK, .int .i64 aM]] w fun e w' => e = .returned (.bool r) ∧ Below w.heap.size w w' := by
 have Kq := Try.underlying48
 have HB := ae.mk (Below.refl w.heap.size w)
 have H : (if aE = aK then (if aA = aM then (if aA = 1 then (some false) else (some (aA != 2))) else (if aA = 2 then (some true) else (some (aM == 2)))) else (some false)) = some r := h
 clear h
 by_cases c3 : aE = aK
 ·rw [if_pos c3] at H
  have kC : (aE == aK) = true := beq_iff_eq.mpr c3
  have p8 : (aE != aK) = false := bne_eq_false_iff_eq.mpr c3
  clear c3
  by_cases c4 : aA = aM
  ·rw [if_pos c4] at H
   have nN : (aA == aM) = true := beq_iff_eq.mpr c4
   have akx : (aA != aM) = false := bne_eq_false_iff_eq.mpr c4
   clear c4
   by_cases c5 : aA = 1
   ·rw [if_pos c5] at H
    have jn : (aA == 1) = true := beq_iff_eq.mpr c5
    have qi : (aA != 1) = false := bne_eq_false_iff_eq.mpr c5
    clear c5
    obtain rfl := Option.some.inj H
    go_enter Try.func42, Try.ntmps42
    go_wp2_with (first | ((with_reducible refine bz (N := 2) rfl ?_); refine bT ?hg (N := 2) ?hd (cs := #[.int .i64 aE, .int .i64 aA]) (t := 48) ?hr ?_; (case hd => rfl); (case hg => rfl); (case hr => first | (go_simp; done) | (go_simp; rfl) | (obtain ⟨_, _, rfl⟩ := Kd.bm (ae.out (by assumption : ae (Kd.R _ _ _ _ _ _ _))); go_simp; done)); intro I4 hg w6 av hb; have af := bn HB hb; have ag := ae.mk (av); have ah := bK HB hg; have am := bK HB hg; clear HB; have HB := af; have gS := ag; have IV := ah; have tk := am; clear af ag ah am; clear hb av hg) | ((with_reducible refine bz (N := 3) rfl ?_); refine bT ?hg (N := 3) ?hd (cs := #[.int .i64 aK, .int .i64 aM]) (t := 48) ?hr ?_; (case hd => rfl); (case hg => rfl); (case hr => first | (go_simp; done) | (go_simp; rfl) | (obtain ⟨_, _, rfl⟩ := Kd.bm (ae.out (by assumption : ae (Kd.R _ _ _ _ _ _ _))); go_simp; done)); intro Hs hg w7 av hb; have af := bw gS hb; have ag := bn HB hb; have ah := ae.mk (av); have am := bK HB hg; have aJ := bK HB hg; have aW := iP gS hg; have be := iL gS hg; clear gS; clear HB; have gS := af; have HB := ag; have tG := ah; have I7 := am; have tD := aJ; have tM := aW; have tp := be; clear af ag ah am aJ aW be; clear hb av hg; have QY := tM.out; have QA := tp.out; obtain ⟨vV, vl, uI, vW⟩ := oP gS; obtain ⟨E9, F7, Dq, E4⟩ := oP tG))
    go_ret
    exact ⟨by first | rfl | (simp [bY, bX] <;> rfl) | (simp [*, bY, bX] <;> rfl), by repeat (first | (with_reducible first | exact HB.out | apply aQ | apply aY | apply aT | refine ao ?_ tk.out | refine ao ?_ tD.out) | exact HB.out)⟩
   ·rw [if_neg c5] at H
    have jn : (aA == 1) = false := beq_eq_false_iff_ne.mpr c5
    have qi : (aA != 1) = true := bne_iff_ne.mpr c5
    obtain rfl := Option.some.inj H
    go_enter Try.func42, Try.ntmps42
    go_wp2_with (first | ((with_reducible refine bz (N := 2) rfl ?_); refine bT ?hg (N := 2) ?hd (cs := #[.int .i64 aE, .int .i64 aA]) (t := 48) ?hr ?_; (case hd => rfl); (case hg => rfl); (case hr => first | (go_simp; done) | (go_simp; rfl) | (obtain ⟨_, _, rfl⟩ := Kd.bm (ae.out (by assumption : ae (Kd.R _ _ _ _ _ _ _))); go_simp; done)); intro I4 hg Fj av hb; have af := bn HB hb; have ag := ae.mk (av); have ah := bK HB hg; have am := bK HB hg; clear HB; have HB := af; have gS := ag; have IV := ah; have tk := am; clear af ag ah am; clear hb av hg) | ((with_reducible refine bz (N := 3) rfl ?_); refine bT ?hg (N := 3) ?hd (cs := #[.int .i64 aK, .int .i64 aM]) (t := 48) ?hr ?_; (case hd => rfl); (case hg => rfl); (case hr => first | (go_simp; done) | (go_simp; rfl) | (obtain ⟨_, _, rfl⟩ := Kd.bm (ae.out (by assumption : ae (Kd.R _ _ _ _ _ _ _))); go_simp; done)); intro Hs hg sY av hb; have af := bw gS hb; have ag := bn HB hb; have ah := ae.mk (av); have am := bK HB hg; have aJ := bK HB hg; have aW := iP gS hg; have be := iL gS hg; clear gS; clear HB; have gS := af; have HB := ag; have tG := ah; have I7 := am; have tD := aJ; have tM := aW; have tp := be; clear af ag ah am aJ aW be; clear hb av hg; have acS := tM.out; have aiE := tp.out; obtain ⟨FF, G', DH, EI⟩ := oP gS; obtain ⟨Pl, Pj, N_, O8⟩ := oP tG))
    go_ret
    exact ⟨by first | rfl | (simp [bY, bX] <;> rfl) | (simp [*, bY, bX] <;> rfl), by repeat (first | (with_reducible first | exact HB.out | apply aQ | apply aY | apply aT | refine ao ?_ tk.out | refine ao ?_ tD.out) | exact HB.out)⟩
  ·rw [if_neg c4] at H
   have nN : (aA == aM) = false := beq_eq_false_iff_ne.mpr c4
   have akx : (aA != aM) = true := bne_iff_ne.mpr c4
   by_cases en : aA = 2
   ·rw [if_pos en] at H
    have sy : (aA == 2) = true := beq_iff_eq.mpr en
    have Gd : (aA != 2) = false := bne_eq_false_iff_eq.mpr en
    clear en
    obtain rfl := Option.some.inj H
    go_enter Try.func42, Try.ntmps42
    go_wp2_with (first | ((with_reducible refine bz (N := 2) rfl ?_); refine bT ?hg (N := 2) ?hd (cs := #[.int .i64 aE, .int .i64 aA]) (t := 48) ?hr ?_; (case hd => rfl); (case hg => rfl); (case hr => first | (go_simp; done) | (go_simp; rfl) | (obtain ⟨_, _, rfl⟩ := Kd.bm (ae.out (by assumption : ae (Kd.R _ _ _ _ _ _ _))); go_simp; done)); intro I4 hg Qu av hb; have af := bn HB hb; have ag := ae.mk (av); have ah := bK HB hg; have am := bK HB hg; clear HB; have HB := af; have gS := ag; have IV := ah; have tk := am; clear af ag ah am; clear hb av hg) | ((with_reducible refine bz (N := 3) rfl ?_); refine bT ?hg (N := 3) ?hd (cs := #[.int .i64 aK, .int .i64 aM]) (t := 48) ?hr ?_; (case hd => rfl); (case hg => rfl); (case hr => first | (go_simp; done) | (go_simp; rfl) | (obtain ⟨_, _, rfl⟩ := Kd.bm (ae.out (by assumption : ae (Kd.R _ _ _ _ _ _ _))); go_simp; done)); intro Hs hg w18 av hb; have af := bw gS hb; have ag := bn HB hb; have ah := ae.mk (av); have am := bK HB hg; have aJ := bK HB hg; have aW := iP gS hg; have be := iL gS hg; clear gS; clear HB; have gS := af; have HB := ag; have tG := ah; have I7 := am; have tD := aJ; have tM := aW; have tp := be; clear af ag ah am aJ aW be; clear hb av hg; have Ts := tM.out; have Yz := tp.out; obtain ⟨s_, tc, tb, ut⟩ := oP gS; obtain ⟨Xk, Ti, TS, WS⟩ := oP tG))
    go_ret
    exact ⟨by first | rfl | (simp [bY, bX] <;> rfl) | (simp [*, bY, bX] <;> rfl), by repeat (first | (with_reducible first | exact HB.out | apply aQ | apply aY | apply aT | refine ao ?_ tk.out | refine ao ?_ tD.out) | exact HB.out)⟩
   ·rw [if_neg en] at H
    have sy : (aA == 2) = false := beq_eq_false_iff_ne.mpr en
    have Gd : (aA != 2) = true := bne_iff_ne.mpr en
    obtain rfl := Option.some.inj H
    go_enter Try.func42, Try.ntmps42
    go_wp2_with (first | ((with_reducible refine bz (N := 2) rfl ?_); refine bT ?hg (N := 2) ?hd (cs := #[.int .i64 aE, .int .i64 aA]) (t := 48) ?hr ?_; (case hd => rfl); (case hg => rfl); (case hr => first | (go_simp; done) | (go_simp; rfl) | (obtain ⟨_, _, rfl⟩ := Kd.bm (ae.out (by assumption : ae (Kd.R _ _ _ _ _ _ _))); go_simp; done)); intro I4 hg GJ av hb; have af := bn HB hb; have ag := ae.mk (av); have ah := bK HB hg; have am := bK HB hg; clear HB; have HB := af; have gS := ag; have IV := ah; have tk := am; clear af ag ah am; clear hb av hg) | ((with_reducible refine bz (N := 3) rfl ?_); refine bT ?hg (N := 3) ?hd (cs := #[.int .i64 aK, .int .i64 aM]) (t := 48) ?hr ?_; (case hd => rfl); (case hg => rfl); (case hr => first | (go_simp; done) | (go_simp; rfl) | (obtain ⟨_, _, rfl⟩ := Kd.bm (ae.out (by assumption : ae (Kd.R _ _ _ _ _ _ _))); go_simp; done)); intro Hs hg VP av hb; have af := bw gS hb; have ag := bn HB hb; have ah := ae.mk (av); have am := bK HB hg; have aJ := bK HB hg; have aW := iP gS hg; have be := iL gS hg; clear gS; clear HB; have gS := af; have HB := ag; have tG := ah; have I7 := am; have tD := aJ; have tM := aW; have tp := be; clear af ag ah am aJ aW be; clear hb av hg; have aoH := tM.out; have avt := tp.out; obtain ⟨IC, Ib, Ht, K7⟩ := oP gS; obtain ⟨afK, ahe, ag0, ajI⟩ := oP tG))
    go_ret
    exact ⟨by first | rfl | (simp [bY, bX] <;> rfl) | (simp [*, bY, bX] <;> rfl), by repeat (first | (with_reducible first | exact HB.out | apply aQ | apply aY | apply aT | refine ao ?_ tk.out | refine ao ?_ tD.out) | exact HB.out)⟩
 ·rw [if_neg c3] at H
  have kC : (aE == aK) = false := beq_eq_false_iff_ne.mpr c3
  have p8 : (aE != aK) = true := bne_iff_ne.mpr c3
  obtain rfl := Option.some.inj H
  go_enter Try.func42, Try.ntmps42
  go_wp2_with (first | ((with_reducible refine bz (N := 2) rfl ?_); refine bT ?hg (N := 2) ?hd (cs := #[.int .i64 aE, .int .i64 aA]) (t := 48) ?hr ?_; (case hd => rfl); (case hg => rfl); (case hr => first | (go_simp; done) | (go_simp; rfl) | (obtain ⟨_, _, rfl⟩ := Kd.bm (ae.out (by assumption : ae (Kd.R _ _ _ _ _ _ _))); go_simp; done)); intro I4 hg QW av hb; have af := bn HB hb; have ag := ae.mk (av); have ah := bK HB hg; have am := bK HB hg; clear HB; have HB := af; have gS := ag; have IV := ah; have tk := am; clear af ag ah am; clear hb av hg) | ((with_reducible refine bz (N := 3) rfl ?_); refine bT ?hg (N := 3) ?hd (cs := #[.int .i64 aK, .int .i64 aM]) (t := 48) ?hr ?_; (case hd => rfl); (case hg => rfl); (case hr => first | (go_simp; done) | (go_simp; rfl) | (obtain ⟨_, _, rfl⟩ := Kd.bm (ae.out (by assumption : ae (Kd.R _ _ _ _ _ _ _))); go_simp; done)); intro Hs hg uC av hb; have af := bw gS hb; have ag := bn HB hb; have ah := ae.mk (av); have am := bK HB hg; have aJ := bK HB hg; have aW := iP gS hg; have be := iL gS hg; clear gS; clear HB; have gS := af; have HB := ag; have tG := ah; have I7 := am; have tD := aJ; have tM := aW; have tp := be; clear af ag ah am aJ aW be; clear hb av hg; have Li := tM.out; have Qb := tp.out; obtain ⟨MM, Ng, PW, Rt⟩ := oP gS; obtain ⟨yP, xQ, wH, wL⟩ := oP tG))
  go_ret
  exact ⟨by first | rfl | (simp [bY, bX] <;> rfl) | (simp [*, bY, bX] <;> rfl), by repeat (first | (with_reducible first | exact HB.out | apply aQ | apply aY | apply aT | refine ao ?_ tk.out | refine ao ?_ tD.out) | exact HB.out)⟩
mutual
def d6.l0 : Nat → List Int → Int → List Int → Bool → Int → Option (List Int)
 | 0, _, _, _, _, _ => none
 | k + 1, x0, x1, x5, x6, x7 => if x7 < (x0.length : Int) then (if x6 = true then (d6.j1 k x0 x1 x5 x6 x7 false) else (if 0 ≤ x7 then (d6.j1 k x0 x1 x5 x6 x7 (decide (x1 ≤ (rd x0 x7)))) else (none))) else (if x6 = true then (some x5) else (if x5.length < 17592186044416 then (some (x5 ++ [x1])) else (none)))
def d6.j1 : Nat → List Int → Int → List Int → Bool → Int → Bool → Option (List Int)
 | 0, _, _, _, _, _, _ => none
 | k + 1, x0, x1, x5, x6, x7, x23 => if x23 = true then (if x5.length < 17592186044416 then ((some (x5 ++ [x1] : List Int)).bind fun oz => (if 0 ≤ x7 then (if x7 < (x0.length : Int) then (if x1 = (rd x0 x7) then (d6.l0 k x0 x1 oz true (wrap64 (x7 + 1))) else (if oz.length < 17592186044416 then (d6.l0 k x0 x1 (oz ++ [rd x0 x7]) true (wrap64 (x7 + 1))) else (none))) else (none)) else (none))) else (none)) else (if 0 ≤ x7 then (if x7 < (x0.length : Int) then (if x5.length < 17592186044416 then (d6.l0 k x0 x1 (x5 ++ [rd x0 x7]) x6 (wrap64 (x7 + 1))) else (none)) else (none)) else (none))
end
def d6.f (k : Nat) (l0 : List Int) (a1 : Int) : Option (List Int) := d6.l0 k l0 a1 ([] : List Int) false 0
theorem d6.fp : ∀ k, (∀ y0 y1 y2 y3 y4, aI (d6.l0 k y0 y1 y2 y3 y4) (d6.l0 (k + 1) y0 y1 y2 y3 y4)) ∧ (∀ y0 y1 y2 y3 y4 y5, aI (d6.j1 k y0 y1 y2 y3 y4 y5) (d6.j1 (k + 1) y0 y1 y2 y3 y4 y5))
 | 0 => ⟨fun _ _ _ _ _ r h => by simp [d6.l0] at h, fun _ _ _ _ _ _ r h => by simp [d6.j1] at h⟩
 | k + 1 => by
  obtain ⟨dq, ih1⟩ := d6.fp k
  refine ⟨?_, ?_⟩ <;> intros <;> (first | unfold d6.l0 | unfold d6.j1) <;> repeat' first
   | (with_reducible exact dq _ _ _ _ _)
   | (with_reducible exact ih1 _ _ _ _ _ _)
   | (with_reducible exact aI.refl _)
   | (with_reducible exact aI.none _)
   | (with_reducible refine aI.ite ?_ ?_)
   | (with_reducible refine aI.bind ?_ (fun _ => ?_))
   | exact dq _ _ _ _ _
   | exact ih1 _ _ _ _ _ _
   | exact aI.none _
   | refine aI.ite ?_ ?_
   | refine aI.bind ?_ (fun _ => ?_)
theorem d6.mono : ∀ a0 a1 k, aI (d6.f k a0 a1) (d6.f (k + 1) a0 a1) := by
 intro a0 a1 k
 obtain ⟨dq, ih1⟩ := d6.fp k
 unfold d6.f
 repeat' first
   | (with_reducible exact dq _ _ _ _ _)
   | (with_reducible exact ih1 _ _ _ _ _ _)
   | (with_reducible exact aI.refl _)
   | (with_reducible exact aI.none _)
   | (with_reducible refine aI.ite ?_ ?_)
   | (with_reducible refine aI.bind ?_ (fun _ => ?_))
set_option maxHeartbeats 8000000 in
set_option maxRecDepth 100000 in
theorem d6.calls (k : Nat) (A0 : Option Addr) (c0 : Nat) (l0 : List Int) (a1 : Int) (r : List Int) (w : World) (hr0 : Kd.C (Kd.int .i64) w A0 l0.length l0) (hc0 : l0.length ≤ c0) (h : d6.f k l0 a1 = some r) :
  Calls Try.prog 43 #[.slice A0 l0.length c0, .int .i64 a1] w fun e w' => ∃ jC : Value, e = .returned (jC) ∧ Kd.R (Kd.int .i64) 3 w' w.heap.size (fun _ => True) jC r ∧ Below w.heap.size w w' := by
 have dr := ae.mk hr0
 have qg := ae.mk hc0
 clear hr0 hc0
 have HB := ae.mk (Below.refl w.heap.size w)
 have H : (d6.l0 k l0 a1 ([] : List Int) false 0) = some r := h
 clear h
 have H' := ae.mk H
 clear H
 go_enter Try.func43, Try.ntmps43
 go_wp2
 go_loopg [5, 6, 7] k (fun kq v5 v6 v7 w' => ∃ (a_ : List Int) (dV : Bool) (az : Int), v6 = .bool dV ∧ v7 = .int .i64 az ∧ ae (d6.l0 kq l0 a1 a_ dV az = some r) ∧ ae (kq ≤ k) ∧ ae (Kd.R (Kd.int .i64) 3 w' w.heap.size (fun _ => True) v5 a_) ∧ ae (Below w.heap.size w w'))
 case atStart => exact ⟨(([] : List Int)), (false), (0), SX, SX, H', ⟨Nat.le_refl _⟩, ⟨NX⟩, ⟨BX HB.out⟩⟩
 case round =>
  clear H'
  try clear p2
  obtain ⟨a_, dV, az, rfl, rfl, HA, d1, cd, HB⟩ := hrel
  cases gk with
  | zero => exact absurd HA.out (by simp [d6.l0])
  | succ k1 =>
   have H := HA.out
   clear HA
   simp only [d6.l0] at H
   by_cases c3 : az < (l0.length : Int)
   ·rw [if_pos c3] at H
    have kC : decide (az < (l0.length : Int)) = true := decide_eq_true c3
    clear c3
    have tj := ae.mk H
    clear H
    go_upto_region 6 with (fail)
    go_cut [23] (fun v23 wc => ∃ (kq : Nat) (It : Bool), v23 = .bool It ∧ ae (d6.j1 kq l0 a1 a_ dV az It = some r) ∧ ae (kq ≤ k1) ∧ ae (Kd.R (Kd.int .i64) 3 wc w.heap.size (fun _ => True) u5 a_) ∧ ae (Below w.heap.size w wc))
    case first =>
     have H := tj.out
     clear tj
     by_cases c5 : dV = true
     ·subst c5
      have H1 : (d6.j1 k1 l0 a1 a_ true az false) = some r := by rw [if_pos rfl] at H; exact H
      clear H
      have H := H1
      clear H1
      have H' := ae.mk H
      clear H
      go_wp2
      go_meet
      case rel => exact ⟨_, (false), SX, H', ⟨by have := d1.out; first | omega | exact Nat.le_refl _⟩, ⟨RX cd.out⟩, ⟨BX HB.out⟩⟩
     ·replace c5 := Bool.eq_false_iff.mpr c5
      subst c5
      have H1 : (if 0 ≤ az then (d6.j1 k1 l0 a1 a_ false az (decide (a1 ≤ (rd l0 az)))) else (none)) = some r := by rw [if_neg (show ¬ (false = true) by decide)] at H; exact H
      clear H
      have H := H1
      clear H1
      by_cases c6 : 0 ≤ az
      ·rw [if_pos c6] at H
       have gJ : decide (0 ≤ az) = true := decide_eq_true c6
       clear c6
       (first | rw [gJ] | (simp only [gY, gX]; rw [gJ]) | skip)
       have H' := ae.mk H
       clear H
       have KS : 0 ≤ (az : Int) := of_decide_eq_true AX
       have KJ : az < (l0.length : Int) := of_decide_eq_true AX
       obtain ⟨awj, aaf, IY⟩ := Kd.dB dr.out az KS KJ
       cases aaf
       replace IY := (HB.out.cell (World.block_lt_of_cell? w _ IY)).trans IY
       replace KS := eq_true KS
       replace KJ := eq_true KJ
       go_wp2
       go_meet
       case rel => exact ⟨_, (decide (a1 ≤ (rd l0 az))), SX, H', ⟨by have := d1.out; first | omega | exact Nat.le_refl _⟩, ⟨RX cd.out⟩, ⟨BX HB.out⟩⟩
      ·rw [if_neg c6] at H
       exact absurd H (by simp)
    case rest =>
     clear tj
     try clear p2
     try clear c3
     try clear kC
     try clear p3
     try clear q3
     try clear kE
     try clear c4
     try clear c5
     try clear c6
     try clear gJ
     try clear IY
     try clear p2
     try clear KS
     try clear KJ
     obtain ⟨kq, It, rfl, HA, qU, cd, HB⟩ := hcut
     cases kq with
     | zero => exact absurd HA.out (by simp [d6.j1])
     | succ pe =>
      have H := HA.out
      clear HA
      simp only [d6.j1] at H
      by_cases c7 : It = true
      ·subst c7
       have H1 : (if a_.length < 17592186044416 then ((some (a_ ++ [a1] : List Int)).bind fun oz => (if 0 ≤ az then (if az < (l0.length : Int) then (if a1 = (rd l0 az) then (d6.l0 pe l0 a1 oz true (wrap64 (az + 1))) else (if oz.length < 17592186044416 then (d6.l0 pe l0 a1 (oz ++ [rd l0 az]) true (wrap64 (az + 1))) else (none))) else (none)) else (none))) else (none)) = some r := by rw [if_pos rfl] at H; exact H
       clear H
       have H := H1
       clear H1
       by_cases c8 : a_.length < 17592186044416
       ·rw [if_pos c8] at H
        have XE := ae.mk c8
        clear c8
        obtain ⟨oz, EX⟩ : ∃ y_ : List Int, y_ = (a_ ++ [a1]) := ⟨_, rfl⟩
        replace H : (if 0 ≤ az then (if az < (l0.length : Int) then (if a1 = (rd l0 az) then (d6.l0 pe l0 a1 oz true (wrap64 (az + 1))) else (if oz.length < 17592186044416 then (d6.l0 pe l0 a1 (oz ++ [rd l0 az]) true (wrap64 (az + 1))) else (none))) else (none)) else (none)) = some r := by first | (rw [EX]; with_reducible exact H) | (have ca := (Option.bind_some _ _).symm.trans H; rw [EX]; with_reducible exact ca) | (have ca := (Option.bind_some _ _).symm.trans H; with_reducible exact ca) | with_reducible exact H | (rw [EX]; exact H) | exact H
        have UZ := ae.mk EX
        clear EX
        by_cases c9 : 0 ≤ az
        ·rw [if_pos c9] at H
         have BO : decide (0 ≤ az) = true := decide_eq_true c9
         clear c9
         by_cases dO : az < (l0.length : Int)
         ·rw [if_pos dO] at H
          have k6 : decide (az < (l0.length : Int)) = true := decide_eq_true dO
          clear dO
          by_cases gf : a1 = (rd l0 az)
          ·rw [if_pos gf] at H
           have BW : (a1 == (rd l0 az)) = true := beq_iff_eq.mpr gf
           have abw : (a1 != (rd l0 az)) = false := bne_eq_false_iff_eq.mpr gf
           clear gf
           have H' := ae.mk H
           clear H
           go_wp2_with (first | ((with_reducible refine gP (b := .append) (xs := #[.tmp 24, .tmp 26]) rfl ?_); at_builtin; refine Kd.ia (Kd.int .i64) (w0 := w) w.heap.size rfl (.tmp 24) (.tmp 26) 26 3 (.int .i64 0) 8 rfl Try.underlying26 DQ rfl (by decide) (by omega) u5 a_ a1 [.int .i64 a1] (fun _ => True) (fun _ => False) rfl rfl ?aP (fun _ hk => hk.elim) ?aF ?aO ?aB ?aS ?aL ?_; (case aP => exact rfl); (case aB => exact (BX HB.out)); (case aF => exact (fun _ _ => trivial)); (case aO => exact (RX cd.out)); (case aS => exact (cG (BX HB.out))); (case aL => have := XE.out; omega); intro Uc sY ho hb hg hat; rw [← UZ.out] at ho; have af := ae.mk (hb); have ag := ae.mk (ho); clear HB; clear cd; have HB := af; have Jj := ag; clear af ag; clear ho hb hg hat; have xO : 0 ≤ (az : Int) := of_decide_eq_true AX; have yh : az < (l0.length : Int) := of_decide_eq_true AX; obtain ⟨TC, Rq, yK⟩ := Kd.dB dr.out az xO yh; cases Rq; replace yK := (HB.out.cell (World.block_lt_of_cell? w _ yK)).trans yK; replace xO := eq_true xO; replace yh := eq_true yh))
           go_roundg pe
           case measure => have := d1.out; have := qU.out; omega
           case rel => exact ⟨(oz), (true), (wrap64 (az + 1)), SX, SX, H', ⟨by have := d1.out; have := qU.out; omega⟩, ⟨RX Jj.out⟩, ⟨BX HB.out⟩⟩
          ·rw [if_neg gf] at H
           have BW : (a1 == (rd l0 az)) = false := beq_eq_false_iff_ne.mpr gf
           have abw : (a1 != (rd l0 az)) = true := bne_iff_ne.mpr gf
           by_cases iN : oz.length < 17592186044416
           ·rw [if_pos iN] at H
            have ab7 := ae.mk iN
            clear iN
            obtain ⟨XZ, Fq⟩ : ∃ y_ : List Int, y_ = (oz ++ [rd l0 az]) := ⟨_, rfl⟩
            replace H : (d6.l0 pe l0 a1 XZ true (wrap64 (az + 1))) = some r := by first | (rw [Fq]; with_reducible exact H) | (have ca := (Option.bind_some _ _).symm.trans H; rw [Fq]; with_reducible exact ca) | (have ca := (Option.bind_some _ _).symm.trans H; with_reducible exact ca) | with_reducible exact H | (rw [Fq]; exact H) | exact H
            have acI := ae.mk Fq
            clear Fq
            have H' := ae.mk H
            clear H
            go_wp2_with (first | ((with_reducible refine gP (b := .append) (xs := #[.tmp 24, .tmp 26]) rfl ?_); at_builtin; refine Kd.ia (Kd.int .i64) (w0 := w) w.heap.size rfl (.tmp 24) (.tmp 26) 26 3 (.int .i64 0) 8 rfl Try.underlying26 DQ rfl (by decide) (by omega) u5 a_ a1 [.int .i64 a1] (fun _ => True) (fun _ => False) rfl rfl ?aP (fun _ hk => hk.elim) ?aF ?aO ?aB ?aS ?aL ?_; (case aP => exact rfl); (case aB => exact (BX HB.out)); (case aF => exact (fun _ _ => trivial)); (case aO => exact (RX cd.out)); (case aS => exact (cG (BX HB.out))); (case aL => have := XE.out; omega); intro Uc uX ho hb hg hat; rw [← UZ.out] at ho; have af := ae.mk (hb); have ag := ae.mk (ho); clear HB; clear cd; have HB := af; have Jj := ag; clear af ag; clear ho hb hg hat; have xO : 0 ≤ (az : Int) := of_decide_eq_true AX; have yh : az < (l0.length : Int) := of_decide_eq_true AX; obtain ⟨TC, Rq, yK⟩ := Kd.dB dr.out az xO yh; cases Rq; replace yK := (HB.out.cell (World.block_lt_of_cell? w _ yK)).trans yK; replace xO := eq_true xO; replace yh := eq_true yh; have LQ : 0 ≤ (az : Int) := of_decide_eq_true AX; have OE : az < (l0.length : Int) := of_decide_eq_true AX; obtain ⟨aak, ahm, Lv⟩ := Kd.dB dr.out az LQ OE; obtain rfl : TC = aak := (by injection ahm); replace Lv := (HB.out.cell (World.block_lt_of_cell? w _ Lv)).trans Lv; replace LQ := eq_true LQ; replace OE := eq_true OE) | ((with_reducible refine gP (b := .append) (xs := #[.tmp 34, .tmp 39]) rfl ?_); at_builtin; refine Kd.ia (Kd.int .i64) (w0 := w) w.heap.size rfl (.tmp 34) (.tmp 39) 26 3 (.int .i64 0) 8 rfl Try.underlying26 DQ rfl (by decide) (by omega) Uc oz (rd l0 az) [.int .i64 (rd l0 az)] (fun _ => True) (fun _ => False) rfl rfl ?aP (fun _ hk => hk.elim) ?aF ?aO ?aB ?aS ?aL ?_; (case aP => exact rfl); (case aB => exact (BX HB.out)); (case aF => exact (fun _ _ => trivial)); (case aO => exact (RX Jj.out)); (case aS => exact (cG (BX HB.out))); (case aL => have := ab7.out; omega); intro amC ug ho hb hg hat; rw [← acI.out] at ho; have af := ae.mk (hb); have ag := ae.mk (ho); clear HB; clear Jj; have HB := af; have agf := ag; clear af ag; clear ho hb hg hat))
            go_roundg pe
            case measure => have := d1.out; have := qU.out; omega
            case rel => exact ⟨(XZ), (true), (wrap64 (az + 1)), SX, SX, H', ⟨by have := d1.out; have := qU.out; omega⟩, ⟨RX agf.out⟩, ⟨BX HB.out⟩⟩
           ·rw [if_neg iN] at H
            exact absurd H (by simp)
         ·rw [if_neg dO] at H
          exact absurd H (by simp)
        ·rw [if_neg c9] at H
         exact absurd H (by simp)
       ·rw [if_neg c8] at H
        exact absurd H (by simp)
      ·replace c7 := Bool.eq_false_iff.mpr c7
       subst c7
       have H1 : (if 0 ≤ az then (if az < (l0.length : Int) then (if a_.length < 17592186044416 then (d6.l0 pe l0 a1 (a_ ++ [rd l0 az]) dV (wrap64 (az + 1))) else (none)) else (none)) else (none)) = some r := by rw [if_neg (show ¬ (false = true) by decide)] at H; exact H
       clear H
       have H := H1
       clear H1
       by_cases en : 0 ≤ az
       ·rw [if_pos en] at H
        have sy : decide (0 ≤ az) = true := decide_eq_true en
        clear en
        by_cases ip : az < (l0.length : Int)
        ·rw [if_pos ip] at H
         have zO : decide (az < (l0.length : Int)) = true := decide_eq_true ip
         clear ip
         by_cases fY : a_.length < 17592186044416
         ·rw [if_pos fY] at H
          have Gq := ae.mk fY
          clear fY
          obtain ⟨V0, FI⟩ : ∃ y_ : List Int, y_ = (a_ ++ [rd l0 az]) := ⟨_, rfl⟩
          replace H : (d6.l0 pe l0 a1 V0 dV (wrap64 (az + 1))) = some r := by first | (rw [FI]; with_reducible exact H) | (have ca := (Option.bind_some _ _).symm.trans H; rw [FI]; with_reducible exact ca) | (have ca := (Option.bind_some _ _).symm.trans H; with_reducible exact ca) | with_reducible exact H | (rw [FI]; exact H) | exact H
          have afo := ae.mk FI
          clear FI
          have H' := ae.mk H
          clear H
          have QC : 0 ≤ (az : Int) := of_decide_eq_true AX
          have QO : az < (l0.length : Int) := of_decide_eq_true AX
          obtain ⟨anw, afH, NO⟩ := Kd.dB dr.out az QC QO
          cases afH
          replace NO := (HB.out.cell (World.block_lt_of_cell? w _ NO)).trans NO
          replace QC := eq_true QC
          replace QO := eq_true QO
          go_wp2_with (first | ((with_reducible refine gP (b := .append) (xs := #[.tmp 34, .tmp 39]) rfl ?_); at_builtin; refine Kd.ia (Kd.int .i64) (w0 := w) w.heap.size rfl (.tmp 34) (.tmp 39) 26 3 (.int .i64 0) 8 rfl Try.underlying26 DQ rfl (by decide) (by omega) u5 a_ (rd l0 az) [.int .i64 (rd l0 az)] (fun _ => True) (fun _ => False) rfl rfl ?aP (fun _ hk => hk.elim) ?aF ?aO ?aB ?aS ?aL ?_; (case aP => exact rfl); (case aB => exact (BX HB.out)); (case aF => exact (fun _ _ => trivial)); (case aO => exact (RX cd.out)); (case aS => exact (cG (BX HB.out))); (case aL => have := Gq.out; omega); intro apu w19 ho hb hg hat; rw [← afo.out] at ho; have af := ae.mk (hb); have ag := ae.mk (ho); clear HB; clear cd; have HB := af; have abd := ag; clear af ag; clear ho hb hg hat))
          go_roundg pe
          case measure => have := d1.out; have := qU.out; omega
          case rel => exact ⟨(V0), (dV), (wrap64 (az + 1)), SX, SX, H', ⟨by have := d1.out; have := qU.out; omega⟩, ⟨RX abd.out⟩, ⟨BX HB.out⟩⟩
         ·rw [if_neg fY] at H
          exact absurd H (by simp)
        ·rw [if_neg ip] at H
         exact absurd H (by simp)
       ·rw [if_neg en] at H
        exact absurd H (by simp)
   ·rw [if_neg c3] at H
    have kC : decide (az < (l0.length : Int)) = false := decide_eq_false c3
    clear c3
    by_cases nD : dV = true
    ·subst nD
     have H1 : (some a_) = some r := by rw [if_pos rfl] at H; exact H
     clear H
     have H := H1
     clear H1
     obtain rfl := Option.some.inj H
     go_wp2
     go_ret
     exact ⟨_, by first | rfl | (simp [bY, bX] <;> rfl) | (simp [*, bY, bX] <;> rfl), by (with_reducible repeat (first | apply Kd.nX | apply Kd.ot | apply Kd.jj)); exact cd.out, BX HB.out⟩
    ·replace nD := Bool.eq_false_iff.mpr nD
     subst nD
     have H1 : (if a_.length < 17592186044416 then (some (a_ ++ [a1])) else (none)) = some r := by rw [if_neg (show ¬ (false = true) by decide)] at H; exact H
     clear H
     have H := H1
     clear H1
     by_cases kS : a_.length < 17592186044416
     ·rw [if_pos kS] at H
      have aae := ae.mk kS
      clear kS
      obtain ⟨ZW, Ff⟩ : ∃ y_ : List Int, y_ = (a_ ++ [a1]) := ⟨_, rfl⟩
      replace H : (some ZW) = some r := by first | (rw [Ff]; with_reducible exact H) | (have ca := (Option.bind_some _ _).symm.trans H; rw [Ff]; with_reducible exact ca) | (have ca := (Option.bind_some _ _).symm.trans H; with_reducible exact ca) | with_reducible exact H | (rw [Ff]; exact H) | exact H
      have afz := ae.mk Ff
      clear Ff
      obtain rfl := Option.some.inj H
      go_wp2_with (first | ((with_reducible refine gP (b := .append) (xs := #[.tmp 43, .tmp 45]) rfl ?_); at_builtin; refine Kd.ia (Kd.int .i64) (w0 := w) w.heap.size rfl (.tmp 43) (.tmp 45) 26 3 (.int .i64 0) 8 rfl Try.underlying26 DQ rfl (by decide) (by omega) u5 a_ a1 [.int .i64 a1] (fun _ => True) (fun _ => False) rfl rfl ?aP (fun _ hk => hk.elim) ?aF ?aO ?aB ?aS ?aL ?_; (case aP => exact rfl); (case aB => exact (BX HB.out)); (case aF => exact (fun _ _ => trivial)); (case aO => exact (RX cd.out)); (case aS => exact (cG (BX HB.out))); (case aL => have := aae.out; omega); intro auF GJ ho hb hg hat; rw [← afz.out] at ho; have af := ae.mk (hb); have ag := ae.mk (ho); clear HB; clear cd; have HB := af; have ag2 := ag; clear af ag; clear ho hb hg hat))
      go_ret
      exact ⟨_, by first | rfl | (simp [bY, bX] <;> rfl) | (simp [*, bY, bX] <;> rfl), by (with_reducible repeat (first | apply Kd.nX | apply Kd.ot | apply Kd.jj)); exact ag2.out, BX HB.out⟩
     ·rw [if_neg kS] at H
      exact absurd H (by simp)
mutual
def ec.l0 : Nat → List (aw) → List (aw) → List Int → Int → Option (List Int)
 | 0, _, _, _, _ => none
 | k + 1, x0, x1, x5, x6 => if x6 < (x0.length : Int) then (ec.l1 k x0 x1 x5 x6 0) else (some x5)
def ec.l1 : Nat → List (aw) → List (aw) → List Int → Int → Int → Option (List Int)
 | 0, _, _, _, _, _ => none
 | k + 1, x0, x1, x5, x6, x7 => if x7 < (x1.length : Int) then (if 0 ≤ x6 then (if x6 < (x0.length : Int) then (if 0 ≤ x7 then ((xu.f ((aq x0 x6).f0) ((aq x0 x6).f1) ((aq x1 x7).f0) ((aq x1 x7).f1)).bind fun No => (if No = true then ((d6.f k x5 ((aq x0 x6).f0)).bind fun AT => (ec.l1 k x0 x1 AT x6 (wrap64 (x7 + 1)))) else (ec.l1 k x0 x1 x5 x6 (wrap64 (x7 + 1))))) else (none)) else (none)) else (none)) else (ec.l0 k x0 x1 x5 (wrap64 (x6 + 1)))
end
def ec.f (k : Nat) (l0 : List (aw)) (l1 : List (aw)) : Option (List Int) := ec.l0 k l0 l1 ([] : List Int) 0
theorem ec.fp : ∀ k, (∀ y0 y1 y2 y3, aI (ec.l0 k y0 y1 y2 y3) (ec.l0 (k + 1) y0 y1 y2 y3)) ∧ (∀ y0 y1 y2 y3 y4, aI (ec.l1 k y0 y1 y2 y3 y4) (ec.l1 (k + 1) y0 y1 y2 y3 y4))
 | 0 => ⟨fun _ _ _ _ r h => by simp [ec.l0] at h, fun _ _ _ _ _ r h => by simp [ec.l1] at h⟩
 | k + 1 => by
  obtain ⟨dq, ih1⟩ := ec.fp k
  refine ⟨?_, ?_⟩ <;> intros <;> (first | unfold ec.l0 | unfold ec.l1) <;> repeat' first
   | (with_reducible exact dq _ _ _ _)
   | (with_reducible exact ih1 _ _ _ _ _)
   | (with_reducible exact d6.mono _ _ _)
   | (with_reducible exact aI.refl _)
   | (with_reducible exact aI.none _)
   | (with_reducible refine aI.ite ?_ ?_)
   | (with_reducible refine aI.bind ?_ (fun _ => ?_))
   | exact dq _ _ _ _
   | exact ih1 _ _ _ _ _
   | exact d6.mono _ _ _
   | exact aI.none _
   | refine aI.ite ?_ ?_
   | refine aI.bind ?_ (fun _ => ?_)
theorem ec.mono : ∀ a0 a1 k, aI (ec.f k a0 a1) (ec.f (k + 1) a0 a1) := by
 intro a0 a1 k
 obtain ⟨dq, ih1⟩ := ec.fp k
 unfold ec.f
 repeat' first
   | (with_reducible exact dq _ _ _ _)
   | (with_reducible exact ih1 _ _ _ _ _)
   | (with_reducible exact d6.mono _ _ _)
   | (with_reducible exact aI.refl _)
   | (with_reducible exact aI.none _)
   | (with_reducible refine aI.ite ?_ ?_)
   | (with_reducible refine aI.bind ?_ (fun _ => ?_))
def ec.T8 : Bool × List (List Nat × List Nat) := (true, [([], []), ([], []), ([0, 1], [0, 1]), ([2], [2]), ([], []), ([], []), ([4, 5], [4, 5]), ([6], [6]), ([3, 7], [3, 7])])
def ec.B8 : List Nat := [0, 0, 3, 7, 0, 0, 48, 112, 255]
theorem ec.VO : je .any (opsOf Try.f15 8) = ec.T8 := by kernel_rfl
theorem ec.TG : th ec.T8.2 ec.B8 = true := by kernel_rfl
set_option maxHeartbeats 8000000 in
set_option maxRecDepth 100000 in
theorem ec.calls (k : Nat) (A0 : Option Addr) (c0 : Nat) (l0 : List (aw)) (A1 : Option Addr) (c1 : Nat) (l1 : List (aw)) (r : List Int) (w : World) (hr0 : Kd.C dT w A0 l0.length l0) (hc0 : l0.length ≤ c0) (hr1 : Kd.C dT w A1 l1.length l1) (hc1 : l1.length ≤ c1) (h : ec.f k l0 l1 = some r) :
  Calls Try.prog 15 #[.slice A0 l0.length c0, .slice A1 l1.length c1] w fun e w' => ∃ jC : Value, e = .returned (jC) ∧ Kd.R (Kd.int .i64) 3 w' w.heap.size (fun _ => True) jC r ∧ Below w.heap.size w w' := by
 have Kq := Try.underlying48
 have dr := ae.mk hr0
 have qg := ae.mk hc0
 clear hr0 hc0
 have lg := ae.mk hr1
 have sH := ae.mk hc1
 clear hr1 hc1
 have HB := ae.mk (Below.refl w.heap.size w)
 have H : (ec.l0 k l0 l1 ([] : List Int) 0) = some r := h
 clear h
 have H' := ae.mk H
 clear H
 go_enter Try.func15, Try.ntmps15
 go_wp2
 go_loopg [5, 6] k (fun kq v5 v6 w' => ∃ (a_ : List Int) (dV : Int), v6 = .int .i64 dV ∧ ae (ec.l0 kq l0 l1 a_ dV = some r) ∧ ae (kq ≤ k) ∧ ae (Kd.R (Kd.int .i64) 3 w' w.heap.size (fun _ => True) v5 a_) ∧ ae (Below w.heap.size w w'))
 case atStart => exact ⟨(([] : List Int)), (0), SX, H', ⟨Nat.le_refl _⟩, ⟨NX⟩, ⟨BX HB.out⟩⟩
 case round =>
  clear H'
  try clear c1
  try clear p2
  obtain ⟨a_, dV, rfl, HA, d1, cd, HB⟩ := hrel
  cases gk with
  | zero => exact absurd HA.out (by simp [ec.l0])
  | succ k1 =>
   have H := HA.out
   clear HA
   simp only [ec.l0] at H
   by_cases c3 : dV < (l0.length : Int)
   ·rw [if_pos c3] at H
    have kC : decide (dV < (l0.length : Int)) = true := decide_eq_true c3
    clear c3
    have H' := ae.mk H
    clear H
    go_wp2
    go_loopg [5, 7] k1 (fun kq v5 v7 w' => ∃ (mI : List Int) (fA : Int), v7 = .int .i64 fA ∧ ae (ec.l1 kq l0 l1 mI dV fA = some r) ∧ ae (kq ≤ k1) ∧ ae (Kd.R (Kd.int .i64) 3 w' w.heap.size (fun _ => True) v5 mI) ∧ ae (Below w.heap.size w w'))
    case atStart => exact ⟨(a_), (0), SX, H', ⟨Nat.le_refl _⟩, ⟨RX cd.out⟩, ⟨BX HB.out⟩⟩
    case round =>
     clear H'
     try clear c1
     try clear p2
     try clear c3
     try clear kC
     try clear p2
     obtain ⟨mI, fA, rfl, HA, eP, cd, HB⟩ := hrel
     cases gk with
     | zero => exact absurd HA.out (by simp [ec.l1])
     | succ k2 =>
      have H := HA.out
      clear HA
      simp only [ec.l1] at H
      by_cases c4 : fA < (l1.length : Int)
      ·rw [if_pos c4] at H
       have nN : decide (fA < (l1.length : Int)) = true := decide_eq_true c4
       clear c4
       by_cases c5 : 0 ≤ dV
       ·rw [if_pos c5] at H
        have jn : decide (0 ≤ dV) = true := decide_eq_true c5
        clear c5
        by_cases c6 : dV < (l0.length : Int)
        ·rw [if_pos c6] at H
         have gJ : decide (dV < (l0.length : Int)) = true := decide_eq_true c6
         clear c6
         by_cases c7 : 0 ≤ fA
         ·rw [if_pos c7] at H
          have q' : decide (0 ≤ fA) = true := decide_eq_true c7
          clear c7
          replace H := Option.bind_eq_some_iff.mp H
          obtain ⟨No, mM, H⟩ := H
          have A8 := ae.mk mM
          clear mM
          by_cases c9 : No = true
          ·subst c9
           have H1 : ((d6.f k2 mI ((aq l0 dV).f0)).bind fun AT => (ec.l1 k2 l0 l1 AT dV (wrap64 (fA + 1)))) = some r := by rw [if_pos rfl] at H; exact H
           clear H
           have H := H1
           clear H1
           replace H := Option.bind_eq_some_iff.mp H
           obtain ⟨AT, GY, H⟩ := H
           have rJ := ae.mk GY
           clear GY
           have H' := ae.mk H
           clear H
           try go_wp2
           have af := ae.mk (Kd.jj cd.out)
           have ag := ae.mk (aT HB.out)
           clear cd
           clear HB
           have cd := af
           have HB := ag
           clear af ag
           have yF : 0 ≤ (dV : Int) := of_decide_eq_true AX
           have yX : dV < (l0.length : Int) := of_decide_eq_true AX
           obtain ⟨uw, M2, rW, q7⟩ := iZ dr.out dV yF yX
           have tR := q7
           have t6 := rW
           cases M2
           replace rW := (HB.out.cell (World.block_lt_of_cell? w _ rW)).trans rW
           replace q7 := (HB.out.cell (World.block_lt_of_cell? w _ q7)).trans q7
           replace yF := eq_true yF
           replace yX := eq_true yX
           have wB : 0 ≤ (fA : Int) := of_decide_eq_true AX
           have wq : fA < (l1.length : Int) := of_decide_eq_true AX
           obtain ⟨xr, MF, rD, rf⟩ := iZ lg.out fA wB wq
           have uu := rf
           have ub := rD
           cases MF
           replace rD := (HB.out.cell (World.block_lt_of_cell? w _ rD)).trans rD
           replace rf := (HB.out.cell (World.block_lt_of_cell? w _ rf)).trans rf
           replace wB := eq_true wB
           replace wq := eq_true wq
           refine Bz (n := 9) (S := fun w' => w'.cell? (uw.add ((dV).toNat * 2)) = some (.int .i64 ((aq l0 dV).f0)) ∧ w'.cell? ⟨(uw.add ((dV).toNat * 2)).block, (uw.add ((dV).toNat * 2)).off + 1, none⟩ = some (.int .i64 ((aq l0 dV).f1)) ∧ w'.cell? (xr.add ((fA).toNat * 2)) = some (.int .i64 ((aq l1 fA).f0)) ∧ w'.cell? ⟨(xr.add ((fA).toNat * 2)).block, (xr.add ((fA).toNat * 2)).off + 1, none⟩ = some (.int .i64 ((aq l1 fA).f1))) (ds := []) #[false, false, false, false, false, false, false, false, false] (by kernel_rfl) rfl rfl ⟨((HB.out.cell (World.block_lt_of_cell? w _ t6)).trans t6), ((HB.out.cell (World.block_lt_of_cell? w _ tR)).trans tR), ((HB.out.cell (World.block_lt_of_cell? w _ ub)).trans ub), ((HB.out.cell (World.block_lt_of_cell? w _ uu)).trans uu)⟩ (fun hHeld => ?_); refine Ac ec.VO ec.TG (fun cQ nz => ?_)
           generalize wr.drew = Fj at cd HB rW q7 rD rf hHeld ⊢
           refine PU 0 20 cQ ?_
           refine PU 1 21 cQ ?_
           refine PU 2 22 cQ ?_
           refine PU 4 24 cQ ?_
           refine PU 5 25 cQ ?_
           refine PU 6 26 cQ ?_
           refine TU 3 23 cQ nz hHeld ?_
           refine TU 7 27 cQ nz hHeld ?_
           refine CF (i := 8) (N := some 28) #[true, true, true, true, true, true, true, true, true] rfl rfl (D7 cQ.out (by kernel_rfl)) (by decide) (fun K hK => ?_)
           refine Gt Try.func42 (by kernel_rfl) rfl #[.agg #[.int .i64 ((aq l0 dV).f0), .int .i64 ((aq l0 dV).f1)], .agg #[.int .i64 ((aq l1 fA).f0), .int .i64 ((aq l1 fA).f1)]] (by rfl) rfl rfl MX ?_
           with_reducible refine (xu.calls ((aq l0 dV).f0) ((aq l0 dV).f1) ((aq l1 fA).f0) ((aq l1 fA).f1) true _ A8.out).mono ?_
           rintro e sY ⟨rfl, hb⟩
           refine ⟨_, rfl, ?_⟩
           have af := ax cd hb
           have ag := bn HB hb
           clear cd
           clear HB
           have cd := af
           have HB := ag
           clear af ag
           (try clear hb)
           (try clear hb2)
           (try clear hk)
           (try clear hi)
           refine hK.out _ _ ⟨((HB.out.cell (World.block_lt_of_cell? w _ t6)).trans t6), ((HB.out.cell (World.block_lt_of_cell? w _ tR)).trans tR), ((HB.out.cell (World.block_lt_of_cell? w _ ub)).trans ub), ((HB.out.cell (World.block_lt_of_cell? w _ uu)).trans uu)⟩ (fun hHeld => ?_)
           clear hK K
           refine FM (a' := ?_) ?_ ?_
           rotate_left
           ·show Act.put _ (some 28) _ = _
            simp only [Act.put, List.setIfInBounds_toArray, List.set_cons_zero, List.set_cons_succ, gY, gX]
            rfl
           refine AG (Bd cQ.out (by kernel_rfl)) ?_
           have NZ : 0 ≤ (dV : Int) := of_decide_eq_true AX
           have RA : dV < (l0.length : Int) := of_decide_eq_true AX
           obtain ⟨afJ, aeJ, NP, Q5⟩ := iZ dr.out dV NZ RA
           obtain rfl : uw = afJ := (by injection aeJ)
           replace NP := (HB.out.cell (World.block_lt_of_cell? w _ NP)).trans NP
           replace Q5 := (HB.out.cell (World.block_lt_of_cell? w _ Q5)).trans Q5
           replace NZ := eq_true NZ
           replace RA := eq_true RA
           obtain ⟨agz, ae6, ZG⟩ := Kd.bm cd.out
           subst ZG
           try go_wp2_with (first | ((with_reducible refine dD (f := 43) rfl ?_); refine dC (some 35) rfl rfl Try.func43 (by kernel_rfl) rfl #[.slice agz mI.length ae6, .int .i64 ((aq l0 dV).f0)] rfl MX ?_; (with_reducible refine (d6.calls k2 _ _ mI ((aq l0 dV).f0) AT _ ?aH ?aG rJ.out).mono ?_); (case aH => exact CX ((Kd.b_ cd.out).2.2)); (case aG => exact (Kd.b_ cd.out).2.1); rintro e uX ⟨asS, rfl, aR, hb⟩; refine ⟨_, rfl, ?_⟩; have af := ae.mk (Kd.b7 (RX cd.out) (Kd.aV aR) hb); have ag := ae.mk (Kd.eB (Kd.bh aR (Kd.bg (RX cd.out))) (cG (BX HB.out))); have ah := bn HB hb; clear cd; clear HB; have cd := af; have akp := ag; have HB := ah; clear af ag ah; (try clear hb); (try clear hb2); (try clear hk); (try clear hi); (try clear aR)))
           go_roundg k2
           case measure => have := d1.out; have := eP.out; omega
           case rel => exact ⟨(AT), (wrap64 (fA + 1)), SX, H', ⟨by have := d1.out; have := eP.out; omega⟩, ⟨by (with_reducible repeat (first | apply Kd.nX | apply Kd.ot | apply Kd.jj)); exact Kd.cm akp.out (fun _ hk => trivial)⟩, ⟨BX HB.out⟩⟩
          ·replace c9 := Bool.eq_false_iff.mpr c9
           subst c9
           have H1 : (ec.l1 k2 l0 l1 mI dV (wrap64 (fA + 1))) = some r := by rw [if_neg (show ¬ (false = true) by decide)] at H; exact H
           clear H
           have H := H1
           clear H1
           have H' := ae.mk H
           clear H
           try go_wp2
           have af := ae.mk (Kd.jj cd.out)
           have ag := ae.mk (aT HB.out)
           clear cd
           clear HB
           have cd := af
           have HB := ag
           clear af ag
           have yF : 0 ≤ (dV : Int) := of_decide_eq_true AX
           have yX : dV < (l0.length : Int) := of_decide_eq_true AX
           obtain ⟨uw, M2, rW, q7⟩ := iZ dr.out dV yF yX
           have tR := q7
           have t6 := rW
           cases M2
           replace rW := (HB.out.cell (World.block_lt_of_cell? w _ rW)).trans rW
           replace q7 := (HB.out.cell (World.block_lt_of_cell? w _ q7)).trans q7
           replace yF := eq_true yF
           replace yX := eq_true yX
           have wB : 0 ≤ (fA : Int) := of_decide_eq_true AX
           have wq : fA < (l1.length : Int) := of_decide_eq_true AX
           obtain ⟨xr, MF, rD, rf⟩ := iZ lg.out fA wB wq
           have uu := rf
           have ub := rD
           cases MF
           replace rD := (HB.out.cell (World.block_lt_of_cell? w _ rD)).trans rD
           replace rf := (HB.out.cell (World.block_lt_of_cell? w _ rf)).trans rf
           replace wB := eq_true wB
           replace wq := eq_true wq
           refine Bz (n := 9) (S := fun w' => w'.cell? (uw.add ((dV).toNat * 2)) = some (.int .i64 ((aq l0 dV).f0)) ∧ w'.cell? ⟨(uw.add ((dV).toNat * 2)).block, (uw.add ((dV).toNat * 2)).off + 1, none⟩ = some (.int .i64 ((aq l0 dV).f1)) ∧ w'.cell? (xr.add ((fA).toNat * 2)) = some (.int .i64 ((aq l1 fA).f0)) ∧ w'.cell? ⟨(xr.add ((fA).toNat * 2)).block, (xr.add ((fA).toNat * 2)).off + 1, none⟩ = some (.int .i64 ((aq l1 fA).f1))) (ds := []) #[false, false, false, false, false, false, false, false, false] (by kernel_rfl) rfl rfl ⟨((HB.out.cell (World.block_lt_of_cell? w _ t6)).trans t6), ((HB.out.cell (World.block_lt_of_cell? w _ tR)).trans tR), ((HB.out.cell (World.block_lt_of_cell? w _ ub)).trans ub), ((HB.out.cell (World.block_lt_of_cell? w _ uu)).trans uu)⟩ (fun hHeld => ?_); refine Ac ec.VO ec.TG (fun cQ nz => ?_)
           generalize wr.drew = ug at cd HB rW q7 rD rf hHeld ⊢
           refine PU 0 20 cQ ?_
           refine PU 1 21 cQ ?_
           refine PU 2 22 cQ ?_
           refine PU 4 24 cQ ?_
           refine PU 5 25 cQ ?_
           refine PU 6 26 cQ ?_
           refine TU 3 23 cQ nz hHeld ?_
           refine TU 7 27 cQ nz hHeld ?_
           refine CF (i := 8) (N := some 28) #[true, true, true, true, true, true, true, true, true] rfl rfl (D7 cQ.out (by kernel_rfl)) (by decide) (fun K hK => ?_)
           refine Gt Try.func42 (by kernel_rfl) rfl #[.agg #[.int .i64 ((aq l0 dV).f0), .int .i64 ((aq l0 dV).f1)], .agg #[.int .i64 ((aq l1 fA).f0), .int .i64 ((aq l1 fA).f1)]] (by rfl) rfl rfl MX ?_
           with_reducible refine (xu.calls ((aq l0 dV).f0) ((aq l0 dV).f1) ((aq l1 fA).f0) ((aq l1 fA).f1) false _ A8.out).mono ?_
           rintro e VN ⟨rfl, hb⟩
           refine ⟨_, rfl, ?_⟩
           have af := ax cd hb
           have ag := bn HB hb
           clear cd
           clear HB
           have cd := af
           have HB := ag
           clear af ag
           (try clear hb)
           (try clear hb2)
           (try clear hk)
           (try clear hi)
           refine hK.out _ _ ⟨((HB.out.cell (World.block_lt_of_cell? w _ t6)).trans t6), ((HB.out.cell (World.block_lt_of_cell? w _ tR)).trans tR), ((HB.out.cell (World.block_lt_of_cell? w _ ub)).trans ub), ((HB.out.cell (World.block_lt_of_cell? w _ uu)).trans uu)⟩ (fun hHeld => ?_)
           clear hK K
           refine FM (a' := ?_) ?_ ?_
           rotate_left
           ·show Act.put _ (some 28) _ = _
            simp only [Act.put, List.setIfInBounds_toArray, List.set_cons_zero, List.set_cons_succ, gY, gX]
            rfl
           refine AG (Bd cQ.out (by kernel_rfl)) ?_
           try go_wp2
           go_roundg k2
           case measure => have := d1.out; have := eP.out; omega
           case rel => exact ⟨(mI), (wrap64 (fA + 1)), SX, H', ⟨by have := d1.out; have := eP.out; omega⟩, ⟨RX cd.out⟩, ⟨BX HB.out⟩⟩
         ·rw [if_neg c7] at H
          exact absurd H (by simp)
        ·rw [if_neg c6] at H
         exact absurd H (by simp)
       ·rw [if_neg c5] at H
        exact absurd H (by simp)
      ·rw [if_neg c4] at H
       have nN : decide (fA < (l1.length : Int)) = false := decide_eq_false c4
       clear c4
       have H' := ae.mk H
       clear H
       go_wp2
       go_roundg k2
       case measure => have := d1.out; have := eP.out; omega
       case rel => exact ⟨(mI), (wrap64 (dV + 1)), SX, H', ⟨by have := d1.out; have := eP.out; omega⟩, ⟨RX cd.out⟩, ⟨BX HB.out⟩⟩
   ·rw [if_neg c3] at H
    have kC : decide (dV < (l0.length : Int)) = false := decide_eq_false c3
    clear c3
    obtain rfl := Option.some.inj H
    go_wp2
    go_ret
    exact ⟨_, by first | rfl | (simp [bY, bX] <;> rfl) | (simp [*, bY, bX] <;> rfl), by (with_reducible repeat (first | apply Kd.nX | apply Kd.ot | apply Kd.jj)); exact cd.out, BX HB.out⟩
end Go.Proofs.Ytcfjdehpbckomaa.Q
