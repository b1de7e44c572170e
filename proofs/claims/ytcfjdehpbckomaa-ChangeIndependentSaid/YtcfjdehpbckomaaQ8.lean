
import Derived.Test.YtcfjdehpbckomaaQ0
import Derived.Test.YtcfjdehpbckomaaQ7
namespace Go.Proofs.Ytcfjdehpbckomaa.Q
open Go.RowKit Go.Proofs.YtcfjdehpbckomaaW.dS Go.Proofs.YtcfjdehpbckomaaW.jm Go.Proofs.YtcfjdehpbckomaaW.mm
attribute [local go_sem] mU na nt mX m6 nu mP mW
set_option linter.unusedVariables false
set_option linter.unusedSimpArgs false
/-! ### treemergeref06_weigh: function 62 -/
mutual
def df.j0 : Nat → Int → Bool → Int → ByteArray → List ByteArray → List (aX) → Option (Int)
 | 0, _, _, _, _, _, _ => none
 | k + 1, x1, x19, zX, zf, tI, rR => if x19 = true then (some (-1)) else (df.l0 k (wrap64 (x1 - (zf.size : Int))) 0 zX zf tI rR)
def df.l0 : Nat → Int → Int → Int → ByteArray → List ByteArray → List (aX) → Option (Int)
 | 0, _, _, _, _, _, _ => none
 | k + 1, x5, x6, zX, zf, tI, rR => if x6 < (tI.length : Int) then (if 0 ≤ x6 then (if ((eY ByteArray.empty tI x6).size : Int) ≥ x5 then (some (-1)) else (df.l0 k (wrap64 ((wrap64 (x5 - ((eY ByteArray.empty tI x6).size : Int))) - 1)) (wrap64 (x6 + 1)) zX zf tI rR)) else (none)) else (df.l1 k x5 0 zX zf tI rR)
def df.l1 : Nat → Int → Int → Int → ByteArray → List ByteArray → List (aX) → Option (Int)
 | 0, _, _, _, _, _, _ => none
 | k + 1, x5, x7, zX, zf, tI, rR => if x7 < (rR.length : Int) then (if 0 ≤ x7 then ((df.f k ((dp rR x7).f0) ((dp rR x7).f1) ((dp rR x7).f2) ((dp rR x7).f3) x5).bind fun tU => (if tU < 0 then (some (-1)) else (df.l1 k tU (wrap64 (x7 + 1)) zX zf tI rR))) else (none)) else (some x5)
def df.f : Nat → Int → ByteArray → List ByteArray → List (aX) → Int → Option (Int)
 | 0, _, _, _, _, _ => none
 | k + 1, aE, aA, ay, au, a1 => if (aA.size : Int) > a1 then (df.j0 k a1 true aE aA ay au) else (df.j0 k a1 (decide ((ay.length : Int) > a1)) aE aA ay au)
end
theorem df.fp : ∀ k, (∀ y0 y1 y2 y3 y4, aI (df.f k y0 y1 y2 y3 y4) (df.f (k + 1) y0 y1 y2 y3 y4)) ∧ (∀ y0 y1 y2 y3 y4 y5, aI (df.j0 k y0 y1 y2 y3 y4 y5) (df.j0 (k + 1) y0 y1 y2 y3 y4 y5)) ∧ (∀ y0 y1 y2 y3 y4 y5, aI (df.l0 k y0 y1 y2 y3 y4 y5) (df.l0 (k + 1) y0 y1 y2 y3 y4 y5)) ∧ (∀ y0 y1 y2 y3 y4 y5, aI (df.l1 k y0 y1 y2 y3 y4 y5) (df.l1 (k + 1) y0 y1 y2 y3 y4 y5))
 | 0 => ⟨fun _ _ _ _ _ r h => by simp [df.f] at h, fun _ _ _ _ _ _ r h => by simp [df.j0] at h, fun _ _ _ _ _ _ r h => by simp [df.l0] at h, fun _ _ _ _ _ _ r h => by simp [df.l1] at h⟩
 | k + 1 => by
  obtain ⟨dq, ih1, ih2, ih3⟩ := df.fp k
  refine ⟨?_, ?_, ?_, ?_⟩ <;> intros <;> (first | unfold df.f | unfold df.j0 | unfold df.l0 | unfold df.l1) <;> repeat' first
   | (with_reducible exact dq _ _ _ _ _)
   | (with_reducible exact ih1 _ _ _ _ _ _)
   | (with_reducible exact ih2 _ _ _ _ _ _)
   | (with_reducible exact ih3 _ _ _ _ _ _)
   | (with_reducible exact aI.refl _)
   | (with_reducible exact aI.none _)
   | (with_reducible refine aI.ite ?_ ?_)
   | (with_reducible refine aI.bind ?_ (fun _ => ?_))
   | exact dq _ _ _ _ _
   | exact ih1 _ _ _ _ _ _
   | exact ih2 _ _ _ _ _ _
   | exact ih3 _ _ _ _ _ _
   | exact aI.none _
   | refine aI.ite ?_ ?_
   | refine aI.bind ?_ (fun _ => ?_)
theorem df.mono : ∀ a0 a1 a2 a3 a4 k, aI (df.f k a0 a1 a2 a3 a4) (df.f (k + 1) a0 a1 a2 a3 a4) := by
 intro a0 a1 a2 a3 a4 k
 obtain ⟨dq, ih1, ih2, ih3⟩ := df.fp k
 exact dq a0 a1 a2 a3 a4
set_option maxHeartbeats 8000000 in
set_option maxRecDepth 100000 in
theorem df.calls (k : Nat) : ∀ (aE : Int) (aA : ByteArray) (bB : Option Addr) (bA : Nat) (ay : List ByteArray) (br : Option Addr) (bq : Nat) (au : List (aX)) (a1 : Int) (r : Int) (w : World) (fZ : Kd.C Kd.string w bB ay.length ay) (gg : ay.length ≤ bA) (fC : Kd.C k25 w br au.length au) (fL : au.length ≤ bq) (h : df.f k aE aA ay au a1 = some r),
  Calls Try.prog 62 #[.agg #[.int .i64 aE, .string aA, .slice bB ay.length bA, .slice br au.length bq], .int .i64 a1] w fun e w' => e = .returned (.int .i64 r) ∧ Below w.heap.size w w' := by
 induction k using Nat.strongRecOn with
 | _ k ih =>
 intro aE aA bB bA ay br bq au a1 r w fZ gg fC fL h
 cases k with
 | zero => exact absurd h (by simp [df.f])
 | succ k =>
 simp only [df.f] at h
 have nR := Try.underlying25
 have fU := ae.mk fZ
 have gm := ae.mk gg
 clear fZ gg
 have fm := ae.mk fC
 have f_ := ae.mk fL
 clear fC fL
 have HB := ae.mk (Below.refl w.heap.size w)
 have H : (if (aA.size : Int) > a1 then (df.j0 k a1 true aE aA ay au) else (df.j0 k a1 (decide ((ay.length : Int) > a1)) aE aA ay au)) = some r := h
 clear h
 have rG := ae.mk H
 clear H
 go_enter Try.func62, Try.ntmps62
 go_upto_region 1 with (first | ((with_reducible refine bz (N := 2) rfl ?_); (try (refine gN (by rfl) ?_; dsimp only)); refine bT ?hg (N := 2) ?hd (cs := #[.int .i64 aE, .string aA, .slice bB ay.length bA, .slice br au.length bq]) (t := 25) ?hr ?_; (case hd => rfl); (case hg => rfl); (case hr => first | (go_simp; done) | (go_simp; rfl) | (obtain ⟨_, _, rfl⟩ := Kd.bm (ae.out (by assumption : ae (Kd.R _ _ _ _ _ _ _))); go_simp; done)); intro NJ hg w4 av hb; have af := bn HB hb; have ag := ae.mk (av); have ah := bK HB hg; have am := bK HB hg; clear HB; have HB := af; have jZ := ag; have avg := ah; have sj := am; clear af ag ah am; clear hb av hg))
 (try simp only [Act.put, List.setIfInBounds_toArray, List.set_cons_zero, List.set_cons_succ])
 go_cut [19] (fun v19 wc => ∃ (kq : Nat) (Ij : Bool), v19 = .bool Ij ∧ ae (df.j0 kq a1 Ij aE aA ay au = some r) ∧ ae (kq ≤ k) ∧ ae (wc.heap[NJ]? = some (.cells #[.int .i64 aE, .string aA, (.slice bB ay.length bA), (.slice br au.length bq)] 25 (0, 0))) ∧ ae (Below w.heap.size w wc))
 case first =>
  have H := rG.out
  clear rG
  by_cases c5 : (aA.size : Int) > a1
  ·rw [if_pos c5] at H
   have jn : decide (a1 < (aA.size : Int)) = true := decide_eq_true c5
   clear c5
   (first | rw [jn] | (simp only [gY, gX]; rw [jn]) | skip)
   have H' := ae.mk H
   clear H
   obtain ⟨JC, IU, Jx, JH, Ju, KZ, H8, Jt⟩ := d8 jZ
   go_wp2
   go_meet
   case rel => exact ⟨_, (true), SX, H', ⟨by first | omega | exact Nat.le_refl _⟩, ⟨by (with_reducible repeat (first | refine bf ?_ _ | refine bd ?_ | refine aU ?_ _)); exact jZ.out⟩, ⟨by repeat (first | (with_reducible first | exact HB.out | apply aQ | apply aY | apply aT | refine ao ?_ sj.out) | exact HB.out)⟩⟩
  ·rw [if_neg c5] at H
   have jn : decide (a1 < (aA.size : Int)) = false := decide_eq_false c5
   clear c5
   (first | rw [jn] | (simp only [gY, gX]; rw [jn]) | skip)
   have H' := ae.mk H
   clear H
   obtain ⟨KN, JL, IA, J0, Jb, Ko, JM, KK⟩ := d8 jZ
   go_wp2
   go_meet
   case rel => exact ⟨_, (decide ((ay.length : Int) > a1)), SX, H', ⟨by first | omega | exact Nat.le_refl _⟩, ⟨by (with_reducible repeat (first | refine bf ?_ _ | refine bd ?_ | refine aU ?_ _)); exact jZ.out⟩, ⟨by repeat (first | (with_reducible first | exact HB.out | apply aQ | apply aY | apply aT | refine ao ?_ sj.out) | exact HB.out)⟩⟩
 case rest =>
  clear rG
  try clear p2
  try clear c5
  try clear jn
  try clear c6
  try clear JC
  try clear IU
  try clear Jx
  try clear JH
  try clear KN
  try clear JL
  try clear IA
  try clear J0
  try clear Ju
  try clear KZ
  try clear H8
  try clear Jt
  try clear Jb
  try clear Ko
  try clear JM
  try clear KK
  obtain ⟨kq, Ij, rfl, HA, zU, jZ, HB⟩ := hcut
  cases kq with
  | zero => exact absurd HA.out (by simp [df.j0])
  | succ Rd =>
   have H := HA.out
   clear HA
   simp only [df.j0] at H
   by_cases c8 : Ij = true
   ·subst c8
    have H1 : (some (-1)) = some r := by rw [if_pos rfl] at H; exact H
    clear H
    have H := H1
    clear H1
    obtain rfl := Option.some.inj H
    go_wp2
    go_ret
    exact ⟨by first | rfl | (simp [bY, bX] <;> rfl) | (simp [*, bY, bX] <;> rfl), by repeat (first | (with_reducible first | exact HB.out | apply aQ | apply aY | apply aT | refine ao ?_ sj.out) | exact HB.out)⟩
   ·replace c8 := Bool.eq_false_iff.mpr c8
    subst c8
    have H1 : (df.l0 Rd (wrap64 (a1 - (aA.size : Int))) 0 aE aA ay au) = some r := by rw [if_neg (show ¬ (false = true) by decide)] at H; exact H
    clear H
    have H := H1
    clear H1
    have H' := ae.mk H
    clear H
    obtain ⟨vV, vl, xc, xU, uI, vW, wD, zF⟩ := d8 jZ
    go_wp2
    go_loopg [5, 6] Rd (fun kq v5 v6 w' => ∃ (mI : Int) (la : Int), v5 = .int .i64 mI ∧ v6 = .int .i64 la ∧ ae (df.l0 kq mI la aE aA ay au = some r) ∧ ae (kq ≤ Rd) ∧ ae (w'.heap[NJ]? = some (.cells #[.int .i64 aE, .string aA, (.slice bB ay.length bA), (.slice br au.length bq)] 25 (0, 0))) ∧ ae (Below w.heap.size w w'))
    case atStart => exact ⟨(wrap64 (a1 - (aA.size : Int))), (0), SX, SX, H', ⟨Nat.le_refl _⟩, ⟨by (with_reducible repeat (first | refine bf ?_ _ | refine bd ?_ | refine aU ?_ _)); exact jZ.out⟩, ⟨by repeat (first | (with_reducible first | exact HB.out | apply aQ | apply aY | apply aT | refine ao ?_ sj.out) | exact HB.out)⟩⟩
    case round =>
     clear H'
     try clear p2
     try clear c5
     try clear jn
     try clear c6
     try clear p6
     try clear c8
     try clear JC
     try clear IU
     try clear Jx
     try clear JH
     try clear KN
     try clear JL
     try clear IA
     try clear J0
     try clear vV
     try clear vl
     try clear xc
     try clear xU
     try clear Ju
     try clear KZ
     try clear H8
     try clear Jt
     try clear Jb
     try clear Ko
     try clear JM
     try clear KK
     try clear uI
     try clear vW
     try clear wD
     try clear zF
     try clear p2
     obtain ⟨mI, la, rfl, rfl, HA, eP, jZ, HB⟩ := hrel
     cases gk with
     | zero => exact absurd HA.out (by simp [df.l0])
     | succ k2 =>
      have H := HA.out
      clear HA
      simp only [df.l0] at H
      by_cases dO : la < (ay.length : Int)
      ·rw [if_pos dO] at H
       have k6 : decide (la < (ay.length : Int)) = true := decide_eq_true dO
       clear dO
       by_cases gf : 0 ≤ la
       ·rw [if_pos gf] at H
        have BW : decide (0 ≤ la) = true := decide_eq_true gf
        clear gf
        by_cases ji : ((eY ByteArray.empty ay la).size : Int) ≥ mI
        ·rw [if_pos ji] at H
         have NK : decide (mI ≤ ((eY ByteArray.empty ay la).size : Int)) = true := decide_eq_true ji
         clear ji
         obtain rfl := Option.some.inj H
         obtain ⟨tB, tt, vt, vR, tK, ul, u1, vw⟩ := d8 jZ
         have uZ : 0 ≤ (la : Int) := of_decide_eq_true AX
         have uJ : la < (ay.length : Int) := of_decide_eq_true AX
         obtain ⟨UN, e258, u7⟩ := Kd.rh fU.out la uZ uJ
         cases e258
         replace u7 := (HB.out.cell (World.block_lt_of_cell? w _ u7)).trans u7
         replace uZ := eq_true uZ
         replace uJ := eq_true uJ
         go_wp2
         go_ret
         exact ⟨by first | rfl | (simp [bY, bX] <;> rfl) | (simp [*, bY, bX] <;> rfl), by repeat (first | (with_reducible first | exact HB.out | apply aQ | apply aY | apply aT | refine ao ?_ sj.out) | exact HB.out)⟩
        ·rw [if_neg ji] at H
         have NK : decide (mI ≤ ((eY ByteArray.empty ay la).size : Int)) = false := decide_eq_false ji
         clear ji
         have H' := ae.mk H
         clear H
         obtain ⟨FF, G', If, Jk, DH, EI, KE, KG⟩ := d8 jZ
         have uZ : 0 ≤ (la : Int) := of_decide_eq_true AX
         have uJ : la < (ay.length : Int) := of_decide_eq_true AX
         obtain ⟨UN, e258, u7⟩ := Kd.rh fU.out la uZ uJ
         cases e258
         replace u7 := (HB.out.cell (World.block_lt_of_cell? w _ u7)).trans u7
         replace uZ := eq_true uZ
         replace uJ := eq_true uJ
         have JT : 0 ≤ (la : Int) := of_decide_eq_true AX
         have KD : la < (ay.length : Int) := of_decide_eq_true AX
         obtain ⟨ahM, aaA, JI⟩ := Kd.rh fU.out la JT KD
         obtain rfl : UN = ahM := (by injection aaA)
         replace JI := (HB.out.cell (World.block_lt_of_cell? w _ JI)).trans JI
         replace JT := eq_true JT
         replace KD := eq_true KD
         go_wp2
         go_roundg k2
         case measure => have := zU.out; have := eP.out; omega
         case rel => exact ⟨(wrap64 ((wrap64 (mI - ((eY ByteArray.empty ay la).size : Int))) - 1)), (wrap64 (la + 1)), SX, SX, H', ⟨by have := zU.out; have := eP.out; omega⟩, ⟨by (with_reducible repeat (first | refine bf ?_ _ | refine bd ?_ | refine aU ?_ _)); exact jZ.out⟩, ⟨by repeat (first | (with_reducible first | exact HB.out | apply aQ | apply aY | apply aT | refine ao ?_ sj.out) | exact HB.out)⟩⟩
       ·rw [if_neg gf] at H
        exact absurd H (by simp)
      ·rw [if_neg dO] at H
       have k6 : decide (la < (ay.length : Int)) = false := decide_eq_false dO
       clear dO
       have H' := ae.mk H
       clear H
       obtain ⟨Pl, Pj, SV, Yw, N_, O8, Vc, Uq⟩ := d8 jZ
       go_wp2
       go_loopg [5, 7] k2 (fun kq v5 v7 w' => ∃ (zn : Int) (iy : Int), v5 = .int .i64 zn ∧ v7 = .int .i64 iy ∧ ae (df.l1 kq zn iy aE aA ay au = some r) ∧ ae (kq ≤ k2) ∧ ae (w'.heap[NJ]? = some (.cells #[.int .i64 aE, .string aA, (.slice bB ay.length bA), (.slice br au.length bq)] 25 (0, 0))) ∧ ae (Below w.heap.size w w'))
       case atStart => exact ⟨(mI), (0), SX, SX, H', ⟨Nat.le_refl _⟩, ⟨by (with_reducible repeat (first | refine bf ?_ _ | refine bd ?_ | refine aU ?_ _)); exact jZ.out⟩, ⟨by repeat (first | (with_reducible first | exact HB.out | apply aQ | apply aY | apply aT | refine ao ?_ sj.out) | exact HB.out)⟩⟩
       case round =>
        clear H'
        try clear c1
        try clear p2
        try clear q2
        try clear hx2
        try clear c5
        try clear jn
        try clear c6
        try clear p6
        try clear c8
        try clear dO
        try clear k6
        try clear gf
        try clear BW
        try clear ji
        try clear NK
        try clear tB
        try clear tt
        try clear vt
        try clear vR
        try clear FF
        try clear G'
        try clear If
        try clear Jk
        try clear Pl
        try clear Pj
        try clear SV
        try clear Yw
        try clear JC
        try clear IU
        try clear Jx
        try clear JH
        try clear KN
        try clear JL
        try clear IA
        try clear J0
        try clear vV
        try clear vl
        try clear xc
        try clear xU
        try clear tK
        try clear ul
        try clear u1
        try clear vw
        try clear DH
        try clear EI
        try clear KE
        try clear KG
        try clear N_
        try clear O8
        try clear Vc
        try clear Uq
        try clear Ju
        try clear KZ
        try clear H8
        try clear Jt
        try clear Jb
        try clear Ko
        try clear JM
        try clear KK
        try clear uI
        try clear vW
        try clear wD
        try clear zF
        try clear u7
        try clear JI
        try clear p2
        try clear uZ
        try clear JT
        try clear p6
        try clear uJ
        try clear KD
        obtain ⟨zn, iy, rfl, rfl, HA, mH, jZ, HB⟩ := hrel
        cases gk with
        | zero => exact absurd HA.out (by simp [df.l1])
        | succ k3 =>
         have H := HA.out
         clear HA
         simp only [df.l1] at H
         by_cases en : iy < (au.length : Int)
         ·rw [if_pos en] at H
          have sy : decide (iy < (au.length : Int)) = true := decide_eq_true en
          clear en
          by_cases ip : 0 ≤ iy
          ·rw [if_pos ip] at H
           have zO : decide (0 ≤ iy) = true := decide_eq_true ip
           clear ip
           replace H := Option.bind_eq_some_iff.mp H
           obtain ⟨tU, Sv, H⟩ := H
           have UG := ae.mk Sv
           clear Sv
           by_cases kI : tU < 0
           ·rw [if_pos kI] at H
            have Lw : decide (tU < 0) = true := decide_eq_true kI
            clear kI
            obtain rfl := Option.some.inj H
            obtain ⟨s_, tc, wJ, yY, tb, ut, zk, xl⟩ := d8 jZ
            have wC : 0 ≤ (iy : Int) := of_decide_eq_true AX
            have yi : iy < (au.length : Int) := of_decide_eq_true AX
            obtain ⟨acY, QB, Sb, M8, Ro, R8, wZ, xT, ya, yl, DY, Cs, GV, DX⟩ := FT fm.out iy wC yi
            cases R8
            replace wZ := (HB.out.cell (World.block_lt_of_cell? w _ wZ)).trans wZ
            replace xT := (HB.out.cell (World.block_lt_of_cell? w _ xT)).trans xT
            replace ya := (HB.out.cell (World.block_lt_of_cell? w _ ya)).trans ya
            replace yl := (HB.out.cell (World.block_lt_of_cell? w _ yl)).trans yl
            have RT := ae.mk Cs
            have Np := ae.mk DY
            clear Cs DY
            have NW := ae.mk DX
            have OX := ae.mk GV
            clear DX GV
            replace wC := eq_true wC
            replace yi := eq_true yi
            go_wp2_with (first | ((with_reducible refine dD (f := 62) rfl ?_); refine dC (some 62) rfl rfl Try.func62 (by kernel_rfl) rfl #[.agg #[.int .i64 ((dp au iy).f0), .string ((dp au iy).f1), .slice QB ((dp au iy).f2).length Sb, .slice M8 ((dp au iy).f3).length Ro], .int .i64 zn] rfl MX ?_; (with_reducible refine (ih k3 (by have := zU.out; have := eP.out; have := mH.out; omega) ((dp au iy).f0) ((dp au iy).f1) _ _ ((dp au iy).f2) _ _ ((dp au iy).f3) zn tU _ ?aH ?aG ?bt ?bv UG.out).mono ?_); (case aH => exact CX (Kd.aC RT.out HB.out)); (case aG => exact Np.out); (case bt => exact CX (Kd.aC NW.out HB.out)); (case bv => exact OX.out); rintro e Ez ⟨rfl, hb⟩; refine ⟨_, rfl, ?_⟩; have af := bw jZ hb; have ag := bn HB hb; clear jZ; clear HB; have jZ := af; have HB := ag; clear af ag; (try clear hb); (try clear hb2); (try clear hk); (try clear hi)))
            go_ret
            exact ⟨by first | rfl | (simp [bY, bX] <;> rfl) | (simp [*, bY, bX] <;> rfl), by repeat (first | (with_reducible first | exact HB.out | apply aQ | apply aY | apply aT | refine ao ?_ sj.out) | exact HB.out)⟩
           ·rw [if_neg kI] at H
            have Lw : decide (tU < 0) = false := decide_eq_false kI
            clear kI
            have H' := ae.mk H
            clear H
            obtain ⟨M1, Qa, Ox, QH, Lu, Se, Mu, QP⟩ := d8 jZ
            have wC : 0 ≤ (iy : Int) := of_decide_eq_true AX
            have yi : iy < (au.length : Int) := of_decide_eq_true AX
            obtain ⟨acY, QB, Sb, M8, Ro, R8, wZ, xT, ya, yl, DY, Cs, GV, DX⟩ := FT fm.out iy wC yi
            cases R8
            replace wZ := (HB.out.cell (World.block_lt_of_cell? w _ wZ)).trans wZ
            replace xT := (HB.out.cell (World.block_lt_of_cell? w _ xT)).trans xT
            replace ya := (HB.out.cell (World.block_lt_of_cell? w _ ya)).trans ya
            replace yl := (HB.out.cell (World.block_lt_of_cell? w _ yl)).trans yl
            have RT := ae.mk Cs
            have Np := ae.mk DY
            clear Cs DY
            have NW := ae.mk DX
            have OX := ae.mk GV
            clear DX GV
            replace wC := eq_true wC
            replace yi := eq_true yi
            go_wp2_with (first | ((with_reducible refine dD (f := 62) rfl ?_); refine dC (some 62) rfl rfl Try.func62 (by kernel_rfl) rfl #[.agg #[.int .i64 ((dp au iy).f0), .string ((dp au iy).f1), .slice QB ((dp au iy).f2).length Sb, .slice M8 ((dp au iy).f3).length Ro], .int .i64 zn] rfl MX ?_; (with_reducible refine (ih k3 (by have := zU.out; have := eP.out; have := mH.out; omega) ((dp au iy).f0) ((dp au iy).f1) _ _ ((dp au iy).f2) _ _ ((dp au iy).f3) zn tU _ ?aH ?aG ?bt ?bv UG.out).mono ?_); (case aH => exact CX (Kd.aC RT.out HB.out)); (case aG => exact Np.out); (case bt => exact CX (Kd.aC NW.out HB.out)); (case bv => exact OX.out); rintro e VP ⟨rfl, hb⟩; refine ⟨_, rfl, ?_⟩; have af := bw jZ hb; have ag := bn HB hb; clear jZ; clear HB; have jZ := af; have HB := ag; clear af ag; (try clear hb); (try clear hb2); (try clear hk); (try clear hi)))
            go_roundg k3
            case measure => have := zU.out; have := eP.out; have := mH.out; omega
            case rel => exact ⟨(tU), (wrap64 (iy + 1)), SX, SX, H', ⟨by have := zU.out; have := eP.out; have := mH.out; omega⟩, ⟨by (with_reducible repeat (first | refine bf ?_ _ | refine bd ?_ | refine aU ?_ _)); exact jZ.out⟩, ⟨by repeat (first | (with_reducible first | exact HB.out | apply aQ | apply aY | apply aT | refine ao ?_ sj.out) | exact HB.out)⟩⟩
          ·rw [if_neg ip] at H
           exact absurd H (by simp)
         ·rw [if_neg en] at H
          have sy : decide (iy < (au.length : Int)) = false := decide_eq_false en
          clear en
          obtain rfl := Option.some.inj H
          obtain ⟨IT, Je, PZ, Qj, Lc, Jr, RG, RF⟩ := d8 jZ
          go_wp2
          go_ret
          exact ⟨by first | rfl | (simp [bY, bX] <;> rfl) | (simp [*, bY, bX] <;> rfl), by repeat (first | (with_reducible first | exact HB.out | apply aQ | apply aY | apply aT | refine ao ?_ sj.out) | exact HB.out)⟩
def qe.f (k : Nat) (aE : Int) (aA : ByteArray) (ay : List ByteArray) (au : List (aX)) (a1 : Int) (a2 : Int) (a3 : Int) : Option (Bool) := (ql.f k aE aA ay au a1 a2).bind fun EL => (if EL = true then ((df.f k aE aA ay au a3).bind fun xk => (some (decide (xk ≥ 0)))) else (some false))
theorem qe.mono : ∀ a0 a1 a2 a3 a4 a5 a6 k, aI (qe.f k a0 a1 a2 a3 a4 a5 a6) (qe.f (k + 1) a0 a1 a2 a3 a4 a5 a6) := by
 intro a0 a1 a2 a3 a4 a5 a6 k
 unfold qe.f
 repeat' first
   | (with_reducible exact ql.mono _ _ _ _ _ _ _)
   | (with_reducible exact df.mono _ _ _ _ _ _)
   | (with_reducible exact aI.refl _)
   | (with_reducible exact aI.none _)
   | (with_reducible refine aI.ite ?_ ?_)
   | (with_reducible refine aI.bind ?_ (fun _ => ?_))
set_option maxHeartbeats 8000000 in
set_option maxRecDepth 100000 in
theorem qe.calls (k : Nat) (aE : Int) (aA : ByteArray) (bB : Option Addr) (bA : Nat) (ay : List ByteArray) (br : Option Addr) (bq : Nat) (au : List (aX)) (a1 : Int) (a2 : Int) (a3 : Int) (r : Bool) (w : World) (fZ : Kd.C Kd.string w bB ay.length ay) (gg : ay.length ≤ bA) (fC : Kd.C k25 w br au.length au) (fL : au.length ≤ bq) (h : qe.f k aE aA ay au a1 a2 a3 = some r) :
  Calls Try.prog 48 #[.agg #[.int .i64 aE, .string aA, .slice bB ay.length bA, .slice br au.length bq], .int .i64 a1, .int .i64 a2, .int .i64 a3] w fun e w' => e = .returned (.bool r) ∧ Below w.heap.size w w' := by
 have nR := Try.underlying25
 have fU := ae.mk fZ
 have gm := ae.mk gg
 clear fZ gg
 have fm := ae.mk fC
 have f_ := ae.mk fL
 clear fC fL
 have HB := ae.mk (Below.refl w.heap.size w)
 have H : ((ql.f k aE aA ay au a1 a2).bind fun EL => (if EL = true then ((df.f k aE aA ay au a3).bind fun xk => (some (decide (xk ≥ 0)))) else (some false))) = some r := h
 clear h
 replace H := Option.bind_eq_some_iff.mp H
 obtain ⟨EL, lW, H⟩ := H
 have A5 := ae.mk lW
 clear lW
 by_cases c6 : EL = true
 ·subst c6
  have H1 : ((df.f k aE aA ay au a3).bind fun xk => (some (decide (xk ≥ 0)))) = some r := by rw [if_pos rfl] at H; exact H
  clear H
  have H := H1
  clear H1
  replace H := Option.bind_eq_some_iff.mp H
  obtain ⟨xk, nc, H⟩ := H
  have A7 := ae.mk nc
  clear nc
  obtain rfl := Option.some.inj H
  go_enter Try.func48, Try.ntmps48
  go_wp2_with (first | ((with_reducible refine bz (N := 4) rfl ?_); refine bT ?hg (N := 4) ?hd (cs := #[.int .i64 aE, .string aA, .slice bB ay.length bA, .slice br au.length bq]) (t := 25) ?hr ?_; (case hd => rfl); (case hg => rfl); (case hr => first | (go_simp; done) | (go_simp; rfl) | (obtain ⟨_, _, rfl⟩ := Kd.bm (ae.out (by assumption : ae (Kd.R _ _ _ _ _ _ _))); go_simp; done)); intro ZZ hg w8 av hb; have af := bn HB hb; have ag := ae.mk (av); have ah := bK HB hg; have am := bK HB hg; clear HB; have HB := af; have pE := ag; have ahI := ah; have Pf := am; clear af ag ah am; clear hb av hg; obtain ⟨vV, vl, xc, xU, uI, vW, wD, zF⟩ := d8 pE) | ((with_reducible refine dD (f := 61) rfl ?_); refine dC (some 12) rfl rfl Try.func61 (by kernel_rfl) rfl #[.agg #[.int .i64 aE, .string aA, .slice bB ay.length bA, .slice br au.length bq], .int .i64 a1, .int .i64 a2] rfl MX ?_; (with_reducible refine (ql.calls k aE aA _ _ ay _ _ au a1 a2 true _ ?aH ?aG ?bt ?bv A5.out).mono ?_); (case aH => exact CX (Kd.aC fU.out HB.out)); (case aG => exact gm.out); (case bt => exact CX (Kd.aC fm.out HB.out)); (case bv => exact f_.out); rintro e pv ⟨rfl, hb⟩; refine ⟨_, rfl, ?_⟩; have af := bw pE hb; have ag := bn HB hb; clear pE; clear HB; have pE := af; have HB := ag; clear af ag; (try clear hb); (try clear hb2); (try clear hk); (try clear hi); obtain ⟨yH, wi, xE, zx, zJ, wg, xS, xa⟩ := d8 pE) | (go_at_call 62; (with_reducible refine (df.calls k aE aA _ _ ay _ _ au a3 xk _ ?aH ?aG ?bt ?bv A7.out).mono ?_); (case aH => exact CX (Kd.aC fU.out HB.out)); (case aG => exact gm.out); (case bt => exact CX (Kd.aC fm.out HB.out)); (case bv => exact f_.out); rintro e sY ⟨rfl, hb⟩; have af := bw pE hb; have ag := bn HB hb; clear pE; clear HB; have pE := af; have HB := ag; clear af ag; (try clear hb); (try clear hb2); (try clear hk); (try clear hi)))
  go_ret
  exact ⟨by first | rfl | (simp [bY, bX] <;> rfl) | (simp [*, bY, bX] <;> rfl), by repeat (first | (with_reducible first | exact HB.out | apply aQ | apply aY | apply aT | refine ao ?_ Pf.out) | exact HB.out)⟩
 ·replace c6 := Bool.eq_false_iff.mpr c6
  subst c6
  have H1 : (some false) = some r := by rw [if_neg (show ¬ (false = true) by decide)] at H; exact H
  clear H
  have H := H1
  clear H1
  obtain rfl := Option.some.inj H
  go_enter Try.func48, Try.ntmps48
  go_wp2_with (first | ((with_reducible refine bz (N := 4) rfl ?_); refine bT ?hg (N := 4) ?hd (cs := #[.int .i64 aE, .string aA, .slice bB ay.length bA, .slice br au.length bq]) (t := 25) ?hr ?_; (case hd => rfl); (case hg => rfl); (case hr => first | (go_simp; done) | (go_simp; rfl) | (obtain ⟨_, _, rfl⟩ := Kd.bm (ae.out (by assumption : ae (Kd.R _ _ _ _ _ _ _))); go_simp; done)); intro ZZ hg DG av hb; have af := bn HB hb; have ag := ae.mk (av); have ah := bK HB hg; have am := bK HB hg; clear HB; have HB := af; have pE := ag; have ahI := ah; have Pf := am; clear af ag ah am; clear hb av hg; obtain ⟨FF, G', If, Jk, DH, EI, KE, KG⟩ := d8 pE) | ((with_reducible refine dD (f := 61) rfl ?_); refine dC (some 12) rfl rfl Try.func61 (by kernel_rfl) rfl #[.agg #[.int .i64 aE, .string aA, .slice bB ay.length bA, .slice br au.length bq], .int .i64 a1, .int .i64 a2] rfl MX ?_; (with_reducible refine (ql.calls k aE aA _ _ ay _ _ au a1 a2 false _ ?aH ?aG ?bt ?bv A5.out).mono ?_); (case aH => exact CX (Kd.aC fU.out HB.out)); (case aG => exact gm.out); (case bt => exact CX (Kd.aC fm.out HB.out)); (case bv => exact f_.out); rintro e ug ⟨rfl, hb⟩; refine ⟨_, rfl, ?_⟩; have af := bw pE hb; have ag := bn HB hb; clear pE; clear HB; have pE := af; have HB := ag; clear af ag; (try clear hb); (try clear hb2); (try clear hk); (try clear hi)))
  go_ret
  exact ⟨by first | rfl | (simp [bY, bX] <;> rfl) | (simp [*, bY, bX] <;> rfl), by repeat (first | (with_reducible first | exact HB.out | apply aQ | apply aY | apply aT | refine ao ?_ Pf.out) | exact HB.out)⟩
def ig.f (k : Nat) (aE : Int) (aA : ByteArray) (ay : List ByteArray) (au : List (aX)) : Option (Bool) := (qe.f k aE aA ay au 60 60 1000).bind fun Cj => (some Cj)
theorem ig.mono : ∀ a0 a1 a2 a3 k, aI (ig.f k a0 a1 a2 a3) (ig.f (k + 1) a0 a1 a2 a3) := by
 intro a0 a1 a2 a3 k
 unfold ig.f
 repeat' first
   | (with_reducible exact qe.mono _ _ _ _ _ _ _ _)
   | (with_reducible exact aI.refl _)
   | (with_reducible exact aI.none _)
   | (with_reducible refine aI.ite ?_ ?_)
   | (with_reducible refine aI.bind ?_ (fun _ => ?_))
set_option maxHeartbeats 8000000 in
set_option maxRecDepth 100000 in
theorem ig.calls (k : Nat) (aE : Int) (aA : ByteArray) (bB : Option Addr) (bA : Nat) (ay : List ByteArray) (br : Option Addr) (bq : Nat) (au : List (aX)) (r : Bool) (w : World) (fZ : Kd.C Kd.string w bB ay.length ay) (gg : ay.length ≤ bA) (fC : Kd.C k25 w br au.length au) (fL : au.length ≤ bq) (h : ig.f k aE aA ay au = some r) :
  Calls Try.prog 21 #[.agg #[.int .i64 aE, .string aA, .slice bB ay.length bA, .slice br au.length bq]] w fun e w' => e = .returned (.bool r) ∧ Below w.heap.size w w' := by
 have nR := Try.underlying25
 have fU := ae.mk fZ
 have gm := ae.mk gg
 clear fZ gg
 have fm := ae.mk fC
 have f_ := ae.mk fL
 clear fC fL
 have HB := ae.mk (Below.refl w.heap.size w)
 have H : ((qe.f k aE aA ay au 60 60 1000).bind fun Cj => (some Cj)) = some r := h
 clear h
 replace H := Option.bind_eq_some_iff.mp H
 obtain ⟨Cj, rE, H⟩ := H
 have A2 := ae.mk rE
 clear rE
 obtain rfl := Option.some.inj H
 go_enter Try.func21, Try.ntmps21
 go_wp2_with (first | ((with_reducible refine bz (N := 1) rfl ?_); refine bT ?hg (N := 1) ?hd (cs := #[.int .i64 aE, .string aA, .slice bB ay.length bA, .slice br au.length bq]) (t := 25) ?hr ?_; (case hd => rfl); (case hg => rfl); (case hr => first | (go_simp; done) | (go_simp; rfl) | (obtain ⟨_, _, rfl⟩ := Kd.bm (ae.out (by assumption : ae (Kd.R _ _ _ _ _ _ _))); go_simp; done)); intro akK hg w3 av hb; have af := bn HB hb; have ag := ae.mk (av); have ah := bK HB hg; have am := bK HB hg; clear HB; have HB := af; have IG := ag; have awY := ah; have aeK := am; clear af ag ah am; clear hb av hg; obtain ⟨amy, apE, axw, alH, anU, ar6, auP, apm⟩ := d8 IG) | ((with_reducible refine dD (f := 48) rfl ?_); refine dC (some 4) rfl rfl Try.func48 (by kernel_rfl) rfl #[.agg #[.int .i64 aE, .string aA, .slice bB ay.length bA, .slice br au.length bq], .int .i64 60, .int .i64 60, .int .i64 1000] rfl MX ?_; (with_reducible refine (qe.calls k aE aA _ _ ay _ _ au 60 60 1000 Cj _ ?aH ?aG ?bt ?bv A2.out).mono ?_); (case aH => exact CX (Kd.aC fU.out HB.out)); (case aG => exact gm.out); (case bt => exact CX (Kd.aC fm.out HB.out)); (case bv => exact f_.out); rintro e w5 ⟨rfl, hb⟩; refine ⟨_, rfl, ?_⟩; have af := bw IG hb; have ag := bn HB hb; clear IG; clear HB; have IG := af; have HB := ag; clear af ag; (try clear hb); (try clear hb2); (try clear hk); (try clear hi)))
 go_ret
 exact ⟨by first | rfl | (simp [bY, bX] <;> rfl) | (simp [*, bY, bX] <;> rfl), by repeat (first | (with_reducible first | exact HB.out | apply aQ | apply aY | apply aT | refine ao ?_ aeK.out) | exact HB.out)⟩
def oA.f (k : Nat) (aE : Int) (aA : ByteArray) (ay : List ByteArray) (au : List (aX)) (ew : Int) (eH : ByteArray) (dI : List ByteArray) (dF : List (aX)) (ev : Int) (eC : ByteArray) (dG : List ByteArray) (dJ : List (aX)) (dz : List Int) (dy : List Int) (dX : List Int) (fj : Int) : Option (Bool) := (ig.f k aE aA ay au).bind fun GE => (if GE = true then ((ig.f k ew eH dI dF).bind fun wV => (if wV = true then ((ig.f k ev eC dG dJ).bind fun um => (if um = true then (if (dz.length : Int) ≤ 60 then (if (dy.length : Int) ≤ 60 then (some (decide ((dX.length : Int) ≤ 60))) else (some false)) else (some false)) else (some false))) else (some false))) else (some false))
theorem oA.mono : ∀ a0 a1 a2 a3 a4 a5 a6 a7 a8 a9 mq mj a12 o4 o6 pb k, aI (oA.f k a0 a1 a2 a3 a4 a5 a6 a7 a8 a9 mq mj a12 o4 o6 pb) (oA.f (k + 1) a0 a1 a2 a3 a4 a5 a6 a7 a8 a9 mq mj a12 o4 o6 pb) := by
 intro a0 a1 a2 a3 a4 a5 a6 a7 a8 a9 mq mj a12 o4 o6 pb k
 unfold oA.f
 repeat' first
   | (with_reducible exact ig.mono _ _ _ _ _)
   | (with_reducible exact aI.refl _)
   | (with_reducible exact aI.none _)
   | (with_reducible refine aI.ite ?_ ?_)
   | (with_reducible refine aI.bind ?_ (fun _ => ?_))
set_option maxHeartbeats 8000000 in
set_option maxRecDepth 100000 in
theorem oA.calls (k : Nat) (aE : Int) (aA : ByteArray) (bB : Option Addr) (bA : Nat) (ay : List ByteArray) (br : Option Addr) (bq : Nat) (au : List (aX)) (ew : Int) (eH : ByteArray) (iH : Option Addr) (iq : Nat) (dI : List ByteArray) (iF : Option Addr) (iI : Nat) (dF : List (aX)) (ev : Int) (eC : ByteArray) (iC : Option Addr) (iD : Nat) (dG : List ByteArray) (il : Option Addr) (io : Nat) (dJ : List (aX)) (iw : Option Addr) (im : Nat) (dz : List Int) (iG : Option Addr) (iA : Nat) (dy : List Int) (iJ : Option Addr) (iu : Nat) (dX : List Int) (fj : Int) (r : Bool) (w : World) (fZ : Kd.C Kd.string w bB ay.length ay) (gg : ay.length ≤ bA) (fC : Kd.C k25 w br au.length au) (fL : au.length ≤ bq) (Cl : Kd.C Kd.string w iH dI.length dI) (Di : dI.length ≤ iq) (Dt : Kd.C k25 w iF dF.length dF) (Cm : dF.length ≤ iI) (FO : Kd.C Kd.string w iC dG.length dG) (Da : dG.length ≤ iD) (F4 : Kd.C k25 w il dJ.length dJ) (D4 : dJ.length ≤ io) (EH : Kd.C (Kd.int .i64) w iw dz.length dz) (Dc : dz.length ≤ im) (F8 : Kd.C (Kd.int .i64) w iG dy.length dy) (Dy : dy.length ≤ iA) (Ho : Kd.C (Kd.int .i64) w iJ dX.length dX) (FD : dX.length ≤ iu) (h : oA.f k aE aA ay au ew eH dI dF ev eC dG dJ dz dy dX fj = some r) :
  Calls Try.prog 16 #[.agg #[.int .i64 aE, .string aA, .slice bB ay.length bA, .slice br au.length bq, .int .i64 ew, .string eH, .slice iH dI.length iq, .slice iF dF.length iI, .int .i64 ev, .string eC, .slice iC dG.length iD, .slice il dJ.length io, .slice iw dz.length im, .slice iG dy.length iA, .slice iJ dX.length iu, .int .i64 fj]] w fun e w' => e = .returned (.bool r) ∧ Below w.heap.size w w' := by
 have aeR := Try.underlying42
 have nR := Try.underlying25
 have fU := ae.mk fZ
 have gm := ae.mk gg
 clear fZ gg
 have fm := ae.mk fC
 have f_ := ae.mk fL
 clear fC fL
 have nT := ae.mk Cl
 have n9 := ae.mk Di
 clear Cl Di
 have oh := ae.mk Dt
 have n_ := ae.mk Cm
 clear Dt Cm
 have oR := ae.mk FO
 have oy := ae.mk Da
 clear FO Da
 have oD := ae.mk F4
 have oQ := ae.mk D4
 clear F4 D4
 have q6 := ae.mk EH
 have rl := ae.mk Dc
 clear EH Dc
 have rb := ae.mk F8
 have rM := ae.mk Dy
 clear F8 Dy
 have qP := ae.mk Ho
 have q8 := ae.mk FD
 clear Ho FD
 have HB := ae.mk (Below.refl w.heap.size w)
 have H : ((ig.f k aE aA ay au).bind fun GE => (if GE = true then ((ig.f k ew eH dI dF).bind fun wV => (if wV = true then ((ig.f k ev eC dG dJ).bind fun um => (if um = true then (if (dz.length : Int) ≤ 60 then (if (dy.length : Int) ≤ 60 then (some (decide ((dX.length : Int) ≤ 60))) else (some false)) else (some false)) else (some false))) else (some false))) else (some false))) = some r := h
 clear h
 replace H := Option.bind_eq_some_iff.mp H
 obtain ⟨GE, rE, H⟩ := H
 have A2 := ae.mk rE
 clear rE
 by_cases c3 : GE = true
 ·subst c3
  have H1 : ((ig.f k ew eH dI dF).bind fun wV => (if wV = true then ((ig.f k ev eC dG dJ).bind fun um => (if um = true then (if (dz.length : Int) ≤ 60 then (if (dy.length : Int) ≤ 60 then (some (decide ((dX.length : Int) ≤ 60))) else (some false)) else (some false)) else (some false))) else (some false))) = some r := by rw [if_pos rfl] at H; exact H
  clear H
  have H := H1
  clear H1
  replace H := Option.bind_eq_some_iff.mp H
  obtain ⟨wV, rx, H⟩ := H
  have A4 := ae.mk rx
  clear rx
  by_cases c5 : wV = true
  ·subst c5
   have H1 : ((ig.f k ev eC dG dJ).bind fun um => (if um = true then (if (dz.length : Int) ≤ 60 then (if (dy.length : Int) ≤ 60 then (some (decide ((dX.length : Int) ≤ 60))) else (some false)) else (some false)) else (some false))) = some r := by rw [if_pos rfl] at H; exact H
   clear H
   have H := H1
   clear H1
   replace H := Option.bind_eq_some_iff.mp H
   obtain ⟨um, pB, H⟩ := H
   have A6 := ae.mk pB
   clear pB
   by_cases c7 : um = true
   ·subst c7
    have H1 : (if (dz.length : Int) ≤ 60 then (if (dy.length : Int) ≤ 60 then (some (decide ((dX.length : Int) ≤ 60))) else (some false)) else (some false)) = some r := by rw [if_pos rfl] at H; exact H
    clear H
    have H := H1
    clear H1
    by_cases c8 : (dz.length : Int) ≤ 60
    ·rw [if_pos c8] at H
     have kc : decide ((dz.length : Int) ≤ 60) = true := decide_eq_true c8
     have mz : decide (dz.length ≤ 60) = true := decide_eq_true (by omega)
     clear c8
     by_cases c9 : (dy.length : Int) ≤ 60
     ·rw [if_pos c9] at H
      have BO : decide ((dy.length : Int) ≤ 60) = true := decide_eq_true c9
      have ajv : decide (dy.length ≤ 60) = true := decide_eq_true (by omega)
      clear c9
      obtain rfl := Option.some.inj H
      go_enter Try.func16, Try.ntmps16
      go_wp2_with (first | ((with_reducible refine bz (N := 1) rfl ?_); (try (refine gN (by rfl) ?_; dsimp only)); refine bT ?hg (N := 1) ?hd (cs := #[.int .i64 aE, .string aA, .slice bB ay.length bA, .slice br au.length bq, .int .i64 ew, .string eH, .slice iH dI.length iq, .slice iF dF.length iI, .int .i64 ev, .string eC, .slice iC dG.length iD, .slice il dJ.length io, .slice iw dz.length im, .slice iG dy.length iA, .slice iJ dX.length iu, .int .i64 fj]) (t := 42) ?hr ?_; (case hd => rfl); (case hg => rfl); (case hr => first | (go_simp; done) | (go_simp; rfl) | (obtain ⟨_, _, rfl⟩ := Kd.bm (ae.out (by assumption : ae (Kd.R _ _ _ _ _ _ _))); go_simp; done)); intro Ea hg pv av hb; have af := bn HB hb; have ag := ae.mk (av); have ah := bK HB hg; have am := bK HB hg; clear HB; have HB := af; have dl := ag; have CW := ah; have rz := am; clear af ag ah am; clear hb av hg; obtain ⟨yH, wi, xE, zx, aq2, amA, ays, apA, aqs, as7, alp, arP, an6, av4, amR, auu, zJ, wg, xS, xa, aqI, axB, aqd, aoj, arf, auU, ak3, asa, aoT, apq, atW, apf⟩ := i' dl) | ((with_reducible refine dD (f := 21) rfl ?_); refine dC (some 5) rfl rfl Try.func21 (by kernel_rfl) rfl #[.agg #[.int .i64 aE, .string aA, .slice bB ay.length bA, .slice br au.length bq]] rfl MX ?_; (with_reducible refine (ig.calls k aE aA _ _ ay _ _ au true _ ?aH ?aG ?bt ?bv A2.out).mono ?_); (case aH => exact CX (Kd.aC fU.out HB.out)); (case aG => exact gm.out); (case bt => exact CX (Kd.aC fm.out HB.out)); (case bv => exact f_.out); rintro e sY ⟨rfl, hb⟩; refine ⟨_, rfl, ?_⟩; have af := bw dl hb; have ag := bn HB hb; clear dl; clear HB; have dl := af; have HB := ag; clear af ag; (try clear hb); (try clear hb2); (try clear hk); (try clear hi); obtain ⟨tB, tt, vt, vR, ak1, atR, axo, alx, ayk, axa, atq, amx, atF, an1, am8, apw, tK, ul, u1, vw, atU, al5, apb, apB, aye, aur, aq3, aq_, avC, an0, aq6, ayl⟩ := i' dl) | (go_at_call 21; (with_reducible refine (ig.calls k ew eH _ _ dI _ _ dF true _ ?aH ?aG ?bt ?bv A4.out).mono ?_); (case aH => exact CX (Kd.aC nT.out HB.out)); (case aG => exact n9.out); (case bt => exact CX (Kd.aC oh.out HB.out)); (case bv => exact n_.out); rintro e uX ⟨rfl, hb⟩; have af := bw dl hb; have ag := bn HB hb; clear dl; clear HB; have dl := af; have HB := ag; clear af ag; (try clear hb); (try clear hb2); (try clear hk); (try clear hi); obtain ⟨Pl, Pj, SV, Yw, amo, ame, axX, am0, awn, atm, aps, awW, axy, avs, asu, amT, N_, O8, Vc, Uq, asr, anr, apg, asb, asI, anH, ax0, alK, awz, amJ, au5, auK⟩ := i' dl) | (go_at_call 21; (with_reducible refine (ig.calls k ev eC _ _ dG _ _ dJ true _ ?aH ?aG ?bt ?bv A6.out).mono ?_); (case aH => exact CX (Kd.aC oR.out HB.out)); (case aG => exact oy.out); (case bt => exact CX (Kd.aC oD.out HB.out)); (case bv => exact oQ.out); rintro e VN ⟨rfl, hb⟩; have af := bw dl hb; have ag := bn HB hb; clear dl; clear HB; have dl := af; have HB := ag; clear af ag; (try clear hb); (try clear hb2); (try clear hk); (try clear hi); obtain ⟨asC, aoQ, avX, atk, atH, apW, anK, aqp, axh, aoI, aox, ap_, auW, al3, ax6, akX, apP, als, awA, asQ, atz, axA, asj, auz, avn, ano, akZ, apM, axO, atK, asx, axu⟩ := i' dl))
      go_ret
      exact ⟨by first | rfl | (simp [bY, bX] <;> rfl) | (simp [*, bY, bX] <;> rfl), by repeat (first | (with_reducible first | exact HB.out | apply aQ | apply aY | apply aT | refine ao ?_ rz.out) | exact HB.out)⟩
     ·rw [if_neg c9] at H
      have BO : decide ((dy.length : Int) ≤ 60) = false := decide_eq_false c9
      have ajv : decide (dy.length ≤ 60) = false := decide_eq_false (by omega)
      clear c9
      obtain rfl := Option.some.inj H
      go_enter Try.func16, Try.ntmps16
      go_wp2_with (first | ((with_reducible refine bz (N := 1) rfl ?_); (try (refine gN (by rfl) ?_; dsimp only)); refine bT ?hg (N := 1) ?hd (cs := #[.int .i64 aE, .string aA, .slice bB ay.length bA, .slice br au.length bq, .int .i64 ew, .string eH, .slice iH dI.length iq, .slice iF dF.length iI, .int .i64 ev, .string eC, .slice iC dG.length iD, .slice il dJ.length io, .slice iw dz.length im, .slice iG dy.length iA, .slice iJ dX.length iu, .int .i64 fj]) (t := 42) ?hr ?_; (case hd => rfl); (case hg => rfl); (case hr => first | (go_simp; done) | (go_simp; rfl) | (obtain ⟨_, _, rfl⟩ := Kd.bm (ae.out (by assumption : ae (Kd.R _ _ _ _ _ _ _))); go_simp; done)); intro Ea hg w18 av hb; have af := bn HB hb; have ag := ae.mk (av); have ah := bK HB hg; have am := bK HB hg; clear HB; have HB := af; have dl := ag; have CW := ah; have rz := am; clear af ag ah am; clear hb av hg; obtain ⟨Xz, V7, WA, V9, awG, arl, amL, auf, ang, aop, aoc, aq0, avy, ao', avQ, ank, X1, U0, Y4, Um, aqk, awu, avL, aw_, arX, axV, aq', alW, arD, atE, am6, auS⟩ := i' dl) | ((with_reducible refine dD (f := 21) rfl ?_); refine dC (some 5) rfl rfl Try.func21 (by kernel_rfl) rfl #[.agg #[.int .i64 aE, .string aA, .slice bB ay.length bA, .slice br au.length bq]] rfl MX ?_; (with_reducible refine (ig.calls k aE aA _ _ ay _ _ au true _ ?aH ?aG ?bt ?bv A2.out).mono ?_); (case aH => exact CX (Kd.aC fU.out HB.out)); (case aG => exact gm.out); (case bt => exact CX (Kd.aC fm.out HB.out)); (case bv => exact f_.out); rintro e w20 ⟨rfl, hb⟩; refine ⟨_, rfl, ?_⟩; have af := bw dl hb; have ag := bn HB hb; clear dl; clear HB; have dl := af; have HB := ag; clear af ag; (try clear hb); (try clear hb2); (try clear hk); (try clear hi); obtain ⟨Xk, Ti, ajF, agI, Zc, ao3, axk, avZ, anZ, ayf, awr, anP, asw, au8, apz, aoe, TS, WS, afi, ahd, aj3, asH, axL, arM, aqb, apL, alz, an9, aoO, awN, at4, amu⟩ := i' dl) | (go_at_call 21; (with_reducible refine (ig.calls k ew eH _ _ dI _ _ dF true _ ?aH ?aG ?bt ?bv A4.out).mono ?_); (case aH => exact CX (Kd.aC nT.out HB.out)); (case aG => exact n9.out); (case bt => exact CX (Kd.aC oh.out HB.out)); (case bv => exact n_.out); rintro e GJ ⟨rfl, hb⟩; have af := bw dl hb; have ag := bn HB hb; clear dl; clear HB; have dl := af; have HB := ag; clear af ag; (try clear hb); (try clear hb2); (try clear hk); (try clear hi); obtain ⟨BY, z7, Ba, zS, ab8, amr, ala, awy, an2, as8, ax1, asN, asl, akU, aoq, al4, z6, BA, Af, AS, ais, arE, awZ, ave, atP, ap6, anu, anb, alG, auC, aqR, ata⟩ := i' dl) | (go_at_call 21; (with_reducible refine (ig.calls k ev eC _ _ dG _ _ dJ true _ ?aH ?aG ?bt ?bv A6.out).mono ?_); (case aH => exact CX (Kd.aC oR.out HB.out)); (case aG => exact oy.out); (case bt => exact CX (Kd.aC oD.out HB.out)); (case bv => exact oQ.out); rintro e Uv ⟨rfl, hb⟩; have af := bw dl hb; have ag := bn HB hb; clear dl; clear HB; have dl := af; have HB := ag; clear af ag; (try clear hb); (try clear hb2); (try clear hk); (try clear hi); obtain ⟨IC, Ib, Qq, P3, aks, ZT, aa7, adP, ahW, Zm, adp, ZP, agF, ad8, ahh, ahR, Ht, K7, PY, Pg, adu, adM, ai4, aeb, ahw, ae2, agu, acQ, aic, abT, afd, ajx⟩ := i' dl))
      go_ret
      exact ⟨by first | rfl | (simp [bY, bX] <;> rfl) | (simp [*, bY, bX] <;> rfl), by repeat (first | (with_reducible first | exact HB.out | apply aQ | apply aY | apply aT | refine ao ?_ rz.out) | exact HB.out)⟩
    ·rw [if_neg c8] at H
     have kc : decide ((dz.length : Int) ≤ 60) = false := decide_eq_false c8
     have mz : decide (dz.length ≤ 60) = false := decide_eq_false (by omega)
     clear c8
     obtain rfl := Option.some.inj H
     go_enter Try.func16, Try.ntmps16
     go_wp2_with (first | ((with_reducible refine bz (N := 1) rfl ?_); (try (refine gN (by rfl) ?_; dsimp only)); refine bT ?hg (N := 1) ?hd (cs := #[.int .i64 aE, .string aA, .slice bB ay.length bA, .slice br au.length bq, .int .i64 ew, .string eH, .slice iH dI.length iq, .slice iF dF.length iI, .int .i64 ev, .string eC, .slice iC dG.length iD, .slice il dJ.length io, .slice iw dz.length im, .slice iG dy.length iA, .slice iJ dX.length iu, .int .i64 fj]) (t := 42) ?hr ?_; (case hd => rfl); (case hg => rfl); (case hr => first | (go_simp; done) | (go_simp; rfl) | (obtain ⟨_, _, rfl⟩ := Kd.bm (ae.out (by assumption : ae (Kd.R _ _ _ _ _ _ _))); go_simp; done)); intro Ea hg O3 av hb; have af := bn HB hb; have ag := ae.mk (av); have ah := bK HB hg; have am := bK HB hg; clear HB; have HB := af; have dl := ag; have CW := ah; have rz := am; clear af ag ah am; clear hb av hg; obtain ⟨Ic, Kz, QE, Nr, Zk, akt, aaB, ZE, agO, ajd, ag9, ZJ, aht, aki, ahn, akB, J7, Jw, Ss, P9, agd, ahF, ac3, ZO, aci, ac5, ai_, ajA, aiD, ab3, aad, agj⟩ := i' dl) | ((with_reducible refine dD (f := 21) rfl ?_); refine dC (some 5) rfl rfl Try.func21 (by kernel_rfl) rfl #[.agg #[.int .i64 aE, .string aA, .slice bB ay.length bA, .slice br au.length bq]] rfl MX ?_; (with_reducible refine (ig.calls k aE aA _ _ ay _ _ au true _ ?aH ?aG ?bt ?bv A2.out).mono ?_); (case aH => exact CX (Kd.aC fU.out HB.out)); (case aG => exact gm.out); (case bt => exact CX (Kd.aC fm.out HB.out)); (case bv => exact f_.out); rintro e uC ⟨rfl, hb⟩; refine ⟨_, rfl, ?_⟩; have af := bw dl hb; have ag := bn HB hb; clear dl; clear HB; have dl := af; have HB := ag; clear af ag; (try clear hb); (try clear hb2); (try clear hk); (try clear hi); obtain ⟨MO, Nt, Mz, P_, afk, aiU, ad5, afx, afa, aeS, ab_, aiX, ad4, ahj, ai9, ac8, Og, Ob, Rk, Mv, aek, aar, afA, afm, ad_, ahD, ahZ, aaT, ajC, abf, ahi, af_⟩ := i' dl) | (go_at_call 21; (with_reducible refine (ig.calls k ew eH _ _ dI _ _ dF true _ ?aH ?aG ?bt ?bv A4.out).mono ?_); (case aH => exact CX (Kd.aC nT.out HB.out)); (case aG => exact n9.out); (case bt => exact CX (Kd.aC oh.out HB.out)); (case bv => exact n_.out); rintro e Kh ⟨rfl, hb⟩; have af := bw dl hb; have ag := bn HB hb; clear dl; clear HB; have dl := af; have HB := ag; clear af ag; (try clear hb); (try clear hb2); (try clear hk); (try clear hi); obtain ⟨yP, xQ, CU, Dm, LK, au_, ayb, avJ, av2, au6, awO, ati, arp, akP, atV, axj, wH, wL, Fo, Hn, L6, amp, anc, aqq, at3, aph, anW, alY, alg, anq, at9, awc⟩ := i' dl) | (go_at_call 21; (with_reducible refine (ig.calls k ev eC _ _ dG _ _ dJ true _ ?aH ?aG ?bt ?bv A6.out).mono ?_); (case aH => exact CX (Kd.aC oR.out HB.out)); (case aG => exact oy.out); (case bt => exact CX (Kd.aC oD.out HB.out)); (case bv => exact oQ.out); rintro e Cf ⟨rfl, hb⟩; have af := bw dl hb; have ag := bn HB hb; clear dl; clear HB; have dl := af; have HB := ag; clear af ag; (try clear hb); (try clear hb2); (try clear hk); (try clear hi); obtain ⟨vD, uY, u0, u6, aiM, agP, abR, abl, aeY, aeC, aa1, ajj, aju, ahE, ahK, aaU, vP, uT, vA, vT, af', adL, Zq, air, aej, akv, agc, Z6, agS, ahO, ajy, akA⟩ := i' dl))
     go_ret
     exact ⟨by first | rfl | (simp [bY, bX] <;> rfl) | (simp [*, bY, bX] <;> rfl), by repeat (first | (with_reducible first | exact HB.out | apply aQ | apply aY | apply aT | refine ao ?_ rz.out) | exact HB.out)⟩
   ·replace c7 := Bool.eq_false_iff.mpr c7
    subst c7
    have H1 : (some false) = some r := by rw [if_neg (show ¬ (false = true) by decide)] at H; exact H
    clear H
    have H := H1
    clear H1
    obtain rfl := Option.some.inj H
    go_enter Try.func16, Try.ntmps16
    go_wp2_with (first | ((with_reducible refine bz (N := 1) rfl ?_); (try (refine gN (by rfl) ?_; dsimp only)); refine bT ?hg (N := 1) ?hd (cs := #[.int .i64 aE, .string aA, .slice bB ay.length bA, .slice br au.length bq, .int .i64 ew, .string eH, .slice iH dI.length iq, .slice iF dF.length iI, .int .i64 ev, .string eC, .slice iC dG.length iD, .slice il dJ.length io, .slice iw dz.length im, .slice iG dy.length iA, .slice iJ dX.length iu, .int .i64 fj]) (t := 42) ?hr ?_; (case hd => rfl); (case hg => rfl); (case hr => first | (go_simp; done) | (go_simp; rfl) | (obtain ⟨_, _, rfl⟩ := Kd.bm (ae.out (by assumption : ae (Kd.R _ _ _ _ _ _ _))); go_simp; done)); intro Ea hg Ky av hb; have af := bn HB hb; have ag := ae.mk (av); have ah := bK HB hg; have am := bK HB hg; clear HB; have HB := af; have dl := ag; have CW := ah; have rz := am; clear af ag ah am; clear hb av hg; obtain ⟨as4, ali, alv, atr, apy, aw0, aw6, ax4, anS, anJ, aom, ayo, ak_, ak2, alL, awU, ayg, anD, aqr, arB, ao7, asn, an7, avf, awp, amD, am5, auH, arQ, amh, amU, anA⟩ := i' dl) | ((with_reducible refine dD (f := 21) rfl ?_); refine dC (some 5) rfl rfl Try.func21 (by kernel_rfl) rfl #[.agg #[.int .i64 aE, .string aA, .slice bB ay.length bA, .slice br au.length bq]] rfl MX ?_; (with_reducible refine (ig.calls k aE aA _ _ ay _ _ au true _ ?aH ?aG ?bt ?bv A2.out).mono ?_); (case aH => exact CX (Kd.aC fU.out HB.out)); (case aG => exact gm.out); (case bt => exact CX (Kd.aC fm.out HB.out)); (case bv => exact f_.out); rintro e w36 ⟨rfl, hb⟩; refine ⟨_, rfl, ?_⟩; have af := bw dl hb; have ag := bn HB hb; clear dl; clear HB; have dl := af; have HB := ag; clear af ag; (try clear hb); (try clear hb2); (try clear hk); (try clear hi); obtain ⟨aqf, akM, ana, am9, aoX, avb, awg, axc, awR, au2, awk, as3, asq, atI, avv, anC, ax2, avI, amG, avD, aoY, anm, ax_, ap9, aqG, alm, avO, axE, aw5, avP, auO, amM⟩ := i' dl) | (go_at_call 21; (with_reducible refine (ig.calls k ew eH _ _ dI _ _ dF true _ ?aH ?aG ?bt ?bv A4.out).mono ?_); (case aH => exact CX (Kd.aC nT.out HB.out)); (case aG => exact n9.out); (case bt => exact CX (Kd.aC oh.out HB.out)); (case bv => exact n_.out); rintro e w38 ⟨rfl, hb⟩; have af := bw dl hb; have ag := bn HB hb; clear dl; clear HB; have dl := af; have HB := ag; clear af ag; (try clear hb); (try clear hb2); (try clear hk); (try clear hi); obtain ⟨amj, anj, aw', arR, awf, anL, aml, alU, aly, ak9, avw, awB, at', ayr, apv, asO, amf, ak7, awJ, arF, aqN, asK, atb, aoy, amV, arJ, aqT, awa, aum, awF, auA, aoZ⟩ := i' dl) | (go_at_call 21; (with_reducible refine (ig.calls k ev eC _ _ dG _ _ dJ false _ ?aH ?aG ?bt ?bv A6.out).mono ?_); (case aH => exact CX (Kd.aC oR.out HB.out)); (case aG => exact oy.out); (case bt => exact CX (Kd.aC oD.out HB.out)); (case bv => exact oQ.out); rintro e w40 ⟨rfl, hb⟩; have af := bw dl hb; have ag := bn HB hb; clear dl; clear HB; have dl := af; have HB := ag; clear af ag; (try clear hb); (try clear hb2); (try clear hk); (try clear hi)))
    go_ret
    exact ⟨by first | rfl | (simp [bY, bX] <;> rfl) | (simp [*, bY, bX] <;> rfl), by repeat (first | (with_reducible first | exact HB.out | apply aQ | apply aY | apply aT | refine ao ?_ rz.out) | exact HB.out)⟩
  ·replace c5 := Bool.eq_false_iff.mpr c5
   subst c5
   have H1 : (some false) = some r := by rw [if_neg (show ¬ (false = true) by decide)] at H; exact H
   clear H
   have H := H1
   clear H1
   obtain rfl := Option.some.inj H
   go_enter Try.func16, Try.ntmps16
   go_wp2_with (first | ((with_reducible refine bz (N := 1) rfl ?_); (try (refine gN (by rfl) ?_; dsimp only)); refine bT ?hg (N := 1) ?hd (cs := #[.int .i64 aE, .string aA, .slice bB ay.length bA, .slice br au.length bq, .int .i64 ew, .string eH, .slice iH dI.length iq, .slice iF dF.length iI, .int .i64 ev, .string eC, .slice iC dG.length iD, .slice il dJ.length io, .slice iw dz.length im, .slice iG dy.length iA, .slice iJ dX.length iu, .int .i64 fj]) (t := 42) ?hr ?_; (case hd => rfl); (case hg => rfl); (case hr => first | (go_simp; done) | (go_simp; rfl) | (obtain ⟨_, _, rfl⟩ := Kd.bm (ae.out (by assumption : ae (Kd.R _ _ _ _ _ _ _))); go_simp; done)); intro Ea hg w41 av hb; have af := bn HB hb; have ag := ae.mk (av); have ah := bK HB hg; have am := bK HB hg; clear HB; have HB := af; have dl := ag; have CW := ah; have rz := am; clear af ag ah am; clear hb av hg; obtain ⟨ar8, awi, asv, awt, aqJ, ak', aov, aro, axr, ans, al7, avp, ar1, aqo, as1, ax5, amQ, awl, auM, aoD, ar4, ar_, anG, aqW, alA, awS, alR, arV, aof, alc, ap0, at5⟩ := i' dl) | ((with_reducible refine dD (f := 21) rfl ?_); refine dC (some 5) rfl rfl Try.func21 (by kernel_rfl) rfl #[.agg #[.int .i64 aE, .string aA, .slice bB ay.length bA, .slice br au.length bq]] rfl MX ?_; (with_reducible refine (ig.calls k aE aA _ _ ay _ _ au true _ ?aH ?aG ?bt ?bv A2.out).mono ?_); (case aH => exact CX (Kd.aC fU.out HB.out)); (case aG => exact gm.out); (case bt => exact CX (Kd.aC fm.out HB.out)); (case bv => exact f_.out); rintro e w43 ⟨rfl, hb⟩; refine ⟨_, rfl, ?_⟩; have af := bw dl hb; have ag := bn HB hb; clear dl; clear HB; have dl := af; have HB := ag; clear af ag; (try clear hb); (try clear hb2); (try clear hk); (try clear hi); obtain ⟨avc, anQ, awC, asE, apj, asy, atN, arn, aon, ax7, arL, aoU, axT, avd, akG, auX, apk, amq, atL, asT, auI, atu, awe, awb, apl, al8, alj, ax', avr, avK, arj, axD⟩ := i' dl) | (go_at_call 21; (with_reducible refine (ig.calls k ew eH _ _ dI _ _ dF false _ ?aH ?aG ?bt ?bv A4.out).mono ?_); (case aH => exact CX (Kd.aC nT.out HB.out)); (case aG => exact n9.out); (case bt => exact CX (Kd.aC oh.out HB.out)); (case bv => exact n_.out); rintro e UK ⟨rfl, hb⟩; have af := bw dl hb; have ag := bn HB hb; clear dl; clear HB; have dl := af; have HB := ag; clear af ag; (try clear hb); (try clear hb2); (try clear hk); (try clear hi)))
   go_ret
   exact ⟨by first | rfl | (simp [bY, bX] <;> rfl) | (simp [*, bY, bX] <;> rfl), by repeat (first | (with_reducible first | exact HB.out | apply aQ | apply aY | apply aT | refine ao ?_ rz.out) | exact HB.out)⟩
 ·replace c3 := Bool.eq_false_iff.mpr c3
  subst c3
  have H1 : (some false) = some r := by rw [if_neg (show ¬ (false = true) by decide)] at H; exact H
  clear H
  have H := H1
  clear H1
  obtain rfl := Option.some.inj H
  go_enter Try.func16, Try.ntmps16
  go_wp2_with (first | ((with_reducible refine bz (N := 1) rfl ?_); (try (refine gN (by rfl) ?_; dsimp only)); refine bT ?hg (N := 1) ?hd (cs := #[.int .i64 aE, .string aA, .slice bB ay.length bA, .slice br au.length bq, .int .i64 ew, .string eH, .slice iH dI.length iq, .slice iF dF.length iI, .int .i64 ev, .string eC, .slice iC dG.length iD, .slice il dJ.length io, .slice iw dz.length im, .slice iG dy.length iA, .slice iJ dX.length iu, .int .i64 fj]) (t := 42) ?hr ?_; (case hd => rfl); (case hg => rfl); (case hr => first | (go_simp; done) | (go_simp; rfl) | (obtain ⟨_, _, rfl⟩ := Kd.bm (ae.out (by assumption : ae (Kd.R _ _ _ _ _ _ _))); go_simp; done)); intro Ea hg w46 av hb; have af := bn HB hb; have ag := ae.mk (av); have ah := bK HB hg; have am := bK HB hg; clear HB; have HB := af; have dl := ag; have CW := ah; have rz := am; clear af ag ah am; clear hb av hg; obtain ⟨Fl, F6, E1, Ds, alB, auw, atf, amW, au1, asY, anp, awv, aqt, atY, axf, atO, Co, Gk, GT, FY, avB, aoz, avj, as2, axl, apx, asX, aw4, avU, alD, ar0, aq1⟩ := i' dl) | ((with_reducible refine dD (f := 21) rfl ?_); refine dC (some 5) rfl rfl Try.func21 (by kernel_rfl) rfl #[.agg #[.int .i64 aE, .string aA, .slice bB ay.length bA, .slice br au.length bq]] rfl MX ?_; (with_reducible refine (ig.calls k aE aA _ _ ay _ _ au false _ ?aH ?aG ?bt ?bv A2.out).mono ?_); (case aH => exact CX (Kd.aC fU.out HB.out)); (case aG => exact gm.out); (case bt => exact CX (Kd.aC fm.out HB.out)); (case bv => exact f_.out); rintro e w48 ⟨rfl, hb⟩; refine ⟨_, rfl, ?_⟩; have af := bw dl hb; have ag := bn HB hb; clear dl; clear HB; have dl := af; have HB := ag; clear af ag; (try clear hb); (try clear hb2); (try clear hk); (try clear hi)))
  go_ret
  exact ⟨by first | rfl | (simp [bY, bX] <;> rfl) | (simp [*, bY, bX] <;> rfl), by repeat (first | (with_reducible first | exact HB.out | apply aQ | apply aY | apply aT | refine ao ?_ rz.out) | exact HB.out)⟩
end Go.Proofs.Ytcfjdehpbckomaa.Q
