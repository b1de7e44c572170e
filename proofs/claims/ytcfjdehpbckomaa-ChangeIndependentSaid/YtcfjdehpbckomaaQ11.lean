
import Derived.Test.YtcfjdehpbckomaaQ0
import Derived.Test.YtcfjdehpbckomaaQ9
import Derived.Test.YtcfjdehpbckomaaQ10
namespace Go.Proofs.Ytcfjdehpbckomaa.Q
open Go.RowKit Go.Proofs.YtcfjdehpbckomaaW.dS Go.Proofs.YtcfjdehpbckomaaW.jm Go.Proofs.YtcfjdehpbckomaaW.mm
attribute [local go_sem] mU na nt mX m6 nu mP mW
set_option linter.unusedVariables false
set_option linter.unusedSimpArgs false
/-! ### treemergeref31_List: function 11 -/
mutual
def bp.j0 : Nat → List Int → List Int → List (bC) → List (bC) → Bool → Option ((List (aw)) × Int)
 | 0, _, _, _, _, _ => none
 | k + 1, x2, x3, x10, fH, x31 => if x31 = true then (some (([] : List (aw)), 15)) else (bp.l0 k x2 x3 x10 fH ([] : List (aw)) 0)
def bp.l0 : Nat → List Int → List Int → List (bC) → List (bC) → List (aw) → Int → Option ((List (aw)) × Int)
 | 0, _, _, _, _, _, _ => none
 | k + 1, x2, x3, x10, fH, gR, dA => if dA < (x10.length : Int) then (if 0 ≤ dA then (if dA < (x2.length : Int) then ((gq.f k x3 (rd x2 dA)).bind fun bl => (if bl < 0 then ((dK.f k gR (rd x2 dA) 2).bind fun I8 => (bp.l0 k x2 x3 x10 fH I8 (wrap64 (dA + 1)))) else ((r_.f x10 x2 dA).bind fun uQ => ((r_.f fH x3 bl).bind fun vx => (if uQ = vx then (bp.j2 k x2 x3 x10 fH gR dA bl) else ((dK.f k gR (rd x2 dA) 3).bind fun I1 => (bp.j2 k x2 x3 x10 fH I1 dA bl))))))) else (none)) else (none)) else (bp.l1 k x2 x3 fH gR 0)
def bp.j2 : Nat → List Int → List Int → List (bC) → List (bC) → List (aw) → Int → Int → Option ((List (aw)) × Int)
 | 0, _, _, _, _, _, _, _ => none
 | k + 1, x2, x3, x10, fH, gR, dA, lh => if 0 ≤ dA then (if dA < (x10.length : Int) then (if 0 ≤ lh then (if lh < (fH.length : Int) then (if ((aD x10 dA).f2).toList = ((aD fH lh).f2).toList then (bp.j3 k x2 x3 x10 fH gR dA lh) else (if dA < (x2.length : Int) then ((dK.f k gR (rd x2 dA) 4).bind fun I0 => (bp.j3 k x2 x3 x10 fH I0 dA lh)) else (none))) else (none)) else (none)) else (none)) else (none)
def bp.j3 : Nat → List Int → List Int → List (bC) → List (bC) → List (aw) → Int → Int → Option ((List (aw)) × Int)
 | 0, _, _, _, _, _, _, _ => none
 | k + 1, x2, x3, x10, fH, gR, dA, lh => if 0 ≤ dA then (if dA < (x10.length : Int) then (if 0 ≤ lh then (if lh < (fH.length : Int) then ((iE.f k ((aD x10 dA).f3) ((aD fH lh).f3)).bind fun Il => (if Il = true then (bp.j4 k x2 x3 x10 fH gR dA lh) else (if dA < (x2.length : Int) then ((dK.f k gR (rd x2 dA) 5).bind fun Ca => (bp.j4 k x2 x3 x10 fH Ca dA lh)) else (none)))) else (none)) else (none)) else (none)) else (none)
def bp.j4 : Nat → List Int → List Int → List (bC) → List (bC) → List (aw) → Int → Int → Option ((List (aw)) × Int)
 | 0, _, _, _, _, _, _, _ => none
 | k + 1, x2, x3, x10, fH, gR, dA, lh => if 0 ≤ dA then (if dA < (x10.length : Int) then (if 0 ≤ lh then (if lh < (fH.length : Int) then ((ij.f k ((aD x10 dA).f0) ((aD x10 dA).f1) ((aD x10 dA).f2) ((aD x10 dA).f3) ((aD x10 dA).f4) ((aD fH lh).f0) ((aD fH lh).f1) ((aD fH lh).f2) ((aD fH lh).f3) ((aD fH lh).f4) x2 x3).bind fun M6 => (if M6 = true then (bp.l0 k x2 x3 x10 fH gR (wrap64 (dA + 1))) else (if dA < (x2.length : Int) then ((dK.f k gR (rd x2 dA) 6).bind fun B9 => (bp.l0 k x2 x3 x10 fH B9 (wrap64 (dA + 1)))) else (none)))) else (none)) else (none)) else (none)) else (none)
def bp.l1 : Nat → List Int → List Int → List (bC) → List (aw) → Int → Option ((List (aw)) × Int)
 | 0, _, _, _, _, _ => none
 | k + 1, x2, x3, fH, gR, nV => if nV < (fH.length : Int) then (if 0 ≤ nV then (if nV < (x3.length : Int) then ((gq.f k x2 (rd x3 nV)).bind fun wP => (if wP < 0 then ((dK.f k gR (rd x3 nV) 1).bind fun Jn => (bp.l1 k x2 x3 fH Jn (wrap64 (nV + 1)))) else (bp.l1 k x2 x3 fH gR (wrap64 (nV + 1))))) else (none)) else (none)) else (some (gR, 0))
end
def bp.f (k : Nat) (aE : Int) (aA : ByteArray) (ay : List ByteArray) (au : List (aX)) (aK : Int) (aM : ByteArray) (cx : List ByteArray) (bR : List (aX)) (l2 : List Int) (l3 : List Int) : Option ((List (aw)) × Int) := (mc.f aE aA ay au).bind fun bF => ((mc.f aK aM cx bR).bind fun bG => ((gG.f k l2 (bF.length : Int)).bind fun Fp => (if Fp = true then ((gG.f k l3 (bG.length : Int)).bind fun uK => (bp.j0 k l2 l3 bF bG (!uK))) else (bp.j0 k l2 l3 bF bG true))))
theorem bp.fp : ∀ k, (∀ y0 y1 y2 y3 y4, aI (bp.j0 k y0 y1 y2 y3 y4) (bp.j0 (k + 1) y0 y1 y2 y3 y4)) ∧ (∀ y0 y1 y2 y3 y4 y5, aI (bp.l0 k y0 y1 y2 y3 y4 y5) (bp.l0 (k + 1) y0 y1 y2 y3 y4 y5)) ∧ (∀ y0 y1 y2 y3 y4 y5 y6, aI (bp.j2 k y0 y1 y2 y3 y4 y5 y6) (bp.j2 (k + 1) y0 y1 y2 y3 y4 y5 y6)) ∧ (∀ y0 y1 y2 y3 y4 y5 y6, aI (bp.j3 k y0 y1 y2 y3 y4 y5 y6) (bp.j3 (k + 1) y0 y1 y2 y3 y4 y5 y6)) ∧ (∀ y0 y1 y2 y3 y4 y5 y6, aI (bp.j4 k y0 y1 y2 y3 y4 y5 y6) (bp.j4 (k + 1) y0 y1 y2 y3 y4 y5 y6)) ∧ (∀ y0 y1 y2 y3 y4, aI (bp.l1 k y0 y1 y2 y3 y4) (bp.l1 (k + 1) y0 y1 y2 y3 y4))
 | 0 => ⟨fun _ _ _ _ _ r h => by simp [bp.j0] at h, fun _ _ _ _ _ _ r h => by simp [bp.l0] at h, fun _ _ _ _ _ _ _ r h => by simp [bp.j2] at h, fun _ _ _ _ _ _ _ r h => by simp [bp.j3] at h, fun _ _ _ _ _ _ _ r h => by simp [bp.j4] at h, fun _ _ _ _ _ r h => by simp [bp.l1] at h⟩
 | k + 1 => by
  obtain ⟨dq, ih1, ih2, ih3, ih4, ih5⟩ := bp.fp k
  refine ⟨?_, ?_, ?_, ?_, ?_, ?_⟩ <;> intros <;> (first | unfold bp.j0 | unfold bp.l0 | unfold bp.j2 | unfold bp.j3 | unfold bp.j4 | unfold bp.l1) <;> repeat' first
   | (with_reducible exact dq _ _ _ _ _)
   | (with_reducible exact ih1 _ _ _ _ _ _)
   | (with_reducible exact ih2 _ _ _ _ _ _ _)
   | (with_reducible exact ih3 _ _ _ _ _ _ _)
   | (with_reducible exact ih4 _ _ _ _ _ _ _)
   | (with_reducible exact ih5 _ _ _ _ _)
   | (with_reducible exact gG.mono _ _ _)
   | (with_reducible exact dK.mono _ _ _ _)
   | (with_reducible exact gq.mono _ _ _)
   | (with_reducible exact iE.mono _ _ _)
   | (with_reducible exact ij.mono _ _ _ _ _ _ _ _ _ _ _ _ _)
   | (with_reducible exact aI.refl _)
   | (with_reducible exact aI.none _)
   | (with_reducible refine aI.ite ?_ ?_)
   | (with_reducible refine aI.bind ?_ (fun _ => ?_))
   | exact dq _ _ _ _ _
   | exact ih1 _ _ _ _ _ _
   | exact ih2 _ _ _ _ _ _ _
   | exact ih3 _ _ _ _ _ _ _
   | exact ih4 _ _ _ _ _ _ _
   | exact ih5 _ _ _ _ _
   | exact gG.mono _ _ _
   | exact dK.mono _ _ _ _
   | exact gq.mono _ _ _
   | exact iE.mono _ _ _
   | exact ij.mono _ _ _ _ _ _ _ _ _ _ _ _ _
   | exact aI.none _
   | refine aI.ite ?_ ?_
   | refine aI.bind ?_ (fun _ => ?_)
theorem bp.mono : ∀ a0 a1 a2 a3 a4 a5 a6 a7 a8 a9 k, aI (bp.f k a0 a1 a2 a3 a4 a5 a6 a7 a8 a9) (bp.f (k + 1) a0 a1 a2 a3 a4 a5 a6 a7 a8 a9) := by
 intro a0 a1 a2 a3 a4 a5 a6 a7 a8 a9 k
 obtain ⟨dq, ih1, ih2, ih3, ih4, ih5⟩ := bp.fp k
 unfold bp.f
 repeat' first
   | (with_reducible exact dq _ _ _ _ _)
   | (with_reducible exact ih1 _ _ _ _ _ _)
   | (with_reducible exact ih2 _ _ _ _ _ _ _)
   | (with_reducible exact ih3 _ _ _ _ _ _ _)
   | (with_reducible exact ih4 _ _ _ _ _ _ _)
   | (with_reducible exact ih5 _ _ _ _ _)
   | (with_reducible exact gG.mono _ _ _)
   | (with_reducible exact dK.mono _ _ _ _)
   | (with_reducible exact gq.mono _ _ _)
   | (with_reducible exact iE.mono _ _ _)
   | (with_reducible exact ij.mono _ _ _ _ _ _ _ _ _ _ _ _ _)
   | (with_reducible exact aI.refl _)
   | (with_reducible exact aI.none _)
   | (with_reducible refine aI.ite ?_ ?_)
   | (with_reducible refine aI.bind ?_ (fun _ => ?_))
def bp.Tx : Bool × List (List Nat × List Nat) := (true, [([], []), ([], []), ([0, 1], [0, 1]), ([2], [2]), ([3], [3]), ([], []), ([], []), ([5, 6], [5, 6]), ([7], [7]), ([8], [8]), ([4, 9], [4, 9])])
def bp.B14 : List Nat := [0, 0, 3, 7, 15, 0, 0, 96, 224, 480, 1023]
theorem bp.Zg : je .any (opsOf Try.f11 14) = bp.Tx := by kernel_rfl
theorem bp.aj5 : th bp.Tx.2 bp.B14 = true := by kernel_rfl
def bp.TT : Bool × List (List Nat × List Nat) := (true, [([], []), ([], []), ([0, 1], [0, 1]), ([2], [2]), ([3], [3]), ([], []), ([], []), ([5, 6], [5, 6]), ([7], [7]), ([8], [8]), ([4, 9], [4, 9]), ([10], [10])])
def bp.B16 : List Nat := [0, 0, 3, 7, 15, 0, 0, 96, 224, 480, 1023, 2047]
theorem bp.adj : je .any (opsOf Try.f11 16) = bp.TT := by kernel_rfl
theorem bp.ae4 : th bp.TT.2 bp.B16 = true := by kernel_rfl
def bp.WW : Bool × List (List Nat × List Nat) := (true, [([], []), ([], []), ([0, 1], [0, 1]), ([2], [2]), ([], []), ([], []), ([4, 5], [4, 5]), ([6], [6]), ([], []), ([], []), ([3, 7, 8, 9], [3, 7, 8, 9]), ([10], [10])])
def bp.B18 : List Nat := [0, 0, 3, 7, 0, 0, 48, 112, 0, 0, 1023, 2047]
theorem bp.TB : je .any (opsOf Try.f11 18) = bp.WW := by kernel_rfl
theorem bp.WY : th bp.WW.2 bp.B18 = true := by kernel_rfl
set_option maxHeartbeats 8000000 in
set_option maxRecDepth 100000 in
theorem bp.calls (k : Nat) (aE : Int) (aA : ByteArray) (bB : Option Addr) (bA : Nat) (ay : List ByteArray) (br : Option Addr) (bq : Nat) (au : List (aX)) (aK : Int) (aM : ByteArray) (fQ : Option Addr) (fP : Nat) (cx : List ByteArray) (eG : Option Addr) (eD : Nat) (bR : List (aX)) (A2 : Option Addr) (c2 : Nat) (l2 : List Int) (A3 : Option Addr) (c3 : Nat) (l3 : List Int) (r1 : List (aw)) (r2 : Int) (w : World) (fZ : Kd.C Kd.string w bB ay.length ay) (gg : ay.length ≤ bA) (fC : Kd.C k25 w br au.length au) (fL : au.length ≤ bq) (oC : Kd.C Kd.string w fQ cx.length cx) (o3 : cx.length ≤ fP) (mJ : Kd.C k25 w eG bR.length bR) (mK : bR.length ≤ eD) (hr2 : Kd.C (Kd.int .i64) w A2 l2.length l2) (hc2 : l2.length ≤ c2) (hr3 : Kd.C (Kd.int .i64) w A3 l3.length l3) (hc3 : l3.length ≤ c3) (h : bp.f k aE aA ay au aK aM cx bR l2 l3 = some (r1, r2)) :
  Calls Try.prog 11 #[.agg #[.int .i64 aE, .string aA, .slice bB ay.length bA, .slice br au.length bq], .agg #[.int .i64 aK, .string aM, .slice fQ cx.length fP, .slice eG bR.length eD], .slice A2 l2.length c2, .slice A3 l3.length c3] w fun e w' => ∃ jC : Value, e = .returned (.tuple #[jC, .int .i64 r2]) ∧ Kd.R dT 48 w' w.heap.size (fun _ => True) jC r1 ∧ Below w.heap.size w w' := by
 have nR := Try.underlying25
 have Kq := Try.underlying48
 have K9 := Try.underlying70
 have fU := ae.mk fZ
 have gm := ae.mk gg
 clear fZ gg
 have fm := ae.mk fC
 have f_ := ae.mk fL
 clear fC fL
 have tf := ae.mk oC
 have tE := ae.mk o3
 clear oC o3
 have si := ae.mk mJ
 have sU := ae.mk mK
 clear mJ mK
 have gD := ae.mk hr2
 have lO := ae.mk hc2
 clear hr2 hc2
 have qr := ae.mk hr3
 have rG := ae.mk hc3
 clear hr3 hc3
 have HB := ae.mk (Below.refl w.heap.size w)
 have H : ((mc.f aE aA ay au).bind fun bF => ((mc.f aK aM cx bR).bind fun bG => ((gG.f k l2 (bF.length : Int)).bind fun Fp => (if Fp = true then ((gG.f k l3 (bG.length : Int)).bind fun uK => (bp.j0 k l2 l3 bF bG (!uK))) else (bp.j0 k l2 l3 bF bG true))))) = some (r1, r2) := h
 clear h
 replace H := Option.bind_eq_some_iff.mp H
 obtain ⟨bF, lW, H⟩ := H
 have A5 := ae.mk lW
 clear lW
 replace H := Option.bind_eq_some_iff.mp H
 obtain ⟨bG, pB, H⟩ := H
 have A6 := ae.mk pB
 clear pB
 have yT := ae.mk H
 clear H
 go_enter Try.func11, Try.ntmps11
 go_upto_region 3 with (first | ((with_reducible refine bz (N := 4) rfl ?_); (try (refine gN (by rfl) ?_; dsimp only)); refine bT ?hg (N := 4) ?hd (cs := #[.int .i64 aE, .string aA, .slice bB ay.length bA, .slice br au.length bq]) (t := 25) ?hr ?_; (case hd => rfl); (case hg => rfl); (case hr => first | (go_simp; done) | (go_simp; rfl) | (obtain ⟨_, _, rfl⟩ := Kd.bm (ae.out (by assumption : ae (Kd.R _ _ _ _ _ _ _))); go_simp; done)); intro lw hg w8 av hb; have af := bn HB hb; have ag := ae.mk (av); have ah := bK HB hg; have am := bK HB hg; clear HB; have HB := af; have cR := ag; have H0 := ah; have g_ := am; clear af ag ah am; clear hb av hg) | ((with_reducible refine bz (N := 5) rfl ?_); (try (refine gN (by rfl) ?_; dsimp only)); refine bT ?hg (N := 5) ?hd (cs := #[.int .i64 aK, .string aM, .slice fQ cx.length fP, .slice eG bR.length eD]) (t := 25) ?hr ?_; (case hd => rfl); (case hg => rfl); (case hr => first | (go_simp; done) | (go_simp; rfl) | (obtain ⟨_, _, rfl⟩ := Kd.bm (ae.out (by assumption : ae (Kd.R _ _ _ _ _ _ _))); go_simp; done)); intro lv hg w9 av hb; have af := bw cR hb; have ag := bn HB hb; have ah := ae.mk (av); have am := bK HB hg; have aJ := bK HB hg; have aW := iP cR hg; have be := iL cR hg; clear cR; clear HB; have cR := af; have HB := ag; have de := ah; have IO := am; have hJ := aJ; have ai6 := aW; have acX := be; clear af ag ah am aJ aW be; clear hb av hg; have axi := ai6.out; have arb := acX.out; obtain ⟨yH, wi, xE, zx, zJ, wg, xS, xa⟩ := d8 cR) | ((with_reducible refine dD (f := 30) rfl ?_); refine dC (some 17) rfl rfl Try.func30 (by kernel_rfl) rfl #[.agg #[.int .i64 aE, .string aA, .slice bB ay.length bA, .slice br au.length bq]] rfl MX ?_; (with_reducible refine (mc.calls aE aA (fun k_ => k_ < w.heap.size) _ _ ay (fun k_ => k_ < w.heap.size) _ _ au bF _ ?aH ?aG A5.out).mono ?_); (case aH => exact Kd.eM gm.out (Kd.lJ (Kd.sP Kd.uq fU.out) (by repeat (first | (with_reducible first | exact HB.out | apply aQ | apply aY | apply aT | refine ao ?_ g_.out | refine ao ?_ hJ.out) | exact HB.out)))); (case aG => exact Kd.eM f_.out (Kd.lJ (Kd.sP GA fm.out) (by repeat (first | (with_reducible first | exact HB.out | apply aQ | apply aY | apply aT | refine ao ?_ g_.out | refine ao ?_ hJ.out) | exact HB.out)))); rintro e sY ⟨Gc, rfl, aR, hb⟩; refine ⟨_, rfl, ?_⟩; have af := ae.mk (Kd.G1 (Kd.iO (d5 := fun k_ => k_ ≠ lw ∧ k_ ≠ lv) aR (fun k_ j8 => ⟨Or.elim j8 (fun hs_ => Or.elim hs_ (fun hs_ => fun e_ => Nat.not_le.2 hs_ (by rw [e_]; exact H0.out)) (fun hs_ => fun e_ => Nat.not_le.2 hs_ (by rw [e_]; exact H0.out))) (fun gl => (Kd.gb (g := lw) (o := .cells #[.int .i64 aE, .string aA, .slice bB ay.length bA, .slice br au.length bq] 25 (0, 0)) (by (with_reducible repeat (first | refine bf ?_ _ | refine bd ?_ | refine aU ?_ _)); exact cR.out) k_ gl)), Or.elim j8 (fun hs_ => Or.elim hs_ (fun hs_ => fun e_ => Nat.not_le.2 hs_ (by rw [e_]; exact IO.out)) (fun hs_ => fun e_ => Nat.not_le.2 hs_ (by rw [e_]; exact IO.out))) (fun gl => (Kd.gb (g := lv) (o := .cells #[.int .i64 aK, .string aM, .slice fQ cx.length fP, .slice eG bR.length eD] 25 (0, 0)) (by (with_reducible repeat (first | refine bf ?_ _ | refine bd ?_ | refine aU ?_ _)); exact de.out) k_ gl))⟩)) (cG (by repeat (first | (with_reducible first | exact HB.out | apply aQ | apply aY | apply aT | refine ao ?_ g_.out | refine ao ?_ hJ.out) | exact HB.out)))); have ag := bw cR hb; have ah := bw de hb; have am := bn HB hb; clear cR; clear de; clear HB; have s6 := af; have cR := ag; have de := ah; have HB := am; clear af ag ah am; (try clear hb); (try clear hb2); (try clear hk); (try clear hi); (try clear aR); obtain ⟨tB, tt, vt, vR, tK, ul, u1, vw⟩ := d8 de) | ((with_reducible refine dD (f := 30) rfl ?_); refine dC (some 19) rfl rfl Try.func30 (by kernel_rfl) rfl #[.agg #[.int .i64 aK, .string aM, .slice fQ cx.length fP, .slice eG bR.length eD]] rfl MX ?_; (with_reducible refine (mc.calls aK aM (fun k_ => k_ < w.heap.size) _ _ cx (fun k_ => k_ < w.heap.size) _ _ bR bG _ ?aH ?aG A6.out).mono ?_); (case aH => exact Kd.eM tE.out (Kd.lJ (Kd.sP Kd.uq tf.out) (by repeat (first | (with_reducible first | exact HB.out | apply aQ | apply aY | apply aT | refine ao ?_ g_.out | refine ao ?_ hJ.out) | exact HB.out)))); (case aG => exact Kd.eM sU.out (Kd.lJ (Kd.sP GA si.out) (by repeat (first | (with_reducible first | exact HB.out | apply aQ | apply aY | apply aT | refine ao ?_ g_.out | refine ao ?_ hJ.out) | exact HB.out)))); rintro e uX ⟨Fs, rfl, aR, hb⟩; refine ⟨_, rfl, ?_⟩; have af := ae.mk (Kd.oY (by (with_reducible repeat (first | apply Kd.cN | apply Kd.cM | apply Kd.cC)); exact s6.out) (Kd.qh aR) hb); have ag := ae.mk (Kd.G1 (Kd.iO (d5 := fun k_ => some k_ ≠ (Gc : Value).ownBlock ∧ k_ ≠ lw ∧ k_ ≠ lv) aR (fun k_ j8 => ⟨Or.elim j8 (fun hs_ => Or.elim hs_ (fun hs_ => fun e_ => Nat.not_le.2 hs_ (Kd.qh s6.out k_ e_.symm)) (fun hs_ => fun e_ => Nat.not_le.2 hs_ (Kd.qh s6.out k_ e_.symm))) (fun gl => (Kd.Ih (Kd.Eu (by (with_reducible repeat (first | apply Kd.cN | apply Kd.cM | apply Kd.cC)); exact s6.out)) k_ gl)), Or.elim j8 (fun hs_ => Or.elim hs_ (fun hs_ => fun e_ => Nat.not_le.2 hs_ (by rw [e_]; exact H0.out)) (fun hs_ => fun e_ => Nat.not_le.2 hs_ (by rw [e_]; exact H0.out))) (fun gl => (Kd.gb (g := lw) (o := .cells #[.int .i64 aE, .string aA, .slice bB ay.length bA, .slice br au.length bq] 25 (0, 0)) (by (with_reducible repeat (first | refine bf ?_ _ | refine bd ?_ | refine aU ?_ _)); exact cR.out) k_ gl)), Or.elim j8 (fun hs_ => Or.elim hs_ (fun hs_ => fun e_ => Nat.not_le.2 hs_ (by rw [e_]; exact IO.out)) (fun hs_ => fun e_ => Nat.not_le.2 hs_ (by rw [e_]; exact IO.out))) (fun gl => (Kd.gb (g := lv) (o := .cells #[.int .i64 aK, .string aM, .slice fQ cx.length fP, .slice eG bR.length eD] 25 (0, 0)) (by (with_reducible repeat (first | refine bf ?_ _ | refine bd ?_ | refine aU ?_ _)); exact de.out) k_ gl))⟩)) (cG (by repeat (first | (with_reducible first | exact HB.out | apply aQ | apply aY | apply aT | refine ao ?_ g_.out | refine ao ?_ hJ.out) | exact HB.out)))); have ah := bw cR hb; have am := bw de hb; have aJ := bn HB hb; clear s6; clear cR; clear de; clear HB; have s6 := af; have L0 := ag; have cR := ah; have de := am; have HB := aJ; clear af ag ah am aJ; (try clear hb); (try clear hb2); (try clear hk); (try clear hi); (try clear aR)))
 (try simp only [Act.put, List.setIfInBounds_toArray, List.set_cons_zero, List.set_cons_succ])
 go_cut [31] (fun v31 wc => ∃ (kq : Nat) (Io : Bool), v31 = .bool Io ∧ ae (bp.j0 kq l2 l3 bF bG Io = some (r1, r2)) ∧ ae (kq ≤ k) ∧ ae (Kd.N fc 70 wc w.heap.size (fun k_ => some k_ ≠ (Fs : Value).ownBlock ∧ k_ ≠ lw ∧ k_ ≠ lv) Gc bF) ∧ ae (Kd.N fc 70 wc w.heap.size (fun k_ => some k_ ≠ (Gc : Value).ownBlock ∧ k_ ≠ lw ∧ k_ ≠ lv) Fs bG) ∧ ae (wc.heap[lw]? = some (.cells #[.int .i64 aE, .string aA, (.slice bB ay.length bA), (.slice br au.length bq)] 25 (0, 0))) ∧ ae (wc.heap[lv]? = some (.cells #[.int .i64 aK, .string aM, (.slice fQ cx.length fP), (.slice eG bR.length eD)] 25 (0, 0))) ∧ ae (Below w.heap.size w wc))
 case first =>
  have H := yT.out
  clear yT
  replace H := Option.bind_eq_some_iff.mp H
  obtain ⟨Fp, Tv, H⟩ := H
  have T9 := ae.mk Tv
  clear Tv
  by_cases en : Fp = true
  ·subst en
   have H1 : ((gG.f k l3 (bG.length : Int)).bind fun uK => (bp.j0 k l2 l3 bF bG (!uK))) = some (r1, r2) := by rw [if_pos rfl] at H; exact H
   clear H
   have H := H1
   clear H1
   replace H := Option.bind_eq_some_iff.mp H
   obtain ⟨uK, XV, H⟩ := H
   have A17 := ae.mk XV
   clear XV
   have H' := ae.mk H
   clear H
   obtain ⟨awo, amk, aiK⟩ := Kd.gK s6.out
   subst aiK
   go_wp2_with (first | ((with_reducible refine dD (f := 31) rfl ?_); refine dC (some 23) rfl rfl Try.func31 (by kernel_rfl) rfl #[.slice A2 l2.length c2, .int .i64 (bF.length : Int)] rfl MX ?_; (with_reducible refine (gG.calls k _ _ l2 (bF.length : Int) true _ ?aH ?aG T9.out).mono ?_); (case aH => exact CX (Kd.aC gD.out HB.out)); (case aG => exact lO.out); rintro e w' ⟨rfl, ⟨nd, rfl⟩⟩; refine ⟨_, rfl, ?_⟩; obtain ⟨aqK, aoE, ah5⟩ := Kd.gK L0.out; subst ah5) | (go_at_call 31; (with_reducible refine (gG.calls k _ _ l3 (bG.length : Int) uK _ ?aH ?aG A17.out).mono ?_); (case aH => repeat (first | exact (Kd.aC qr.out (by repeat (first | (with_reducible first | exact HB.out | apply aQ | apply aY | apply aT | refine ao ?_ g_.out | refine ao ?_ hJ.out) | exact HB.out))) | (with_reducible refine Kd.dH ?_ _) | (with_reducible refine Kd.dM ?_ _) | (with_reducible refine Kd.cH ?_))); (case aG => exact rG.out); rintro e w' ⟨rfl, ⟨nd, rfl⟩⟩))
   go_meet
   case rel => exact ⟨_, (!uK), SX, H', ⟨by first | omega | exact Nat.le_refl _⟩, ⟨by (with_reducible repeat (first | apply Kd.cN | apply Kd.cM | apply Kd.cC)); exact Kd.iO s6.out (fun _ hk => ⟨hk.2, ⟨hk.1.1, hk.1.2⟩⟩)⟩, ⟨by (with_reducible repeat (first | apply Kd.cN | apply Kd.cM | apply Kd.cC)); exact L0.out⟩, ⟨by (with_reducible repeat (first | refine bf ?_ _ | refine bd ?_ | refine aU ?_ _)); exact cR.out⟩, ⟨by (with_reducible repeat (first | refine bf ?_ _ | refine bd ?_ | refine aU ?_ _)); exact de.out⟩, ⟨by repeat (first | (with_reducible first | exact HB.out | apply aQ | apply aY | apply aT | refine ao ?_ g_.out | refine ao ?_ hJ.out) | exact HB.out)⟩⟩
  ·replace en := Bool.eq_false_iff.mpr en
   subst en
   have H1 : (bp.j0 k l2 l3 bF bG true) = some (r1, r2) := by rw [if_neg (show ¬ (false = true) by decide)] at H; exact H
   clear H
   have H := H1
   clear H1
   have H' := ae.mk H
   clear H
   obtain ⟨atM, arS, Zf⟩ := Kd.gK s6.out
   subst Zf
   go_wp2_with (first | ((with_reducible refine dD (f := 31) rfl ?_); refine dC (some 23) rfl rfl Try.func31 (by kernel_rfl) rfl #[.slice A2 l2.length c2, .int .i64 (bF.length : Int)] rfl MX ?_; (with_reducible refine (gG.calls k _ _ l2 (bF.length : Int) false _ ?aH ?aG T9.out).mono ?_); (case aH => exact CX (Kd.aC gD.out HB.out)); (case aG => exact lO.out); rintro e w' ⟨rfl, ⟨nd, rfl⟩⟩; refine ⟨_, rfl, ?_⟩))
   go_meet
   case rel => exact ⟨_, (true), SX, H', ⟨by first | omega | exact Nat.le_refl _⟩, ⟨by (with_reducible repeat (first | apply Kd.cN | apply Kd.cM | apply Kd.cC)); exact Kd.iO s6.out (fun _ hk => ⟨hk.2, ⟨hk.1.1, hk.1.2⟩⟩)⟩, ⟨by (with_reducible repeat (first | apply Kd.cN | apply Kd.cM | apply Kd.cC)); exact L0.out⟩, ⟨by (with_reducible repeat (first | refine bf ?_ _ | refine bd ?_ | refine aU ?_ _)); exact cR.out⟩, ⟨by (with_reducible repeat (first | refine bf ?_ _ | refine bd ?_ | refine aU ?_ _)); exact de.out⟩, ⟨by repeat (first | (with_reducible first | exact HB.out | apply aQ | apply aY | apply aT | refine ao ?_ g_.out | refine ao ?_ hJ.out) | exact HB.out)⟩⟩
 case rest =>
  clear yT
  try clear c1
  try clear c2
  try clear p2
  try clear c3
  try clear dO
  try clear gf
  try clear en
  try clear yH
  try clear wi
  try clear xE
  try clear zx
  try clear tB
  try clear tt
  try clear vt
  try clear vR
  try clear zJ
  try clear wg
  try clear xS
  try clear xa
  try clear tK
  try clear ul
  try clear u1
  try clear vw
  obtain ⟨kq, Io, rfl, HA, lD, b8, bP, cR, de, HB⟩ := hcut
  cases kq with
  | zero => exact absurd HA.out (by simp [bp.j0])
  | succ vF =>
   have H := HA.out
   clear HA
   simp only [bp.j0] at H
   by_cases kS : Io = true
   ·subst kS
    have H1 : (some (([] : List (aw)), 15)) = some (r1, r2) := by rw [if_pos rfl] at H; exact H
    clear H
    have H := H1
    clear H1
    simp only [Option.some.injEq, Prod.mk.injEq] at H
    obtain ⟨rfl, rfl⟩ := H
    go_wp2
    go_ret2
    exact ⟨_, by first | rfl | (simp [bY, bX] <;> rfl) | (simp [*, bY, bX] <;> rfl), NX, by repeat (first | (with_reducible first | exact HB.out | apply aQ | apply aY | apply aT | refine ao ?_ g_.out | refine ao ?_ hJ.out) | exact HB.out)⟩
   ·replace kS := Bool.eq_false_iff.mpr kS
    subst kS
    have H1 : (bp.l0 vF l2 l3 bF bG ([] : List (aw)) 0) = some (r1, r2) := by rw [if_neg (show ¬ (false = true) by decide)] at H; exact H
    clear H
    have H := H1
    clear H1
    have H' := ae.mk H
    clear H
    go_wp2
    go_loopg [12, 13] vF (fun kq v12 yW w' => ∃ (fD : List (aw)) (aZ : Int), yW = .int .i64 aZ ∧ ae (bp.l0 kq l2 l3 bF bG fD aZ = some (r1, r2)) ∧ ae (kq ≤ vF) ∧ ae (Kd.N fc 70 w' w.heap.size (fun k_ => some k_ ≠ (Fs : Value).ownBlock ∧ some k_ ≠ (v12 : Value).ownBlock ∧ k_ ≠ lw ∧ k_ ≠ lv) Gc bF) ∧ ae (Kd.N fc 70 w' w.heap.size (fun k_ => some k_ ≠ (Gc : Value).ownBlock ∧ some k_ ≠ (v12 : Value).ownBlock ∧ k_ ≠ lw ∧ k_ ≠ lv) Fs bG) ∧ ae (Kd.R dT 48 w' w.heap.size (fun _ => True) v12 fD) ∧ ae (w'.heap[lw]? = some (.cells #[.int .i64 aE, .string aA, (.slice bB ay.length bA), (.slice br au.length bq)] 25 (0, 0))) ∧ ae (w'.heap[lv]? = some (.cells #[.int .i64 aK, .string aM, (.slice fQ cx.length fP), (.slice eG bR.length eD)] 25 (0, 0))) ∧ ae (Below w.heap.size w w'))
    case atStart => exact ⟨(([] : List (aw))), (0), SX, H', ⟨Nat.le_refl _⟩, ⟨by (with_reducible repeat (first | apply Kd.cN | apply Kd.cM | apply Kd.cC)); exact Kd.iO b8.out (fun _ hk => ⟨hk.1, ⟨(by simp [Value.ownBlock]), ⟨hk.2.1, hk.2.2⟩⟩⟩)⟩, ⟨by (with_reducible repeat (first | apply Kd.cN | apply Kd.cM | apply Kd.cC)); exact Kd.iO bP.out (fun _ hk => ⟨hk.1, ⟨(by simp [Value.ownBlock]), ⟨hk.2.1, hk.2.2⟩⟩⟩)⟩, ⟨NX⟩, ⟨by (with_reducible repeat (first | refine bf ?_ _ | refine bd ?_ | refine aU ?_ _)); exact cR.out⟩, ⟨by (with_reducible repeat (first | refine bf ?_ _ | refine bd ?_ | refine aU ?_ _)); exact de.out⟩, ⟨by repeat (first | (with_reducible first | exact HB.out | apply aQ | apply aY | apply aT | refine ao ?_ g_.out | refine ao ?_ hJ.out) | exact HB.out)⟩⟩
    case round =>
     clear H'
     try clear c1
     try clear c2
     try clear p2
     try clear c3
     try clear dO
     try clear gf
     try clear en
     try clear kS
     try clear yH
     try clear wi
     try clear xE
     try clear zx
     try clear tB
     try clear tt
     try clear vt
     try clear vR
     try clear zJ
     try clear wg
     try clear xS
     try clear xa
     try clear tK
     try clear ul
     try clear u1
     try clear vw
     try clear p2
     obtain ⟨fD, aZ, rfl, HA, eP, b8, bP, cT, cR, de, HB⟩ := hrel
     cases gk with
     | zero => exact absurd HA.out (by simp [bp.l0])
     | succ k2 =>
      have H := HA.out
      clear HA
      simp only [bp.l0] at H
      by_cases gQ : aZ < (bF.length : Int)
      ·rw [if_pos gQ] at H
       have ui : decide (aZ < (bF.length : Int)) = true := decide_eq_true gQ
       clear gQ
       by_cases mL : 0 ≤ aZ
       ·rw [if_pos mL] at H
        have K4 : decide (0 ≤ aZ) = true := decide_eq_true mL
        clear mL
        by_cases lP : aZ < (l2.length : Int)
        ·rw [if_pos lP] at H
         have He : decide (aZ < (l2.length : Int)) = true := decide_eq_true lP
         clear lP
         replace H := Option.bind_eq_some_iff.mp H
         obtain ⟨bl, UM, H⟩ := H
         have SN := ae.mk UM
         clear UM
         by_cases jN : bl < 0
         ·rw [if_pos jN] at H
          have BI : decide (bl < 0) = true := decide_eq_true jN
          clear jN
          replace H := Option.bind_eq_some_iff.mp H
          obtain ⟨I8, Wb, H⟩ := H
          have A27 := ae.mk Wb
          clear Wb
          have H' := ae.mk H
          clear H
          obtain ⟨atn, avk, afn⟩ := Kd.gK b8.out
          subst afn
          have sV : 0 ≤ (aZ : Int) := of_decide_eq_true AX
          have sE : aZ < (l2.length : Int) := of_decide_eq_true AX
          obtain ⟨tV, e329, sM⟩ := Kd.dB gD.out aZ sV sE
          cases e329
          replace sM := (HB.out.cell (World.block_lt_of_cell? w _ sM)).trans sM
          replace sV := eq_true sV
          replace sE := eq_true sE
          go_wp2_with (first | ((with_reducible refine dD (f := 32) rfl ?_); refine dC (some 43) rfl rfl Try.func32 (by kernel_rfl) rfl #[.slice A3 l3.length c3, .int .i64 (rd l2 aZ)] rfl MX ?_; (with_reducible refine (gq.calls k2 _ _ l3 (rd l2 aZ) bl _ ?aH ?aG SN.out).mono ?_); (case aH => exact CX (Kd.aC qr.out HB.out)); (case aG => exact rG.out); rintro e w' ⟨rfl, ⟨nd, rfl⟩⟩; refine ⟨_, rfl, ?_⟩; have zM : 0 ≤ (aZ : Int) := of_decide_eq_true AX; have z8 : aZ < (l2.length : Int) := of_decide_eq_true AX; obtain ⟨aew, e331, Bx⟩ := Kd.dB gD.out aZ zM z8; obtain rfl : tV = aew := (by injection e331); replace Bx := (HB.out.cell (World.block_lt_of_cell? w _ Bx)).trans Bx; replace zM := eq_true zM; replace z8 := eq_true z8; obtain ⟨ajt, aeX, afZ⟩ := Kd.bm cT.out; subst afZ) | ((with_reducible refine dD (f := 33) rfl ?_); refine dC (some 52) rfl rfl Try.func33 (by kernel_rfl) rfl #[.slice ajt fD.length aeX, .agg #[.int .i64 (rd l2 aZ), .int .i64 2]] rfl MX ?_; (with_reducible refine (dK.calls k2 _ _ fD (rd l2 aZ) 2 I8 _ ?aH ?aG A27.out).mono ?_); (case aH => exact CX ((Kd.b_ cT.out).2.2)); (case aG => exact (Kd.b_ cT.out).2.1); rintro e Kh ⟨ale, rfl, aR, hb⟩; refine ⟨_, rfl, ?_⟩; have af := ae.mk (Kd.oY (by (with_reducible repeat (first | apply Kd.cN | apply Kd.cM | apply Kd.cC)); exact b8.out) (Kd.aV aR) hb); have ag := ae.mk (Kd.oY (by (with_reducible repeat (first | apply Kd.cN | apply Kd.cM | apply Kd.cC)); exact bP.out) (Kd.aV aR) hb); have ah := ae.mk (Kd.b7 (RX cT.out) (Kd.aV aR) hb); have am := ae.mk (Kd.eB (Kd.bh aR (Kd.bg (RX cT.out))) (cG (by repeat (first | (with_reducible first | exact HB.out | apply aQ | apply aY | apply aT | refine ao ?_ g_.out | refine ao ?_ hJ.out) | exact HB.out)))); have aJ := bw cR hb; have aW := bw de hb; have be := bn HB hb; clear b8; clear bP; clear cT; clear cR; clear de; clear HB; have b8 := af; have bP := ag; have cT := ah; have abH := am; have cR := aJ; have de := aW; have HB := be; clear af ag ah am aJ aW be; (try clear hb); (try clear hb2); (try clear hk); (try clear hi); (try clear aR)))
          go_roundg k2
          case measure => have := lD.out; have := eP.out; omega
          case rel => exact ⟨(I8), (wrap64 (aZ + 1)), SX, H', ⟨by have := lD.out; have := eP.out; omega⟩, ⟨by (with_reducible repeat (first | apply Kd.cN | apply Kd.cM | apply Kd.cC)); exact Kd.iO b8.out (fun _ hk => ⟨hk.1.1, ⟨hk.2, ⟨hk.1.2.2.1, hk.1.2.2.2⟩⟩⟩)⟩, ⟨by (with_reducible repeat (first | apply Kd.cN | apply Kd.cM | apply Kd.cC)); exact Kd.iO bP.out (fun _ hk => ⟨hk.1.1, ⟨hk.2, ⟨hk.1.2.2.1, hk.1.2.2.2⟩⟩⟩)⟩, ⟨by (with_reducible repeat (first | apply Kd.nX | apply Kd.ot | apply Kd.jj)); exact Kd.cm abH.out (fun _ hk => trivial)⟩, ⟨by (with_reducible repeat (first | refine bf ?_ _ | refine bd ?_ | refine aU ?_ _)); exact cR.out⟩, ⟨by (with_reducible repeat (first | refine bf ?_ _ | refine bd ?_ | refine aU ?_ _)); exact de.out⟩, ⟨by repeat (first | (with_reducible first | exact HB.out | apply aQ | apply aY | apply aT | refine ao ?_ g_.out | refine ao ?_ hJ.out) | exact HB.out)⟩⟩
         ·rw [if_neg jN] at H
          have BI : decide (bl < 0) = false := decide_eq_false jN
          clear jN
          replace H := Option.bind_eq_some_iff.mp H
          obtain ⟨uQ, CJ, H⟩ := H
          have Mg := ae.mk CJ
          clear CJ
          replace H := Option.bind_eq_some_iff.mp H
          obtain ⟨vx, Yc, H⟩ := H
          have A32 := ae.mk Yc
          clear Yc
          have Rp := ae.mk H
          clear H
          obtain ⟨Jp, vI, ON⟩ := Kd.gK b8.out
          subst ON
          have sV : 0 ≤ (aZ : Int) := of_decide_eq_true AX
          have sE : aZ < (l2.length : Int) := of_decide_eq_true AX
          obtain ⟨tV, e329, sM⟩ := Kd.dB gD.out aZ sV sE
          cases e329
          replace sM := (HB.out.cell (World.block_lt_of_cell? w _ sM)).trans sM
          replace sV := eq_true sV
          replace sE := eq_true sE
          go_upto_if 61 with (first | ((with_reducible refine dD (f := 32) rfl ?_); refine dC (some 43) rfl rfl Try.func32 (by kernel_rfl) rfl #[.slice A3 l3.length c3, .int .i64 (rd l2 aZ)] rfl MX ?_; (with_reducible refine (gq.calls k2 _ _ l3 (rd l2 aZ) bl _ ?aH ?aG SN.out).mono ?_); (case aH => exact CX (Kd.aC qr.out HB.out)); (case aG => exact rG.out); rintro e w' ⟨rfl, ⟨nd, rfl⟩⟩; refine ⟨_, rfl, ?_⟩) | ((with_reducible refine dD (f := 34) rfl ?_); refine dC (some 56) rfl rfl Try.func34 (by kernel_rfl) rfl #[.slice Jp bF.length vI, .slice (some tV) l2.length c2, .int .i64 aZ] rfl MX ?_; (with_reducible refine (r_.calls _ _ bF _ _ l2 aZ uQ _ ?aH ?aG ?bt ?bv Mg.out).mono ?_); (case aH => exact CX ((Kd.bW b8.out).2.2)); (case aG => exact (Kd.bW b8.out).2.1); (case bt => repeat (first | exact (Kd.aC gD.out (by repeat (first | (with_reducible first | exact HB.out | apply aQ | apply aY | apply aT | refine ao ?_ g_.out | refine ao ?_ hJ.out) | exact HB.out))) | (with_reducible refine Kd.dH ?_ _) | (with_reducible refine Kd.dM ?_ _) | (with_reducible refine Kd.cH ?_))); (case bv => exact lO.out); rintro e w' ⟨rfl, ⟨nd, rfl⟩⟩; refine ⟨_, rfl, ?_⟩; obtain ⟨uF, qF, yR⟩ := Kd.gK bP.out; subst yR) | ((with_reducible refine dD (f := 34) rfl ?_); refine dC (some 60) rfl rfl Try.func34 (by kernel_rfl) rfl #[.slice uF bG.length qF, .slice A3 l3.length c3, .int .i64 bl] rfl MX ?_; (with_reducible refine (r_.calls _ _ bG _ _ l3 bl vx _ ?aH ?aG ?bt ?bv A32.out).mono ?_); (case aH => exact CX ((Kd.bW bP.out).2.2)); (case aG => exact (Kd.bW bP.out).2.1); (case bt => repeat (first | exact (Kd.aC qr.out (by repeat (first | (with_reducible first | exact HB.out | apply aQ | apply aY | apply aT | refine ao ?_ g_.out | refine ao ?_ hJ.out) | exact HB.out))) | (with_reducible refine Kd.dH ?_ _) | (with_reducible refine Kd.dM ?_ _) | (with_reducible refine Kd.cH ?_))); (case bv => exact rG.out); rintro e w' ⟨rfl, ⟨nd, rfl⟩⟩; refine ⟨_, rfl, ?_⟩))
          (try simp only [Act.put, List.setIfInBounds_toArray, List.set_cons_zero, List.set_cons_succ])
          go_cut [12] (fun v12 wc => ∃ (kq : Nat) (AU : List (aw)), ae (bp.j2 kq l2 l3 bF bG AU aZ bl = some (r1, r2)) ∧ ae (kq ≤ k2) ∧ ae (Kd.N fc 70 wc w.heap.size (fun k_ => some k_ ≠ ((.slice uF bG.length qF) : Value).ownBlock ∧ some k_ ≠ (v12 : Value).ownBlock ∧ k_ ≠ lw ∧ k_ ≠ lv) (.slice Jp bF.length vI) bF) ∧ ae (Kd.N fc 70 wc w.heap.size (fun k_ => some k_ ≠ ((.slice Jp bF.length vI) : Value).ownBlock ∧ some k_ ≠ (v12 : Value).ownBlock ∧ k_ ≠ lw ∧ k_ ≠ lv) (.slice uF bG.length qF) bG) ∧ ae (Kd.R dT 48 wc w.heap.size (fun _ => True) v12 AU) ∧ ae (wc.heap[lw]? = some (.cells #[.int .i64 aE, .string aA, (.slice bB ay.length bA), (.slice br au.length bq)] 25 (0, 0))) ∧ ae (wc.heap[lv]? = some (.cells #[.int .i64 aK, .string aM, (.slice fQ cx.length fP), (.slice eG bR.length eD)] 25 (0, 0))) ∧ ae (Below w.heap.size w wc))
          case first =>
           have H := Rp.out
           clear Rp
           by_cases ro : uQ = vx
           ·rw [if_pos ro] at H
            have vY : (uQ == vx) = true := beq_iff_eq.mpr ro
            have Ji : (uQ != vx) = false := bne_eq_false_iff_eq.mpr ro
            clear ro
            (first | rw [vY] | (simp only [gY, gX]; rw [vY]) | skip)
            have H' := ae.mk H
            clear H
            go_wp2
            go_meet
            case rel => exact ⟨_, (fD), H', ⟨by have := lD.out; have := eP.out; first | omega | exact Nat.le_refl _⟩, ⟨by (with_reducible repeat (first | apply Kd.cN | apply Kd.cM | apply Kd.cC)); exact b8.out⟩, ⟨by (with_reducible repeat (first | apply Kd.cN | apply Kd.cM | apply Kd.cC)); exact bP.out⟩, ⟨RX cT.out⟩, ⟨by (with_reducible repeat (first | refine bf ?_ _ | refine bd ?_ | refine aU ?_ _)); exact cR.out⟩, ⟨by (with_reducible repeat (first | refine bf ?_ _ | refine bd ?_ | refine aU ?_ _)); exact de.out⟩, ⟨by repeat (first | (with_reducible first | exact HB.out | apply aQ | apply aY | apply aT | refine ao ?_ g_.out | refine ao ?_ hJ.out) | exact HB.out)⟩⟩
           ·rw [if_neg ro] at H
            have vY : (uQ == vx) = false := beq_eq_false_iff_ne.mpr ro
            have Ji : (uQ != vx) = true := bne_iff_ne.mpr ro
            (first | rw [vY] | (simp only [gY, gX]; rw [vY]) | skip)
            replace H := Option.bind_eq_some_iff.mp H
            obtain ⟨I1, V5, H⟩ := H
            have A37 := ae.mk V5
            clear V5
            have H' := ae.mk H
            clear H
            have BE : 0 ≤ (aZ : Int) := of_decide_eq_true AX
            have BQ : aZ < (l2.length : Int) := of_decide_eq_true AX
            obtain ⟨Zw, ako, B7⟩ := Kd.dB gD.out aZ BE BQ
            obtain rfl : tV = Zw := (by injection ako)
            replace B7 := (HB.out.cell (World.block_lt_of_cell? w _ B7)).trans B7
            replace BE := eq_true BE
            replace BQ := eq_true BQ
            obtain ⟨D9, CR, yB⟩ := Kd.bm cT.out
            subst yB
            go_wp2_with (first | ((with_reducible refine dD (f := 33) rfl ?_); refine dC (some 68) rfl rfl Try.func33 (by kernel_rfl) rfl #[.slice D9 fD.length CR, .agg #[.int .i64 (rd l2 aZ), .int .i64 3]] rfl MX ?_; (with_reducible refine (dK.calls k2 _ _ fD (rd l2 aZ) 3 I1 _ ?aH ?aG A37.out).mono ?_); (case aH => exact CX ((Kd.b_ cT.out).2.2)); (case aG => exact (Kd.b_ cT.out).2.1); rintro e w39 ⟨asP, rfl, aR, hb⟩; refine ⟨_, rfl, ?_⟩; have af := ae.mk (Kd.oY (by (with_reducible repeat (first | apply Kd.cN | apply Kd.cM | apply Kd.cC)); exact b8.out) (Kd.aV aR) hb); have ag := ae.mk (Kd.oY (by (with_reducible repeat (first | apply Kd.cN | apply Kd.cM | apply Kd.cC)); exact bP.out) (Kd.aV aR) hb); have ah := ae.mk (Kd.b7 (RX cT.out) (Kd.aV aR) hb); have am := ae.mk (Kd.eB (Kd.bh aR (Kd.bg (RX cT.out))) (cG (by repeat (first | (with_reducible first | exact HB.out | apply aQ | apply aY | apply aT | refine ao ?_ g_.out | refine ao ?_ hJ.out) | exact HB.out)))); have aJ := bw cR hb; have aW := bw de hb; have be := bn HB hb; clear b8; clear bP; clear cT; clear cR; clear de; clear HB; have b8 := af; have bP := ag; have cT := ah; have ahc := am; have cR := aJ; have de := aW; have HB := be; clear af ag ah am aJ aW be; (try clear hb); (try clear hb2); (try clear hk); (try clear hi); (try clear aR)))
            go_meet
            case rel => exact ⟨_, (I1), H', ⟨by have := lD.out; have := eP.out; first | omega | exact Nat.le_refl _⟩, ⟨by (with_reducible repeat (first | apply Kd.cN | apply Kd.cM | apply Kd.cC)); exact Kd.iO b8.out (fun _ hk => ⟨hk.1.1, ⟨hk.2, ⟨hk.1.2.2.1, hk.1.2.2.2⟩⟩⟩)⟩, ⟨by (with_reducible repeat (first | apply Kd.cN | apply Kd.cM | apply Kd.cC)); exact Kd.iO bP.out (fun _ hk => ⟨hk.1.1, ⟨hk.2, ⟨hk.1.2.2.1, hk.1.2.2.2⟩⟩⟩)⟩, ⟨by (with_reducible repeat (first | apply Kd.nX | apply Kd.ot | apply Kd.jj)); exact Kd.cm ahc.out (fun _ hk => trivial)⟩, ⟨by (with_reducible repeat (first | refine bf ?_ _ | refine bd ?_ | refine aU ?_ _)); exact cR.out⟩, ⟨by (with_reducible repeat (first | refine bf ?_ _ | refine bd ?_ | refine aU ?_ _)); exact de.out⟩, ⟨by repeat (first | (with_reducible first | exact HB.out | apply aQ | apply aY | apply aT | refine ao ?_ g_.out | refine ao ?_ hJ.out) | exact HB.out)⟩⟩
          case rest =>
           clear Rp
           try clear c1
           try clear c2
           try clear p2
           try clear c3
           try clear p3
           try clear q3
           try clear kE
           try clear p6
           try clear dO
           try clear gf
           try clear en
           try clear kS
           try clear gQ
           try clear ui
           try clear mL
           try clear K4
           try clear lP
           try clear He
           try clear jN
           try clear BI
           try clear mr
           try clear rN
           try clear AY
           try clear Jf
           try clear Ii
           try clear X4
           try clear RK
           try clear JX
           try clear JJ
           try clear Uj
           try clear TD
           try clear ro
           try clear vY
           try clear Ji
           try clear yH
           try clear wi
           try clear xE
           try clear zx
           try clear tB
           try clear tt
           try clear vt
           try clear vR
           try clear zJ
           try clear wg
           try clear xS
           try clear xa
           try clear tK
           try clear ul
           try clear u1
           try clear vw
           try clear sM
           try clear Bx
           try clear B7
           try clear p2
           try clear sV
           try clear zM
           try clear BE
           try clear sE
           try clear z8
           try clear BQ
           obtain ⟨kq, AU, HA, vr, b8, bP, cT, cR, de, HB⟩ := hcut
           cases kq with
           | zero => exact absurd HA.out (by simp [bp.j2])
           | succ Tc =>
            have H := HA.out
            clear HA
            simp only [bp.j2] at H
            by_cases xI : 0 ≤ aZ
            ·rw [if_pos xI] at H
             have Va : decide (0 ≤ aZ) = true := decide_eq_true xI
             clear xI
             by_cases yo : aZ < (bF.length : Int)
             ·rw [if_pos yo] at H
              have Td : decide (aZ < (bF.length : Int)) = true := decide_eq_true yo
              clear yo
              by_cases uB : 0 ≤ bl
              ·rw [if_pos uB] at H
               have UE : decide (0 ≤ bl) = true := decide_eq_true uB
               clear uB
               by_cases xy : bl < (bG.length : Int)
               ·rw [if_pos xy] at H
                have Wt : decide (bl < (bG.length : Int)) = true := decide_eq_true xy
                clear xy
                have Pv := ae.mk H
                clear H
                try go_wp2
                have af := ae.mk (Kd.cC b8.out)
                have ag := ae.mk (Kd.cC bP.out)
                have ah := ae.mk (Kd.jj cT.out)
                have am := ae.mk (bd cR.out)
                have aJ := ae.mk (bd de.out)
                have aW := ae.mk (aT HB.out)
                clear b8
                clear bP
                clear cT
                clear cR
                clear de
                clear HB
                have b8 := af
                have bP := ag
                have cT := ah
                have cR := am
                have de := aJ
                have HB := aW
                clear af ag ah am aJ aW
                have BJ : 0 ≤ (aZ : Int) := of_decide_eq_true AX
                have BB : aZ < (bF.length : Int) := of_decide_eq_true AX
                obtain ⟨fR, Vt, avh, UD, auE, aay, Jm, Hr, K5, EO, EG, UX, Xh, SW, WB⟩ := gv (Kd.bW b8.out).2.2 aZ BJ BB
                cases aay
                obtain ⟨an', ab4, aes, OI⟩ := Kd.lL b8.out z70 aZ BJ (by first | exact BB | exact of_decide_eq_true AX | (have e_ := (Kd.bW b8.out).1; omega))
                obtain ⟨ava, avo, atj, avz, rfl, LG, OS, NE, MA⟩ := lX aes
                have J' := OI 3 _ rfl
                rw [ea _ _ 3 (by omega)] at J'
                replace J' := Option.some.inj (J'.symm.trans EO)
                injection J' with bD cI bE
                rw [bD] at OS
                rw [bE] at LG
                have JZ := ae.mk (show Kd.V Kd.string 9 _ w.heap.size _ _ ((aD bF aZ).f3) from Kd.eM LG OS)
                clear bD cI bE OS LG
                have KC := OI 4 _ rfl
                rw [ea _ _ 4 (by omega)] at KC
                replace KC := Option.some.inj (KC.symm.trans EG)
                injection KC with bD cI bE
                rw [bD] at MA
                rw [bE] at NE
                have Iq := ae.mk (show Kd.V (Kd.int .i64) 3 _ w.heap.size _ _ ((aD bF aZ).f4) from Kd.eM NE MA)
                clear bD cI bE MA NE
                clear OI ab4
                have gB := ae.mk Xh
                have asR := ae.mk UX
                clear Xh UX
                have gF := ae.mk WB
                have atl := ae.mk SW
                clear WB SW
                replace BJ := eq_true BJ
                replace BB := eq_true BB
                have AL : 0 ≤ (bl : Int) := of_decide_eq_true AX
                have Ae : bl < (bG.length : Int) := of_decide_eq_true AX
                obtain ⟨fK, UR, aoB, Ys, amZ, aaG, J5, KY, I', E0, Dk, Ul, UA, YK, X'⟩ := gv (Kd.bW bP.out).2.2 bl AL Ae
                cases aaG
                obtain ⟨aoS, abU, aeZ, Ln⟩ := Kd.lL bP.out z70 bl AL (by first | exact Ae | exact of_decide_eq_true AX | (have e_ := (Kd.bW bP.out).1; omega))
                obtain ⟨arA, ayt, akN, ayn, rfl, Qf, Oc, PJ, Lo⟩ := lX aeZ
                have J2 := Ln 3 _ rfl
                rw [ea _ _ 3 (by omega)] at J2
                replace J2 := Option.some.inj (J2.symm.trans E0)
                injection J2 with bD cI bE
                rw [bD] at Oc
                rw [bE] at Qf
                have Ie := ae.mk (show Kd.V Kd.string 9 _ w.heap.size _ _ ((aD bG bl).f3) from Kd.eM Qf Oc)
                clear bD cI bE Oc Qf
                have JN := Ln 4 _ rfl
                rw [ea _ _ 4 (by omega)] at JN
                replace JN := Option.some.inj (JN.symm.trans Dk)
                injection JN with bD cI bE
                rw [bD] at Lo
                rw [bE] at PJ
                have Ke := ae.mk (show Kd.V (Kd.int .i64) 3 _ w.heap.size _ _ ((aD bG bl).f4) from Kd.eM PJ Lo)
                clear bD cI bE Lo PJ
                clear Ln abU
                have gE := ae.mk UA
                have aw1 := ae.mk Ul
                clear UA Ul
                have gC := ae.mk X'
                have arU := ae.mk YK
                clear X' YK
                replace AL := eq_true AL
                replace Ae := eq_true Ae
                refine Bz (n := 11) (S := fun w' => w'.cell? (fR.add ((aZ).toNat * 5)) = some (.int .i64 ((aD bF aZ).f0)) ∧ w'.cell? ⟨(fR.add ((aZ).toNat * 5)).block, (fR.add ((aZ).toNat * 5)).off + 1, none⟩ = some (.int .i64 ((aD bF aZ).f1)) ∧ w'.cell? ⟨(fR.add ((aZ).toNat * 5)).block, (fR.add ((aZ).toNat * 5)).off + 2, none⟩ = some (.string ((aD bF aZ).f2)) ∧ w'.cell? ⟨(fR.add ((aZ).toNat * 5)).block, (fR.add ((aZ).toNat * 5)).off + 3, none⟩ = some (.slice _ ((aD bF aZ).f3).length _) ∧ w'.cell? ⟨(fR.add ((aZ).toNat * 5)).block, (fR.add ((aZ).toNat * 5)).off + 4, none⟩ = some (.slice _ ((aD bF aZ).f4).length _) ∧ w'.cell? (fK.add ((bl).toNat * 5)) = some (.int .i64 ((aD bG bl).f0)) ∧ w'.cell? ⟨(fK.add ((bl).toNat * 5)).block, (fK.add ((bl).toNat * 5)).off + 1, none⟩ = some (.int .i64 ((aD bG bl).f1)) ∧ w'.cell? ⟨(fK.add ((bl).toNat * 5)).block, (fK.add ((bl).toNat * 5)).off + 2, none⟩ = some (.string ((aD bG bl).f2)) ∧ w'.cell? ⟨(fK.add ((bl).toNat * 5)).block, (fK.add ((bl).toNat * 5)).off + 3, none⟩ = some (.slice _ ((aD bG bl).f3).length _) ∧ w'.cell? ⟨(fK.add ((bl).toNat * 5)).block, (fK.add ((bl).toNat * 5)).off + 4, none⟩ = some (.slice _ ((aD bG bl).f4).length _)) (ds := []) #[false, false, false, false, false, false, false, false, false, false, false] (by kernel_rfl) rfl rfl ⟨Jm, Hr, K5, EO, EG, J5, KY, I', E0, Dk⟩ (fun hHeld => ?_); refine Ac bp.Zg bp.aj5 (fun cQ nz => ?_)
                generalize wc.drew = UK at b8 bP cT cR de HB JZ Iq Ie Ke gB gF gE gC Jm Hr K5 EO EG J5 KY I' E0 Dk hHeld ⊢
                refine PU 0 69 cQ ?_
                refine PU 1 70 cQ ?_
                refine PU 2 71 cQ ?_
                refine PU 3 72 cQ ?_
                refine PU 5 74 cQ ?_
                refine PU 6 75 cQ ?_
                refine PU 7 76 cQ ?_
                refine PU 8 77 cQ ?_
                refine TU 4 73 cQ nz hHeld ?_
                refine TU 9 78 cQ nz hHeld ?_
                refine PU 10 79 cQ ?_
                refine AG (Bd cQ.out (by kernel_rfl)) ?_
                go_upto_if 79 with (fail)
                go_cut [12] (fun v12 wc => ∃ (kq : Nat) (uL : List (aw)), ae (bp.j3 kq l2 l3 bF bG uL aZ bl = some (r1, r2)) ∧ ae (kq ≤ Tc) ∧ ae (Kd.N fc 70 wc w.heap.size (fun k_ => some k_ ≠ ((.slice (some fK) bG.length qF) : Value).ownBlock ∧ some k_ ≠ (v12 : Value).ownBlock ∧ k_ ≠ lw ∧ k_ ≠ lv) (.slice (some fR) bF.length vI) bF) ∧ ae (Kd.N fc 70 wc w.heap.size (fun k_ => some k_ ≠ ((.slice (some fR) bF.length vI) : Value).ownBlock ∧ some k_ ≠ (v12 : Value).ownBlock ∧ k_ ≠ lw ∧ k_ ≠ lv) (.slice (some fK) bG.length qF) bG) ∧ ae (Kd.R dT 48 wc w.heap.size (fun _ => True) v12 uL) ∧ ae (wc.heap[lw]? = some (.cells #[.int .i64 aE, .string aA, (.slice bB ay.length bA), (.slice br au.length bq)] 25 (0, 0))) ∧ ae (wc.heap[lv]? = some (.cells #[.int .i64 aK, .string aM, (.slice fQ cx.length fP), (.slice eG bR.length eD)] 25 (0, 0))) ∧ ae (Kd.C Kd.string wc Vt ((aD bF aZ).f3).length ((aD bF aZ).f3)) ∧ ae (Kd.C (Kd.int .i64) wc UD ((aD bF aZ).f4).length ((aD bF aZ).f4)) ∧ ae (Kd.C Kd.string wc UR ((aD bG bl).f3).length ((aD bG bl).f3)) ∧ ae (Kd.C (Kd.int .i64) wc Ys ((aD bG bl).f4).length ((aD bG bl).f4)) ∧ ae (Below w.heap.size w wc))
                case first =>
                 have H := Pv.out
                 clear Pv
                 by_cases pW : ((aD bF aZ).f2).toList = ((aD bG bl).f2).toList
                 ·rw [if_pos pW] at H
                  have zA : (((aD bF aZ).f2).toList == ((aD bG bl).f2).toList) = true := beq_iff_eq.mpr pW
                  have R4 : (((aD bF aZ).f2).toList != ((aD bG bl).f2).toList) = false := bne_eq_false_iff_eq.mpr pW
                  clear pW
                  (first | rw [zA] | (simp only [gY, gX]; rw [zA]) | skip)
                  have H' := ae.mk H
                  clear H
                  go_wp2
                  go_meet
                  case rel => exact ⟨_, (AU), H', ⟨by have := lD.out; have := eP.out; have := vr.out; first | omega | exact Nat.le_refl _⟩, ⟨by (with_reducible repeat (first | apply Kd.cN | apply Kd.cM | apply Kd.cC)); exact b8.out⟩, ⟨by (with_reducible repeat (first | apply Kd.cN | apply Kd.cM | apply Kd.cC)); exact bP.out⟩, ⟨RX cT.out⟩, ⟨by (with_reducible repeat (first | refine bf ?_ _ | refine bd ?_ | refine aU ?_ _)); exact cR.out⟩, ⟨by (with_reducible repeat (first | refine bf ?_ _ | refine bd ?_ | refine aU ?_ _)); exact de.out⟩, ⟨by repeat (first | (with_reducible exact gB.out) | (with_reducible refine Kd.dH ?_ _) | (with_reducible refine Kd.dM ?_ _) | (with_reducible refine Kd.cH ?_) | exact gB.out)⟩, ⟨by repeat (first | (with_reducible exact gF.out) | (with_reducible refine Kd.dH ?_ _) | (with_reducible refine Kd.dM ?_ _) | (with_reducible refine Kd.cH ?_) | exact gF.out)⟩, ⟨by repeat (first | (with_reducible exact gE.out) | (with_reducible refine Kd.dH ?_ _) | (with_reducible refine Kd.dM ?_ _) | (with_reducible refine Kd.cH ?_) | exact gE.out)⟩, ⟨by repeat (first | (with_reducible exact gC.out) | (with_reducible refine Kd.dH ?_ _) | (with_reducible refine Kd.dM ?_ _) | (with_reducible refine Kd.cH ?_) | exact gC.out)⟩, ⟨by repeat (first | (with_reducible first | exact HB.out | apply aQ | apply aY | apply aT | refine ao ?_ g_.out | refine ao ?_ hJ.out) | exact HB.out)⟩⟩
                 ·rw [if_neg pW] at H
                  have zA : (((aD bF aZ).f2).toList == ((aD bG bl).f2).toList) = false := beq_eq_false_iff_ne.mpr pW
                  have R4 : (((aD bF aZ).f2).toList != ((aD bG bl).f2).toList) = true := bne_iff_ne.mpr pW
                  (first | rw [zA] | (simp only [gY, gX]; rw [zA]) | skip)
                  by_cases BT : aZ < (l2.length : Int)
                  ·rw [if_pos BT] at H
                   have XM : decide (aZ < (l2.length : Int)) = true := decide_eq_true BT
                   clear BT
                   replace H := Option.bind_eq_some_iff.mp H
                   obtain ⟨I0, YI, H⟩ := H
                   have A48 := ae.mk YI
                   clear YI
                   have H' := ae.mk H
                   clear H
                   have CN : 0 ≤ (aZ : Int) := of_decide_eq_true AX
                   have E5 : aZ < (l2.length : Int) := of_decide_eq_true AX
                   obtain ⟨aaY, e343, C3⟩ := Kd.dB gD.out aZ CN E5
                   obtain rfl : tV = aaY := (by injection e343)
                   replace C3 := (HB.out.cell (World.block_lt_of_cell? w _ C3)).trans C3
                   replace CN := eq_true CN
                   replace E5 := eq_true E5
                   obtain ⟨Tl, S7, PC⟩ := Kd.bm cT.out
                   subst PC
                   go_wp2_with (first | ((with_reducible refine dD (f := 33) rfl ?_); refine dC (some 86) rfl rfl Try.func33 (by kernel_rfl) rfl #[.slice Tl AU.length S7, .agg #[.int .i64 (rd l2 aZ), .int .i64 4]] rfl MX ?_; (with_reducible refine (dK.calls Tc _ _ AU (rd l2 aZ) 4 I0 _ ?aH ?aG A48.out).mono ?_); (case aH => exact CX ((Kd.b_ cT.out).2.2)); (case aG => exact (Kd.b_ cT.out).2.1); rintro e w50 ⟨aqC, rfl, aR, hb⟩; refine ⟨_, rfl, ?_⟩; have af := ae.mk (Kd.oY (by (with_reducible repeat (first | apply Kd.cN | apply Kd.cM | apply Kd.cC)); exact b8.out) (Kd.aV aR) hb); have ag := ae.mk (Kd.oY (by (with_reducible repeat (first | apply Kd.cN | apply Kd.cM | apply Kd.cC)); exact bP.out) (Kd.aV aR) hb); have ah := ae.mk (Kd.b7 (RX cT.out) (Kd.aV aR) hb); have am := ae.mk (Kd.qv (by (with_reducible repeat (first | apply Kd.l9 | apply Kd.lI | apply Kd.lV)); exact JZ.out) (Kd.aV aR) hb); have aJ := ae.mk (Kd.qv (by (with_reducible repeat (first | apply Kd.l9 | apply Kd.lI | apply Kd.lV)); exact Iq.out) (Kd.aV aR) hb); have aW := ae.mk (Kd.qv (by (with_reducible repeat (first | apply Kd.l9 | apply Kd.lI | apply Kd.lV)); exact Ie.out) (Kd.aV aR) hb); have be := ae.mk (Kd.qv (by (with_reducible repeat (first | apply Kd.l9 | apply Kd.lI | apply Kd.lV)); exact Ke.out) (Kd.aV aR) hb); have bJ := ae.mk (Kd.eB (Kd.bh aR (Kd.bg (RX cT.out))) (cG (by repeat (first | (with_reducible first | exact HB.out | apply aQ | apply aY | apply aT | refine ao ?_ g_.out | refine ao ?_ hJ.out) | exact HB.out)))); have bZ := bw cR hb; have b0 := bw de hb; have cy := eW gB hb; have cA := eW gF hb; have cF := eW gE hb; have db := eW gC hb; have dR := bn HB hb; clear b8; clear bP; clear cT; clear JZ; clear Iq; clear Ie; clear Ke; clear cR; clear de; clear gB; clear gF; clear gE; clear gC; clear HB; have b8 := af; have bP := ag; have cT := ah; have JZ := am; have Iq := aJ; have Ie := aW; have Ke := be; have adW := bJ; have cR := bZ; have de := b0; have gB := cy; have gF := cA; have gE := cF; have gC := db; have HB := dR; clear af ag ah am aJ aW be bJ bZ b0 cy cA cF db dR; (try clear hb); (try clear hb2); (try clear hk); (try clear hi); (try clear aR)))
                   go_meet
                   case rel => exact ⟨_, (I0), H', ⟨by have := lD.out; have := eP.out; have := vr.out; first | omega | exact Nat.le_refl _⟩, ⟨by (with_reducible repeat (first | apply Kd.cN | apply Kd.cM | apply Kd.cC)); exact Kd.iO b8.out (fun _ hk => ⟨hk.1.1, ⟨hk.2, ⟨hk.1.2.2.1, hk.1.2.2.2⟩⟩⟩)⟩, ⟨by (with_reducible repeat (first | apply Kd.cN | apply Kd.cM | apply Kd.cC)); exact Kd.iO bP.out (fun _ hk => ⟨hk.1.1, ⟨hk.2, ⟨hk.1.2.2.1, hk.1.2.2.2⟩⟩⟩)⟩, ⟨by (with_reducible repeat (first | apply Kd.nX | apply Kd.ot | apply Kd.jj)); exact Kd.cm adW.out (fun _ hk => trivial)⟩, ⟨by (with_reducible repeat (first | refine bf ?_ _ | refine bd ?_ | refine aU ?_ _)); exact cR.out⟩, ⟨by (with_reducible repeat (first | refine bf ?_ _ | refine bd ?_ | refine aU ?_ _)); exact de.out⟩, ⟨by repeat (first | (with_reducible exact gB.out) | (with_reducible refine Kd.dH ?_ _) | (with_reducible refine Kd.dM ?_ _) | (with_reducible refine Kd.cH ?_) | exact gB.out)⟩, ⟨by repeat (first | (with_reducible exact gF.out) | (with_reducible refine Kd.dH ?_ _) | (with_reducible refine Kd.dM ?_ _) | (with_reducible refine Kd.cH ?_) | exact gF.out)⟩, ⟨by repeat (first | (with_reducible exact gE.out) | (with_reducible refine Kd.dH ?_ _) | (with_reducible refine Kd.dM ?_ _) | (with_reducible refine Kd.cH ?_) | exact gE.out)⟩, ⟨by repeat (first | (with_reducible exact gC.out) | (with_reducible refine Kd.dH ?_ _) | (with_reducible refine Kd.dM ?_ _) | (with_reducible refine Kd.cH ?_) | exact gC.out)⟩, ⟨by repeat (first | (with_reducible first | exact HB.out | apply aQ | apply aY | apply aT | refine ao ?_ g_.out | refine ao ?_ hJ.out) | exact HB.out)⟩⟩
                  ·rw [if_neg BT] at H
                   exact absurd H (by simp)
                case rest =>
                 clear Pv
                 try clear c1
                 try clear c2
                 try clear p2
                 try clear c3
                 try clear p3
                 try clear q3
                 try clear kE
                 try clear c4
                 try clear p6
                 try clear dO
                 try clear gf
                 try clear en
                 try clear kS
                 try clear gQ
                 try clear ui
                 try clear mL
                 try clear K4
                 try clear lP
                 try clear He
                 try clear jN
                 try clear BI
                 try clear mr
                 try clear rN
                 try clear AY
                 try clear Jf
                 try clear Ii
                 try clear X4
                 try clear RK
                 try clear JX
                 try clear JJ
                 try clear Uj
                 try clear TD
                 try clear WP
                 try clear VG
                 try clear afh
                 try clear ro
                 try clear vY
                 try clear Ji
                 try clear xI
                 try clear Va
                 try clear yo
                 try clear Td
                 try clear uB
                 try clear UE
                 try clear xy
                 try clear Wt
                 try clear pW
                 try clear zA
                 try clear R4
                 try clear BT
                 try clear XM
                 try clear yH
                 try clear wi
                 try clear xE
                 try clear zx
                 try clear tB
                 try clear tt
                 try clear vt
                 try clear vR
                 try clear zJ
                 try clear wg
                 try clear xS
                 try clear xa
                 try clear tK
                 try clear ul
                 try clear u1
                 try clear vw
                 try clear sM
                 try clear Bx
                 try clear B7
                 try clear Jm
                 try clear Hr
                 try clear K5
                 try clear EO
                 try clear EG
                 try clear J5
                 try clear KY
                 try clear I'
                 try clear E0
                 try clear Dk
                 try clear C3
                 try clear p2
                 try clear p3
                 try clear Jf
                 try clear sV
                 try clear JX
                 try clear zM
                 try clear BE
                 try clear BJ
                 try clear AL
                 try clear CN
                 try clear p6
                 try clear q3
                 try clear Ii
                 try clear sE
                 try clear JJ
                 try clear z8
                 try clear BQ
                 try clear BB
                 try clear Ae
                 try clear E5
                 obtain ⟨kq, uL, HA, BN, b8, bP, cT, cR, de, gB, gF, gE, gC, HB⟩ := hcut
                 cases kq with
                 | zero => exact absurd HA.out (by simp [bp.j3])
                 | succ B6 =>
                  have H := HA.out
                  clear HA
                  simp only [bp.j3] at H
                  by_cases sK : 0 ≤ aZ
                  ·rw [if_pos sK] at H
                   have ajp : decide (0 ≤ aZ) = true := decide_eq_true sK
                   clear sK
                   by_cases s5 : aZ < (bF.length : Int)
                   ·rw [if_pos s5] at H
                    have ajV : decide (aZ < (bF.length : Int)) = true := decide_eq_true s5
                    clear s5
                    by_cases AN : 0 ≤ bl
                    ·rw [if_pos AN] at H
                     have ad7 : decide (0 ≤ bl) = true := decide_eq_true AN
                     clear AN
                     by_cases Br : bl < (bG.length : Int)
                     ·rw [if_pos Br] at H
                      have abq : decide (bl < (bG.length : Int)) = true := decide_eq_true Br
                      clear Br
                      replace H := Option.bind_eq_some_iff.mp H
                      obtain ⟨Il, Tb, H⟩ := H
                      have A55 := ae.mk Tb
                      clear Tb
                      have L8 := ae.mk H
                      clear H
                      try go_wp2
                      have af := ae.mk (Kd.cC b8.out)
                      have ag := ae.mk (Kd.cC bP.out)
                      have ah := ae.mk (Kd.jj cT.out)
                      have am := ae.mk (bd cR.out)
                      have aJ := ae.mk (bd de.out)
                      have aW := ae.mk (Kd.cH gB.out)
                      have be := ae.mk (Kd.cH gF.out)
                      have bJ := ae.mk (Kd.cH gE.out)
                      have bZ := ae.mk (Kd.cH gC.out)
                      have b0 := ae.mk (aT HB.out)
                      clear b8
                      clear bP
                      clear cT
                      clear cR
                      clear de
                      clear gB
                      clear gF
                      clear gE
                      clear gC
                      clear HB
                      have b8 := af
                      have bP := ag
                      have cT := ah
                      have cR := am
                      have de := aJ
                      have gB := aW
                      have gF := be
                      have gE := bJ
                      have gC := bZ
                      have HB := b0
                      clear af ag ah am aJ aW be bJ bZ b0
                      have E2 : 0 ≤ (aZ : Int) := of_decide_eq_true AX
                      have FR : aZ < (bF.length : Int) := of_decide_eq_true AX
                      obtain ⟨aat, Tm, aiI, aa8, asA, aeB, PA, Qk, Qc, Ia, Kk, YG, WN, U4, Wa⟩ := gv (Kd.bW b8.out).2.2 aZ E2 FR
                      obtain rfl : fR = aat := (by injection aeB)
                      obtain ⟨amY, Za, agJ, Mq⟩ := Kd.lL b8.out z70 aZ E2 (by first | exact FR | exact of_decide_eq_true AX | (have e_ := (Kd.bW b8.out).1; omega))
                      obtain ⟨axx, ap1, apH, auD, rfl, P5, O', Sj, Pu⟩ := lX agJ
                      have JW := Mq 3 _ rfl
                      rw [ea _ _ 3 (by omega)] at JW
                      replace JW := Option.some.inj (JW.symm.trans Ia)
                      injection JW with bD cI bE
                      rw [bD] at O'
                      rw [bE] at P5
                      have Ig := ae.mk (show Kd.V Kd.string 9 _ w.heap.size _ _ ((aD bF aZ).f3) from Kd.eM P5 O')
                      clear bD cI bE O' P5
                      have IM := Mq 4 _ rfl
                      rw [ea _ _ 4 (by omega)] at IM
                      replace IM := Option.some.inj (IM.symm.trans Kk)
                      injection IM with bD cI bE
                      rw [bD] at Pu
                      rw [bE] at Sj
                      have Kv := ae.mk (show Kd.V (Kd.int .i64) 3 _ w.heap.size _ _ ((aD bF aZ).f4) from Kd.eM Sj Pu)
                      clear bD cI bE Pu Sj
                      clear Mq Za
                      have i9 := ae.mk WN
                      have agD := ae.mk YG
                      clear WN YG
                      have jF := ae.mk Wa
                      have axg := ae.mk U4
                      clear Wa U4
                      replace E2 := eq_true E2
                      replace FR := eq_true FR
                      have Gv : 0 ≤ (bl : Int) := of_decide_eq_true AX
                      have Ge : bl < (bG.length : Int) := of_decide_eq_true AX
                      obtain ⟨agZ, WK, Zy, aaJ, amP, aai, O2, Ol, R7, La, I9, YV, Wp, Xj, Xn⟩ := gv (Kd.bW bP.out).2.2 bl Gv Ge
                      obtain rfl : fK = agZ := (by injection aai)
                      obtain ⟨aud, afe, adb, Oq⟩ := Kd.lL bP.out z70 bl Gv (by first | exact Ge | exact of_decide_eq_true AX | (have e_ := (Kd.bW bP.out).1; omega))
                      obtain ⟨axK, awD, aqA, axe, rfl, Q_, M', QL, Ov⟩ := lX adb
                      have I5 := Oq 3 _ rfl
                      rw [ea _ _ 3 (by omega)] at I5
                      replace I5 := Option.some.inj (I5.symm.trans La)
                      injection I5 with bD cI bE
                      rw [bD] at M'
                      rw [bE] at Q_
                      have K3 := ae.mk (show Kd.V Kd.string 9 _ w.heap.size _ _ ((aD bG bl).f3) from Kd.eM Q_ M')
                      clear bD cI bE M' Q_
                      have H6 := Oq 4 _ rfl
                      rw [ea _ _ 4 (by omega)] at H6
                      replace H6 := Option.some.inj (H6.symm.trans I9)
                      injection H6 with bD cI bE
                      rw [bD] at Ov
                      rw [bE] at QL
                      have I3 := ae.mk (show Kd.V (Kd.int .i64) 3 _ w.heap.size _ _ ((aD bG bl).f4) from Kd.eM QL Ov)
                      clear bD cI bE Ov QL
                      clear Oq afe
                      have i7 := ae.mk Wp
                      have ahu := ae.mk YV
                      clear Wp YV
                      have jB := ae.mk Xn
                      have auv := ae.mk Xj
                      clear Xn Xj
                      replace Gv := eq_true Gv
                      replace Ge := eq_true Ge
                      refine Bz (n := 12) (S := fun w' => w'.cell? (fR.add ((aZ).toNat * 5)) = some (.int .i64 ((aD bF aZ).f0)) ∧ w'.cell? ⟨(fR.add ((aZ).toNat * 5)).block, (fR.add ((aZ).toNat * 5)).off + 1, none⟩ = some (.int .i64 ((aD bF aZ).f1)) ∧ w'.cell? ⟨(fR.add ((aZ).toNat * 5)).block, (fR.add ((aZ).toNat * 5)).off + 2, none⟩ = some (.string ((aD bF aZ).f2)) ∧ w'.cell? ⟨(fR.add ((aZ).toNat * 5)).block, (fR.add ((aZ).toNat * 5)).off + 3, none⟩ = some (.slice _ ((aD bF aZ).f3).length _) ∧ w'.cell? ⟨(fR.add ((aZ).toNat * 5)).block, (fR.add ((aZ).toNat * 5)).off + 4, none⟩ = some (.slice _ ((aD bF aZ).f4).length _) ∧ w'.cell? (fK.add ((bl).toNat * 5)) = some (.int .i64 ((aD bG bl).f0)) ∧ w'.cell? ⟨(fK.add ((bl).toNat * 5)).block, (fK.add ((bl).toNat * 5)).off + 1, none⟩ = some (.int .i64 ((aD bG bl).f1)) ∧ w'.cell? ⟨(fK.add ((bl).toNat * 5)).block, (fK.add ((bl).toNat * 5)).off + 2, none⟩ = some (.string ((aD bG bl).f2)) ∧ w'.cell? ⟨(fK.add ((bl).toNat * 5)).block, (fK.add ((bl).toNat * 5)).off + 3, none⟩ = some (.slice _ ((aD bG bl).f3).length _) ∧ w'.cell? ⟨(fK.add ((bl).toNat * 5)).block, (fK.add ((bl).toNat * 5)).off + 4, none⟩ = some (.slice _ ((aD bG bl).f4).length _)) (ds := []) #[false, false, false, false, false, false, false, false, false, false, false, false] (by kernel_rfl) rfl rfl ⟨PA, Qk, Qc, Ia, Kk, O2, Ol, R7, La, I9⟩ (fun hHeld => ?_); refine Ac bp.adj bp.ae4 (fun cQ nz => ?_)
                      generalize wc.drew = w57 at b8 bP cT cR de gB gF gE gC HB Ig Kv K3 I3 i9 jF i7 jB PA Qk Qc Ia Kk O2 Ol R7 La I9 hHeld ⊢
                      refine PU 0 87 cQ ?_
                      refine PU 1 88 cQ ?_
                      refine PU 2 89 cQ ?_
                      refine PU 3 90 cQ ?_
                      refine PU 5 92 cQ ?_
                      refine PU 6 93 cQ ?_
                      refine PU 7 94 cQ ?_
                      refine PU 8 95 cQ ?_
                      refine TU 4 91 cQ nz hHeld ?_
                      refine TU 9 96 cQ nz hHeld ?_
                      refine CF (i := 10) (N := some 97) #[true, true, true, true, true, true, true, true, true, true, true, false] rfl rfl (D7 cQ.out (by kernel_rfl)) (by decide) (fun K hK => ?_)
                      refine Gt Try.func35 (by kernel_rfl) rfl #[.slice Tm ((aD bF aZ).f3).length aiI, .slice WK ((aD bG bl).f3).length Zy] (by rfl) rfl rfl MX ?_
                      with_reducible refine (iE.calls B6 _ _ ((aD bF aZ).f3) _ _ ((aD bG bl).f3) Il _ ?aH ?aG ?bt ?bv A55.out).mono ?_
                      (case aH => repeat (first | exact (by repeat (first | (with_reducible exact i9.out) | (with_reducible refine Kd.dH ?_ _) | (with_reducible refine Kd.dM ?_ _) | (with_reducible refine Kd.cH ?_) | exact i9.out)) | (with_reducible refine Kd.dH ?_ _) | (with_reducible refine Kd.dM ?_ _) | (with_reducible refine Kd.cH ?_)))
                      (case aG => exact agD.out)
                      (case bt => repeat (first | exact (by repeat (first | (with_reducible exact i7.out) | (with_reducible refine Kd.dH ?_ _) | (with_reducible refine Kd.dM ?_ _) | (with_reducible refine Kd.cH ?_) | exact i7.out)) | (with_reducible refine Kd.dH ?_ _) | (with_reducible refine Kd.dM ?_ _) | (with_reducible refine Kd.cH ?_)))
                      (case bv => exact ahu.out)
                      rintro e w' ⟨rfl, ⟨nd, rfl⟩⟩
                      refine ⟨_, rfl, ?_⟩
                      refine hK.out _ _ ⟨hHeld.1, hHeld.2.1, hHeld.2.2.1, hHeld.2.2.2.1, hHeld.2.2.2.2.1, hHeld.2.2.2.2.2.1, hHeld.2.2.2.2.2.2.1, hHeld.2.2.2.2.2.2.2.1, hHeld.2.2.2.2.2.2.2.2.1, hHeld.2.2.2.2.2.2.2.2.2⟩ (fun hHeld => ?_)
                      clear hK K
                      refine FM (a' := ?_) ?_ ?_
                      rotate_left
                      ·show Act.put _ (some 97) _ = _
                       simp only [Act.put, List.setIfInBounds_toArray, List.set_cons_zero, List.set_cons_succ, gY, gX]
                       rfl
                      refine PU 11 98 cQ ?_
                      refine AG (Bd cQ.out (by kernel_rfl)) ?_
                      go_upto_if 98 with (fail)
                      go_cut [12] (fun v12 wc => ∃ (kq : Nat) (vk : List (aw)), ae (bp.j4 kq l2 l3 bF bG vk aZ bl = some (r1, r2)) ∧ ae (kq ≤ B6) ∧ ae (Kd.N fc 70 wc w.heap.size (fun k_ => some k_ ≠ ((.slice (some fK) bG.length qF) : Value).ownBlock ∧ some k_ ≠ (v12 : Value).ownBlock ∧ k_ ≠ lw ∧ k_ ≠ lv) (.slice (some fR) bF.length vI) bF) ∧ ae (Kd.N fc 70 wc w.heap.size (fun k_ => some k_ ≠ ((.slice (some fR) bF.length vI) : Value).ownBlock ∧ some k_ ≠ (v12 : Value).ownBlock ∧ k_ ≠ lw ∧ k_ ≠ lv) (.slice (some fK) bG.length qF) bG) ∧ ae (Kd.R dT 48 wc w.heap.size (fun _ => True) v12 vk) ∧ ae (wc.heap[lw]? = some (.cells #[.int .i64 aE, .string aA, (.slice bB ay.length bA), (.slice br au.length bq)] 25 (0, 0))) ∧ ae (wc.heap[lv]? = some (.cells #[.int .i64 aK, .string aM, (.slice fQ cx.length fP), (.slice eG bR.length eD)] 25 (0, 0))) ∧ ae (Kd.C Kd.string wc Vt ((aD bF aZ).f3).length ((aD bF aZ).f3)) ∧ ae (Kd.C (Kd.int .i64) wc UD ((aD bF aZ).f4).length ((aD bF aZ).f4)) ∧ ae (Kd.C Kd.string wc UR ((aD bG bl).f3).length ((aD bG bl).f3)) ∧ ae (Kd.C (Kd.int .i64) wc Ys ((aD bG bl).f4).length ((aD bG bl).f4)) ∧ ae (Kd.C Kd.string wc Tm ((aD bF aZ).f3).length ((aD bF aZ).f3)) ∧ ae (Kd.C (Kd.int .i64) wc aa8 ((aD bF aZ).f4).length ((aD bF aZ).f4)) ∧ ae (Kd.C Kd.string wc WK ((aD bG bl).f3).length ((aD bG bl).f3)) ∧ ae (Kd.C (Kd.int .i64) wc aaJ ((aD bG bl).f4).length ((aD bG bl).f4)) ∧ ae (Below w.heap.size w wc))
                      case first =>
                       have H := L8.out
                       clear L8
                       by_cases qC : Il = true
                       ·subst qC
                        have H1 : (bp.j4 B6 l2 l3 bF bG uL aZ bl) = some (r1, r2) := by rw [if_pos rfl] at H; exact H
                        clear H
                        have H := H1
                        clear H1
                        have H' := ae.mk H
                        clear H
                        go_wp2
                        go_meet
                        case rel => exact ⟨_, (uL), H', ⟨by have := lD.out; have := eP.out; have := vr.out; have := BN.out; first | omega | exact Nat.le_refl _⟩, ⟨by (with_reducible repeat (first | apply Kd.cN | apply Kd.cM | apply Kd.cC)); exact b8.out⟩, ⟨by (with_reducible repeat (first | apply Kd.cN | apply Kd.cM | apply Kd.cC)); exact bP.out⟩, ⟨RX cT.out⟩, ⟨by (with_reducible repeat (first | refine bf ?_ _ | refine bd ?_ | refine aU ?_ _)); exact cR.out⟩, ⟨by (with_reducible repeat (first | refine bf ?_ _ | refine bd ?_ | refine aU ?_ _)); exact de.out⟩, ⟨by repeat (first | (with_reducible exact gB.out) | (with_reducible refine Kd.dH ?_ _) | (with_reducible refine Kd.dM ?_ _) | (with_reducible refine Kd.cH ?_) | exact gB.out)⟩, ⟨by repeat (first | (with_reducible exact gF.out) | (with_reducible refine Kd.dH ?_ _) | (with_reducible refine Kd.dM ?_ _) | (with_reducible refine Kd.cH ?_) | exact gF.out)⟩, ⟨by repeat (first | (with_reducible exact gE.out) | (with_reducible refine Kd.dH ?_ _) | (with_reducible refine Kd.dM ?_ _) | (with_reducible refine Kd.cH ?_) | exact gE.out)⟩, ⟨by repeat (first | (with_reducible exact gC.out) | (with_reducible refine Kd.dH ?_ _) | (with_reducible refine Kd.dM ?_ _) | (with_reducible refine Kd.cH ?_) | exact gC.out)⟩, ⟨by repeat (first | (with_reducible exact i9.out) | (with_reducible refine Kd.dH ?_ _) | (with_reducible refine Kd.dM ?_ _) | (with_reducible refine Kd.cH ?_) | exact i9.out)⟩, ⟨by repeat (first | (with_reducible exact jF.out) | (with_reducible refine Kd.dH ?_ _) | (with_reducible refine Kd.dM ?_ _) | (with_reducible refine Kd.cH ?_) | exact jF.out)⟩, ⟨by repeat (first | (with_reducible exact i7.out) | (with_reducible refine Kd.dH ?_ _) | (with_reducible refine Kd.dM ?_ _) | (with_reducible refine Kd.cH ?_) | exact i7.out)⟩, ⟨by repeat (first | (with_reducible exact jB.out) | (with_reducible refine Kd.dH ?_ _) | (with_reducible refine Kd.dM ?_ _) | (with_reducible refine Kd.cH ?_) | exact jB.out)⟩, ⟨by repeat (first | (with_reducible first | exact HB.out | apply aQ | apply aY | apply aT | refine ao ?_ g_.out | refine ao ?_ hJ.out) | exact HB.out)⟩⟩
                       ·replace qC := Bool.eq_false_iff.mpr qC
                        subst qC
                        have H1 : (if aZ < (l2.length : Int) then ((dK.f B6 uL (rd l2 aZ) 5).bind fun Ca => (bp.j4 B6 l2 l3 bF bG Ca aZ bl)) else (none)) = some (r1, r2) := by rw [if_neg (show ¬ (false = true) by decide)] at H; exact H
                        clear H
                        have H := H1
                        clear H1
                        by_cases oJ : aZ < (l2.length : Int)
                        ·rw [if_pos oJ] at H
                         have xJ : decide (aZ < (l2.length : Int)) = true := decide_eq_true oJ
                         clear oJ
                         (first | rw [xJ] | (simp only [gY, gX]; rw [xJ]) | skip)
                         replace H := Option.bind_eq_some_iff.mp H
                         obtain ⟨Ca, VQ, H⟩ := H
                         have pB := ae.mk VQ
                         clear VQ
                         have H' := ae.mk H
                         clear H
                         have JD : 0 ≤ (aZ : Int) := of_decide_eq_true AX
                         have Hu : aZ < (l2.length : Int) := of_decide_eq_true AX
                         obtain ⟨aem, aio, Kn⟩ := Kd.dB gD.out aZ JD Hu
                         obtain rfl : tV = aem := (by injection aio)
                         replace Kn := (HB.out.cell (World.block_lt_of_cell? w _ Kn)).trans Kn
                         replace JD := eq_true JD
                         replace Hu := eq_true Hu
                         obtain ⟨U2, UL, PO⟩ := Kd.bm cT.out
                         subst PO
                         go_wp2_with (first | ((with_reducible refine dD (f := 33) rfl ?_); refine dC (some 105) rfl rfl Try.func33 (by kernel_rfl) rfl #[.slice U2 uL.length UL, .agg #[.int .i64 (rd l2 aZ), .int .i64 5]] rfl MX ?_; (with_reducible refine (dK.calls B6 _ _ uL (rd l2 aZ) 5 Ca _ ?aH ?aG pB.out).mono ?_); (case aH => exact CX ((Kd.b_ cT.out).2.2)); (case aG => exact (Kd.b_ cT.out).2.1); rintro e w62 ⟨as6, rfl, aR, hb⟩; refine ⟨_, rfl, ?_⟩; have af := ae.mk (Kd.oY (by (with_reducible repeat (first | apply Kd.cN | apply Kd.cM | apply Kd.cC)); exact b8.out) (Kd.aV aR) hb); have ag := ae.mk (Kd.oY (by (with_reducible repeat (first | apply Kd.cN | apply Kd.cM | apply Kd.cC)); exact bP.out) (Kd.aV aR) hb); have ah := ae.mk (Kd.b7 (RX cT.out) (Kd.aV aR) hb); have am := ae.mk (Kd.qv (by (with_reducible repeat (first | apply Kd.l9 | apply Kd.lI | apply Kd.lV)); exact Ig.out) (Kd.aV aR) hb); have aJ := ae.mk (Kd.qv (by (with_reducible repeat (first | apply Kd.l9 | apply Kd.lI | apply Kd.lV)); exact Kv.out) (Kd.aV aR) hb); have aW := ae.mk (Kd.qv (by (with_reducible repeat (first | apply Kd.l9 | apply Kd.lI | apply Kd.lV)); exact K3.out) (Kd.aV aR) hb); have be := ae.mk (Kd.qv (by (with_reducible repeat (first | apply Kd.l9 | apply Kd.lI | apply Kd.lV)); exact I3.out) (Kd.aV aR) hb); have bJ := ae.mk (Kd.eB (Kd.bh aR (Kd.bg (RX cT.out))) (cG (by repeat (first | (with_reducible first | exact HB.out | apply aQ | apply aY | apply aT | refine ao ?_ g_.out | refine ao ?_ hJ.out) | exact HB.out)))); have bZ := bw cR hb; have b0 := bw de hb; have cy := eW gB hb; have cA := eW gF hb; have cF := eW gE hb; have db := eW gC hb; have dR := eW i9 hb; have eh := eW jF hb; have ef := eW i7 hb; have ex := eW jB hb; have ey := bn HB hb; clear b8; clear bP; clear cT; clear Ig; clear Kv; clear K3; clear I3; clear cR; clear de; clear gB; clear gF; clear gE; clear gC; clear i9; clear jF; clear i7; clear jB; clear HB; have b8 := af; have bP := ag; have cT := ah; have Ig := am; have Kv := aJ; have K3 := aW; have I3 := be; have aip := bJ; have cR := bZ; have de := b0; have gB := cy; have gF := cA; have gE := cF; have gC := db; have i9 := dR; have jF := eh; have i7 := ef; have jB := ex; have HB := ey; clear af ag ah am aJ aW be bJ bZ b0 cy cA cF db dR eh ef ex ey; (try clear hb); (try clear hb2); (try clear hk); (try clear hi); (try clear aR)))
                         go_meet
                         case rel => exact ⟨_, (Ca), H', ⟨by have := lD.out; have := eP.out; have := vr.out; have := BN.out; first | omega | exact Nat.le_refl _⟩, ⟨by (with_reducible repeat (first | apply Kd.cN | apply Kd.cM | apply Kd.cC)); exact Kd.iO b8.out (fun _ hk => ⟨hk.1.1, ⟨hk.2, ⟨hk.1.2.2.1, hk.1.2.2.2⟩⟩⟩)⟩, ⟨by (with_reducible repeat (first | apply Kd.cN | apply Kd.cM | apply Kd.cC)); exact Kd.iO bP.out (fun _ hk => ⟨hk.1.1, ⟨hk.2, ⟨hk.1.2.2.1, hk.1.2.2.2⟩⟩⟩)⟩, ⟨by (with_reducible repeat (first | apply Kd.nX | apply Kd.ot | apply Kd.jj)); exact Kd.cm aip.out (fun _ hk => trivial)⟩, ⟨by (with_reducible repeat (first | refine bf ?_ _ | refine bd ?_ | refine aU ?_ _)); exact cR.out⟩, ⟨by (with_reducible repeat (first | refine bf ?_ _ | refine bd ?_ | refine aU ?_ _)); exact de.out⟩, ⟨by repeat (first | (with_reducible exact gB.out) | (with_reducible refine Kd.dH ?_ _) | (with_reducible refine Kd.dM ?_ _) | (with_reducible refine Kd.cH ?_) | exact gB.out)⟩, ⟨by repeat (first | (with_reducible exact gF.out) | (with_reducible refine Kd.dH ?_ _) | (with_reducible refine Kd.dM ?_ _) | (with_reducible refine Kd.cH ?_) | exact gF.out)⟩, ⟨by repeat (first | (with_reducible exact gE.out) | (with_reducible refine Kd.dH ?_ _) | (with_reducible refine Kd.dM ?_ _) | (with_reducible refine Kd.cH ?_) | exact gE.out)⟩, ⟨by repeat (first | (with_reducible exact gC.out) | (with_reducible refine Kd.dH ?_ _) | (with_reducible refine Kd.dM ?_ _) | (with_reducible refine Kd.cH ?_) | exact gC.out)⟩, ⟨by repeat (first | (with_reducible exact i9.out) | (with_reducible refine Kd.dH ?_ _) | (with_reducible refine Kd.dM ?_ _) | (with_reducible refine Kd.cH ?_) | exact i9.out)⟩, ⟨by repeat (first | (with_reducible exact jF.out) | (with_reducible refine Kd.dH ?_ _) | (with_reducible refine Kd.dM ?_ _) | (with_reducible refine Kd.cH ?_) | exact jF.out)⟩, ⟨by repeat (first | (with_reducible exact i7.out) | (with_reducible refine Kd.dH ?_ _) | (with_reducible refine Kd.dM ?_ _) | (with_reducible refine Kd.cH ?_) | exact i7.out)⟩, ⟨by repeat (first | (with_reducible exact jB.out) | (with_reducible refine Kd.dH ?_ _) | (with_reducible refine Kd.dM ?_ _) | (with_reducible refine Kd.cH ?_) | exact jB.out)⟩, ⟨by repeat (first | (with_reducible first | exact HB.out | apply aQ | apply aY | apply aT | refine ao ?_ g_.out | refine ao ?_ hJ.out) | exact HB.out)⟩⟩
                        ·rw [if_neg oJ] at H
                         exact absurd H (by simp)
                      case rest =>
                       clear L8
                       try clear c1
                       try clear c2
                       try clear p2
                       try clear c3
                       try clear p3
                       try clear q3
                       try clear kE
                       try clear c4
                       try clear c5
                       try clear p6
                       try clear dO
                       try clear gf
                       try clear en
                       try clear kS
                       try clear gQ
                       try clear ui
                       try clear mL
                       try clear K4
                       try clear lP
                       try clear He
                       try clear jN
                       try clear BI
                       try clear mr
                       try clear rN
                       try clear AY
                       try clear Jf
                       try clear Ii
                       try clear X4
                       try clear RK
                       try clear JX
                       try clear JJ
                       try clear Uj
                       try clear TD
                       try clear WP
                       try clear VG
                       try clear afh
                       try clear c35
                       try clear p35
                       try clear q35
                       try clear ac9
                       try clear ro
                       try clear vY
                       try clear Ji
                       try clear xI
                       try clear Va
                       try clear yo
                       try clear Td
                       try clear uB
                       try clear UE
                       try clear xy
                       try clear Wt
                       try clear pW
                       try clear zA
                       try clear R4
                       try clear BT
                       try clear XM
                       try clear sK
                       try clear ajp
                       try clear s5
                       try clear ajV
                       try clear AN
                       try clear ad7
                       try clear Br
                       try clear abq
                       try clear qC
                       try clear oJ
                       try clear xJ
                       try clear yH
                       try clear wi
                       try clear xE
                       try clear zx
                       try clear tB
                       try clear tt
                       try clear vt
                       try clear vR
                       try clear zJ
                       try clear wg
                       try clear xS
                       try clear xa
                       try clear tK
                       try clear ul
                       try clear u1
                       try clear vw
                       try clear sM
                       try clear Bx
                       try clear B7
                       try clear Jm
                       try clear Hr
                       try clear K5
                       try clear EO
                       try clear EG
                       try clear J5
                       try clear KY
                       try clear I'
                       try clear E0
                       try clear Dk
                       try clear C3
                       try clear PA
                       try clear Qk
                       try clear Qc
                       try clear Ia
                       try clear Kk
                       try clear O2
                       try clear Ol
                       try clear R7
                       try clear La
                       try clear I9
                       try clear Kn
                       try clear p2
                       try clear p3
                       try clear Jf
                       try clear sV
                       try clear JX
                       try clear zM
                       try clear BE
                       try clear WP
                       try clear BJ
                       try clear AL
                       try clear CN
                       try clear E2
                       try clear Gv
                       try clear JD
                       try clear p6
                       try clear q3
                       try clear Ii
                       try clear sE
                       try clear JJ
                       try clear z8
                       try clear BQ
                       try clear VG
                       try clear BB
                       try clear Ae
                       try clear E5
                       try clear FR
                       try clear Ge
                       try clear Hu
                       obtain ⟨kq, vk, HA, KW, b8, bP, cT, cR, de, gB, gF, gE, gC, i9, jF, i7, jB, HB⟩ := hcut
                       cases kq with
                       | zero => exact absurd HA.out (by simp [bp.j4])
                       | succ uU =>
                        have H := HA.out
                        clear HA
                        simp only [bp.j4] at H
                        by_cases zH : 0 ≤ aZ
                        ·rw [if_pos zH] at H
                         have aqF : decide (0 ≤ aZ) = true := decide_eq_true zH
                         clear zH
                         by_cases xR : aZ < (bF.length : Int)
                         ·rw [if_pos xR] at H
                          have aqM : decide (aZ < (bF.length : Int)) = true := decide_eq_true xR
                          clear xR
                          by_cases DW : 0 ≤ bl
                          ·rw [if_pos DW] at H
                           have avm : decide (0 ≤ bl) = true := decide_eq_true DW
                           clear DW
                           by_cases Gf : bl < (bG.length : Int)
                           ·rw [if_pos Gf] at H
                            have apa : decide (bl < (bG.length : Int)) = true := decide_eq_true Gf
                            clear Gf
                            replace H := Option.bind_eq_some_iff.mp H
                            obtain ⟨M6, YE, H⟩ := H
                            have Tz := ae.mk YE
                            clear YE
                            by_cases wX : M6 = true
                            ·subst wX
                             have H1 : (bp.l0 uU l2 l3 bF bG vk (wrap64 (aZ + 1))) = some (r1, r2) := by rw [if_pos rfl] at H; exact H
                             clear H
                             have H := H1
                             clear H1
                             have H' := ae.mk H
                             clear H
                             try go_wp2
                             have af := ae.mk (Kd.cC b8.out)
                             have ag := ae.mk (Kd.cC bP.out)
                             have ah := ae.mk (Kd.jj cT.out)
                             have am := ae.mk (bd cR.out)
                             have aJ := ae.mk (bd de.out)
                             have aW := ae.mk (Kd.cH gB.out)
                             have be := ae.mk (Kd.cH gF.out)
                             have bJ := ae.mk (Kd.cH gE.out)
                             have bZ := ae.mk (Kd.cH gC.out)
                             have b0 := ae.mk (Kd.cH i9.out)
                             have cy := ae.mk (Kd.cH jF.out)
                             have cA := ae.mk (Kd.cH i7.out)
                             have cF := ae.mk (Kd.cH jB.out)
                             have db := ae.mk (aT HB.out)
                             clear b8
                             clear bP
                             clear cT
                             clear cR
                             clear de
                             clear gB
                             clear gF
                             clear gE
                             clear gC
                             clear i9
                             clear jF
                             clear i7
                             clear jB
                             clear HB
                             have b8 := af
                             have bP := ag
                             have cT := ah
                             have cR := am
                             have de := aJ
                             have gB := aW
                             have gF := be
                             have gE := bJ
                             have gC := bZ
                             have i9 := b0
                             have jF := cy
                             have i7 := cA
                             have jB := cF
                             have HB := db
                             clear af ag ah am aJ aW be bJ bZ b0 cy cA cF db
                             have sd : 0 ≤ (aZ : Int) := of_decide_eq_true AX
                             have s8 : aZ < (bF.length : Int) := of_decide_eq_true AX
                             obtain ⟨Le, Nf, L5, OG, Sf, Rf, Ce, z_, zV, uG, vz, E7, DA, G8, E8⟩ := gv (Kd.bW b8.out).2.2 aZ sd s8
                             obtain rfl : fR = Le := (by injection Rf)
                             obtain ⟨aeN, Om, Qr, wz⟩ := Kd.lL b8.out z70 aZ sd (by first | exact s8 | exact of_decide_eq_true AX | (have e_ := (Kd.bW b8.out).1; omega))
                             obtain ⟨ajN, afs, agE, ahs, rfl, yO, xC, zC, zo⟩ := lX Qr
                             have tZ := wz 3 _ rfl
                             rw [ea _ _ 3 (by omega)] at tZ
                             replace tZ := Option.some.inj (tZ.symm.trans uG)
                             injection tZ with bD cI bE
                             rw [bD] at xC
                             rw [bE] at yO
                             have p' := ae.mk (show Kd.V Kd.string 9 _ w.heap.size _ _ ((aD bF aZ).f3) from Kd.eM yO xC)
                             clear bD cI bE xC yO
                             have tF := wz 4 _ rfl
                             rw [ea _ _ 4 (by omega)] at tF
                             replace tF := Option.some.inj (tF.symm.trans vz)
                             injection tF with bD cI bE
                             rw [bD] at zo
                             rw [bE] at zC
                             have qd := ae.mk (show Kd.V (Kd.int .i64) 3 _ w.heap.size _ _ ((aD bF aZ).f4) from Kd.eM zC zo)
                             clear bD cI bE zo zC
                             clear wz Om
                             have nM := ae.mk DA
                             have Mw := ae.mk E7
                             clear DA E7
                             have nY := ae.mk E8
                             have O7 := ae.mk G8
                             clear E8 G8
                             replace sd := eq_true sd
                             replace s8 := eq_true s8
                             have sf : 0 ≤ (bl : Int) := of_decide_eq_true AX
                             have sO : bl < (bG.length : Int) := of_decide_eq_true AX
                             obtain ⟨Nq, Rm, Sm, Pe, PB, O6, BR, As, Am, vm, uz, GF, D2, CL, Dr⟩ := gv (Kd.bW bP.out).2.2 bl sf sO
                             obtain rfl : fK = Nq := (by injection O6)
                             obtain ⟨adO, M9, Mt, xV⟩ := Kd.lL bP.out z70 bl sf (by first | exact sO | exact of_decide_eq_true AX | (have e_ := (Kd.bW bP.out).1; omega))
                             obtain ⟨ac_, abS, abL, aeE, rfl, yz, xp, wE, wh⟩ := lX Mt
                             have uc := xV 3 _ rfl
                             rw [ea _ _ 3 (by omega)] at uc
                             replace uc := Option.some.inj (uc.symm.trans vm)
                             injection uc with bD cI bE
                             rw [bD] at xp
                             rw [bE] at yz
                             have qL := ae.mk (show Kd.V Kd.string 9 _ w.heap.size _ _ ((aD bG bl).f3) from Kd.eM yz xp)
                             clear bD cI bE xp yz
                             have tO := xV 4 _ rfl
                             rw [ea _ _ 4 (by omega)] at tO
                             replace tO := Option.some.inj (tO.symm.trans uz)
                             injection tO with bD cI bE
                             rw [bD] at wh
                             rw [bE] at wE
                             have qq := ae.mk (show Kd.V (Kd.int .i64) 3 _ w.heap.size _ _ ((aD bG bl).f4) from Kd.eM wE wh)
                             clear bD cI bE wh wE
                             clear xV M9
                             have nP := ae.mk D2
                             have N1 := ae.mk GF
                             clear D2 GF
                             have od := ae.mk Dr
                             have Px := ae.mk CL
                             clear Dr CL
                             replace sf := eq_true sf
                             replace sO := eq_true sO
                             refine Bz (n := 12) (S := fun w' => w'.cell? (fR.add ((aZ).toNat * 5)) = some (.int .i64 ((aD bF aZ).f0)) ∧ w'.cell? ⟨(fR.add ((aZ).toNat * 5)).block, (fR.add ((aZ).toNat * 5)).off + 1, none⟩ = some (.int .i64 ((aD bF aZ).f1)) ∧ w'.cell? ⟨(fR.add ((aZ).toNat * 5)).block, (fR.add ((aZ).toNat * 5)).off + 2, none⟩ = some (.string ((aD bF aZ).f2)) ∧ w'.cell? ⟨(fR.add ((aZ).toNat * 5)).block, (fR.add ((aZ).toNat * 5)).off + 3, none⟩ = some (.slice _ ((aD bF aZ).f3).length _) ∧ w'.cell? ⟨(fR.add ((aZ).toNat * 5)).block, (fR.add ((aZ).toNat * 5)).off + 4, none⟩ = some (.slice _ ((aD bF aZ).f4).length _) ∧ w'.cell? (fK.add ((bl).toNat * 5)) = some (.int .i64 ((aD bG bl).f0)) ∧ w'.cell? ⟨(fK.add ((bl).toNat * 5)).block, (fK.add ((bl).toNat * 5)).off + 1, none⟩ = some (.int .i64 ((aD bG bl).f1)) ∧ w'.cell? ⟨(fK.add ((bl).toNat * 5)).block, (fK.add ((bl).toNat * 5)).off + 2, none⟩ = some (.string ((aD bG bl).f2)) ∧ w'.cell? ⟨(fK.add ((bl).toNat * 5)).block, (fK.add ((bl).toNat * 5)).off + 3, none⟩ = some (.slice _ ((aD bG bl).f3).length _) ∧ w'.cell? ⟨(fK.add ((bl).toNat * 5)).block, (fK.add ((bl).toNat * 5)).off + 4, none⟩ = some (.slice _ ((aD bG bl).f4).length _)) (ds := []) #[false, false, false, false, false, false, false, false, false, false, false, false] (by kernel_rfl) rfl rfl ⟨Ce, z_, zV, uG, vz, BR, As, Am, vm, uz⟩ (fun hHeld => ?_); refine Ac bp.TB bp.WY (fun cQ nz => ?_)
                             generalize wc.drew = w69 at b8 bP cT cR de gB gF gE gC i9 jF i7 jB HB p' qd qL qq nM nY nP od Ce z_ zV uG vz BR As Am vm uz hHeld ⊢
                             refine PU 0 106 cQ ?_
                             refine PU 1 107 cQ ?_
                             refine PU 2 108 cQ ?_
                             refine PU 4 110 cQ ?_
                             refine PU 5 111 cQ ?_
                             refine PU 6 112 cQ ?_
                             refine PU 8 114 cQ ?_
                             refine PU 9 115 cQ ?_
                             refine TU 3 109 cQ nz hHeld ?_
                             refine TU 7 113 cQ nz hHeld ?_
                             refine CF (i := 10) (N := some 116) #[true, true, true, true, true, true, true, true, true, true, true, false] rfl rfl (D7 cQ.out (by kernel_rfl)) (by decide) (fun K hK => ?_)
                             refine Gt Try.func36 (by kernel_rfl) rfl #[.agg #[.int .i64 ((aD bF aZ).f0), .int .i64 ((aD bF aZ).f1), .string ((aD bF aZ).f2), .slice Nf ((aD bF aZ).f3).length L5, .slice OG ((aD bF aZ).f4).length Sf], .agg #[.int .i64 ((aD bG bl).f0), .int .i64 ((aD bG bl).f1), .string ((aD bG bl).f2), .slice Rm ((aD bG bl).f3).length Sm, .slice Pe ((aD bG bl).f4).length PB], .slice (some tV) l2.length c2, .slice A3 l3.length c3] (by rfl) rfl rfl MX ?_
                             with_reducible refine (ij.calls uU ((aD bF aZ).f0) ((aD bF aZ).f1) ((aD bF aZ).f2) _ _ ((aD bF aZ).f3) _ _ ((aD bF aZ).f4) ((aD bG bl).f0) ((aD bG bl).f1) ((aD bG bl).f2) _ _ ((aD bG bl).f3) _ _ ((aD bG bl).f4) _ _ l2 _ _ l3 true _ ?aH ?aG ?bt ?bv ?cX ?cW ?fE ?fS ?fN ?fI ?fJ ?fF Tz.out).mono ?_
                             (case aH => repeat (first | exact (by repeat (first | (with_reducible exact nM.out) | (with_reducible refine Kd.dH ?_ _) | (with_reducible refine Kd.dM ?_ _) | (with_reducible refine Kd.cH ?_) | exact nM.out)) | (with_reducible refine Kd.dH ?_ _) | (with_reducible refine Kd.dM ?_ _) | (with_reducible refine Kd.cH ?_)))
                             (case aG => exact Mw.out)
                             (case bt => repeat (first | exact (by repeat (first | (with_reducible exact nY.out) | (with_reducible refine Kd.dH ?_ _) | (with_reducible refine Kd.dM ?_ _) | (with_reducible refine Kd.cH ?_) | exact nY.out)) | (with_reducible refine Kd.dH ?_ _) | (with_reducible refine Kd.dM ?_ _) | (with_reducible refine Kd.cH ?_)))
                             (case bv => exact O7.out)
                             (case cX => repeat (first | exact (by repeat (first | (with_reducible exact nP.out) | (with_reducible refine Kd.dH ?_ _) | (with_reducible refine Kd.dM ?_ _) | (with_reducible refine Kd.cH ?_) | exact nP.out)) | (with_reducible refine Kd.dH ?_ _) | (with_reducible refine Kd.dM ?_ _) | (with_reducible refine Kd.cH ?_)))
                             (case cW => exact N1.out)
                             (case fE => repeat (first | exact (by repeat (first | (with_reducible exact od.out) | (with_reducible refine Kd.dH ?_ _) | (with_reducible refine Kd.dM ?_ _) | (with_reducible refine Kd.cH ?_) | exact od.out)) | (with_reducible refine Kd.dH ?_ _) | (with_reducible refine Kd.dM ?_ _) | (with_reducible refine Kd.cH ?_)))
                             (case fS => exact Px.out)
                             (case fN => exact CX (Kd.aC gD.out HB.out))
                             (case fI => exact lO.out)
                             (case fJ => exact CX (Kd.aC qr.out HB.out))
                             (case fF => exact rG.out)
                             rintro e w70 ⟨rfl, hb⟩
                             have ME := (hb.cell (World.block_lt_of_cell? _ _ (hHeld.1))).trans (hHeld.1)
                             have Sp := (hb.cell (World.block_lt_of_cell? _ _ (hHeld.2.1))).trans (hHeld.2.1)
                             have Sd := (hb.cell (World.block_lt_of_cell? _ _ (hHeld.2.2.1))).trans (hHeld.2.2.1)
                             have N3 := (hb.cell (World.block_lt_of_cell? _ _ (hHeld.2.2.2.1))).trans (hHeld.2.2.2.1)
                             have LV := (hb.cell (World.block_lt_of_cell? _ _ (hHeld.2.2.2.2.1))).trans (hHeld.2.2.2.2.1)
                             have OQ := (hb.cell (World.block_lt_of_cell? _ _ (hHeld.2.2.2.2.2.1))).trans (hHeld.2.2.2.2.2.1)
                             have Mr := (hb.cell (World.block_lt_of_cell? _ _ (hHeld.2.2.2.2.2.2.1))).trans (hHeld.2.2.2.2.2.2.1)
                             have RD := (hb.cell (World.block_lt_of_cell? _ _ (hHeld.2.2.2.2.2.2.2.1))).trans (hHeld.2.2.2.2.2.2.2.1)
                             have QS := (hb.cell (World.block_lt_of_cell? _ _ (hHeld.2.2.2.2.2.2.2.2.1))).trans (hHeld.2.2.2.2.2.2.2.2.1)
                             have RH := (hb.cell (World.block_lt_of_cell? _ _ (hHeld.2.2.2.2.2.2.2.2.2))).trans (hHeld.2.2.2.2.2.2.2.2.2)
                             refine ⟨_, rfl, ?_⟩
                             have af := ae.mk (Kd.vS (by (with_reducible repeat (first | apply Kd.cN | apply Kd.cM | apply Kd.cC)); exact b8.out) hb)
                             have ag := ae.mk (Kd.vS (by (with_reducible repeat (first | apply Kd.cN | apply Kd.cM | apply Kd.cC)); exact bP.out) hb)
                             have ah := ax cT hb
                             have am := ae.mk (Kd.u3 (by (with_reducible repeat (first | apply Kd.l9 | apply Kd.lI | apply Kd.lV)); exact p'.out) hb)
                             have aJ := ae.mk (Kd.u3 (by (with_reducible repeat (first | apply Kd.l9 | apply Kd.lI | apply Kd.lV)); exact qd.out) hb)
                             have aW := ae.mk (Kd.u3 (by (with_reducible repeat (first | apply Kd.l9 | apply Kd.lI | apply Kd.lV)); exact qL.out) hb)
                             have be := ae.mk (Kd.u3 (by (with_reducible repeat (first | apply Kd.l9 | apply Kd.lI | apply Kd.lV)); exact qq.out) hb)
                             have bJ := bw cR hb
                             have bZ := bw de hb
                             have b0 := eW gB hb
                             have cy := eW gF hb
                             have cA := eW gE hb
                             have cF := eW gC hb
                             have db := eW i9 hb
                             have dR := eW jF hb
                             have eh := eW i7 hb
                             have ef := eW jB hb
                             have ex := eW nM hb
                             have ey := eW nY hb
                             have eZ := eW nP hb
                             have ft := eW od hb
                             have fV := bn HB hb
                             clear b8
                             clear bP
                             clear cT
                             clear p'
                             clear qd
                             clear qL
                             clear qq
                             clear cR
                             clear de
                             clear gB
                             clear gF
                             clear gE
                             clear gC
                             clear i9
                             clear jF
                             clear i7
                             clear jB
                             clear nM
                             clear nY
                             clear nP
                             clear od
                             clear HB
                             have b8 := af
                             have bP := ag
                             have cT := ah
                             have p' := am
                             have qd := aJ
                             have qL := aW
                             have qq := be
                             have cR := bJ
                             have de := bZ
                             have gB := b0
                             have gF := cy
                             have gE := cA
                             have gC := cF
                             have i9 := db
                             have jF := dR
                             have i7 := eh
                             have jB := ef
                             have nM := ex
                             have nY := ey
                             have nP := eZ
                             have od := ft
                             have HB := fV
                             clear af ag ah am aJ aW be bJ bZ b0 cy cA cF db dR eh ef ex ey eZ ft fV
                             (try clear hb)
                             (try clear hb2)
                             (try clear hk)
                             (try clear hi)
                             refine hK.out _ _ ⟨ME, Sp, Sd, N3, LV, OQ, Mr, RD, QS, RH⟩ (fun hHeld => ?_)
                             clear hK K
                             refine FM (a' := ?_) ?_ ?_
                             rotate_left
                             ·show Act.put _ (some 116) _ = _
                              simp only [Act.put, List.setIfInBounds_toArray, List.set_cons_zero, List.set_cons_succ, gY, gX]
                              rfl
                             refine PU 11 117 cQ ?_
                             refine AG (Bd cQ.out (by kernel_rfl)) ?_
                             try go_wp2
                             go_roundg uU
                             case measure => have := lD.out; have := eP.out; have := vr.out; have := BN.out; have := KW.out; omega
                             case rel => exact ⟨(vk), (wrap64 (aZ + 1)), SX, H', ⟨by have := lD.out; have := eP.out; have := vr.out; have := BN.out; have := KW.out; omega⟩, ⟨by (with_reducible repeat (first | apply Kd.cN | apply Kd.cM | apply Kd.cC)); exact b8.out⟩, ⟨by (with_reducible repeat (first | apply Kd.cN | apply Kd.cM | apply Kd.cC)); exact bP.out⟩, ⟨RX cT.out⟩, ⟨by (with_reducible repeat (first | refine bf ?_ _ | refine bd ?_ | refine aU ?_ _)); exact cR.out⟩, ⟨by (with_reducible repeat (first | refine bf ?_ _ | refine bd ?_ | refine aU ?_ _)); exact de.out⟩, ⟨by repeat (first | (with_reducible first | exact HB.out | apply aQ | apply aY | apply aT | refine ao ?_ g_.out | refine ao ?_ hJ.out) | exact HB.out)⟩⟩
                            ·replace wX := Bool.eq_false_iff.mpr wX
                             subst wX
                             have H1 : (if aZ < (l2.length : Int) then ((dK.f uU vk (rd l2 aZ) 6).bind fun B9 => (bp.l0 uU l2 l3 bF bG B9 (wrap64 (aZ + 1)))) else (none)) = some (r1, r2) := by rw [if_neg (show ¬ (false = true) by decide)] at H; exact H
                             clear H
                             have H := H1
                             clear H1
                             by_cases Ga : aZ < (l2.length : Int)
                             ·rw [if_pos Ga] at H
                              have ag4 : decide (aZ < (l2.length : Int)) = true := decide_eq_true Ga
                              clear Ga
                              replace H := Option.bind_eq_some_iff.mp H
                              obtain ⟨B9, VL, H⟩ := H
                              have A72 := ae.mk VL
                              clear VL
                              have H' := ae.mk H
                              clear H
                              try go_wp2
                              have af := ae.mk (Kd.cC b8.out)
                              have ag := ae.mk (Kd.cC bP.out)
                              have ah := ae.mk (Kd.jj cT.out)
                              have am := ae.mk (bd cR.out)
                              have aJ := ae.mk (bd de.out)
                              have aW := ae.mk (Kd.cH gB.out)
                              have be := ae.mk (Kd.cH gF.out)
                              have bJ := ae.mk (Kd.cH gE.out)
                              have bZ := ae.mk (Kd.cH gC.out)
                              have b0 := ae.mk (Kd.cH i9.out)
                              have cy := ae.mk (Kd.cH jF.out)
                              have cA := ae.mk (Kd.cH i7.out)
                              have cF := ae.mk (Kd.cH jB.out)
                              have db := ae.mk (aT HB.out)
                              clear b8
                              clear bP
                              clear cT
                              clear cR
                              clear de
                              clear gB
                              clear gF
                              clear gE
                              clear gC
                              clear i9
                              clear jF
                              clear i7
                              clear jB
                              clear HB
                              have b8 := af
                              have bP := ag
                              have cT := ah
                              have cR := am
                              have de := aJ
                              have gB := aW
                              have gF := be
                              have gE := bJ
                              have gC := bZ
                              have i9 := b0
                              have jF := cy
                              have i7 := cA
                              have jB := cF
                              have HB := db
                              clear af ag ah am aJ aW be bJ bZ b0 cy cA cF db
                              have sd : 0 ≤ (aZ : Int) := of_decide_eq_true AX
                              have s8 : aZ < (bF.length : Int) := of_decide_eq_true AX
                              obtain ⟨Le, Nf, L5, OG, Sf, Rf, Ce, z_, zV, uG, vz, E7, DA, G8, E8⟩ := gv (Kd.bW b8.out).2.2 aZ sd s8
                              obtain rfl : fR = Le := (by injection Rf)
                              obtain ⟨aeN, Om, Qr, wz⟩ := Kd.lL b8.out z70 aZ sd (by first | exact s8 | exact of_decide_eq_true AX | (have e_ := (Kd.bW b8.out).1; omega))
                              obtain ⟨ajN, afs, agE, ahs, rfl, yO, xC, zC, zo⟩ := lX Qr
                              have tZ := wz 3 _ rfl
                              rw [ea _ _ 3 (by omega)] at tZ
                              replace tZ := Option.some.inj (tZ.symm.trans uG)
                              injection tZ with bD cI bE
                              rw [bD] at xC
                              rw [bE] at yO
                              have p' := ae.mk (show Kd.V Kd.string 9 _ w.heap.size _ _ ((aD bF aZ).f3) from Kd.eM yO xC)
                              clear bD cI bE xC yO
                              have tF := wz 4 _ rfl
                              rw [ea _ _ 4 (by omega)] at tF
                              replace tF := Option.some.inj (tF.symm.trans vz)
                              injection tF with bD cI bE
                              rw [bD] at zo
                              rw [bE] at zC
                              have qd := ae.mk (show Kd.V (Kd.int .i64) 3 _ w.heap.size _ _ ((aD bF aZ).f4) from Kd.eM zC zo)
                              clear bD cI bE zo zC
                              clear wz Om
                              have nM := ae.mk DA
                              have Mw := ae.mk E7
                              clear DA E7
                              have nY := ae.mk E8
                              have O7 := ae.mk G8
                              clear E8 G8
                              replace sd := eq_true sd
                              replace s8 := eq_true s8
                              have sf : 0 ≤ (bl : Int) := of_decide_eq_true AX
                              have sO : bl < (bG.length : Int) := of_decide_eq_true AX
                              obtain ⟨Nq, Rm, Sm, Pe, PB, O6, BR, As, Am, vm, uz, GF, D2, CL, Dr⟩ := gv (Kd.bW bP.out).2.2 bl sf sO
                              obtain rfl : fK = Nq := (by injection O6)
                              obtain ⟨adO, M9, Mt, xV⟩ := Kd.lL bP.out z70 bl sf (by first | exact sO | exact of_decide_eq_true AX | (have e_ := (Kd.bW bP.out).1; omega))
                              obtain ⟨ac_, abS, abL, aeE, rfl, yz, xp, wE, wh⟩ := lX Mt
                              have uc := xV 3 _ rfl
                              rw [ea _ _ 3 (by omega)] at uc
                              replace uc := Option.some.inj (uc.symm.trans vm)
                              injection uc with bD cI bE
                              rw [bD] at xp
                              rw [bE] at yz
                              have qL := ae.mk (show Kd.V Kd.string 9 _ w.heap.size _ _ ((aD bG bl).f3) from Kd.eM yz xp)
                              clear bD cI bE xp yz
                              have tO := xV 4 _ rfl
                              rw [ea _ _ 4 (by omega)] at tO
                              replace tO := Option.some.inj (tO.symm.trans uz)
                              injection tO with bD cI bE
                              rw [bD] at wh
                              rw [bE] at wE
                              have qq := ae.mk (show Kd.V (Kd.int .i64) 3 _ w.heap.size _ _ ((aD bG bl).f4) from Kd.eM wE wh)
                              clear bD cI bE wh wE
                              clear xV M9
                              have nP := ae.mk D2
                              have N1 := ae.mk GF
                              clear D2 GF
                              have od := ae.mk Dr
                              have Px := ae.mk CL
                              clear Dr CL
                              replace sf := eq_true sf
                              replace sO := eq_true sO
                              refine Bz (n := 12) (S := fun w' => w'.cell? (fR.add ((aZ).toNat * 5)) = some (.int .i64 ((aD bF aZ).f0)) ∧ w'.cell? ⟨(fR.add ((aZ).toNat * 5)).block, (fR.add ((aZ).toNat * 5)).off + 1, none⟩ = some (.int .i64 ((aD bF aZ).f1)) ∧ w'.cell? ⟨(fR.add ((aZ).toNat * 5)).block, (fR.add ((aZ).toNat * 5)).off + 2, none⟩ = some (.string ((aD bF aZ).f2)) ∧ w'.cell? ⟨(fR.add ((aZ).toNat * 5)).block, (fR.add ((aZ).toNat * 5)).off + 3, none⟩ = some (.slice _ ((aD bF aZ).f3).length _) ∧ w'.cell? ⟨(fR.add ((aZ).toNat * 5)).block, (fR.add ((aZ).toNat * 5)).off + 4, none⟩ = some (.slice _ ((aD bF aZ).f4).length _) ∧ w'.cell? (fK.add ((bl).toNat * 5)) = some (.int .i64 ((aD bG bl).f0)) ∧ w'.cell? ⟨(fK.add ((bl).toNat * 5)).block, (fK.add ((bl).toNat * 5)).off + 1, none⟩ = some (.int .i64 ((aD bG bl).f1)) ∧ w'.cell? ⟨(fK.add ((bl).toNat * 5)).block, (fK.add ((bl).toNat * 5)).off + 2, none⟩ = some (.string ((aD bG bl).f2)) ∧ w'.cell? ⟨(fK.add ((bl).toNat * 5)).block, (fK.add ((bl).toNat * 5)).off + 3, none⟩ = some (.slice _ ((aD bG bl).f3).length _) ∧ w'.cell? ⟨(fK.add ((bl).toNat * 5)).block, (fK.add ((bl).toNat * 5)).off + 4, none⟩ = some (.slice _ ((aD bG bl).f4).length _)) (ds := []) #[false, false, false, false, false, false, false, false, false, false, false, false] (by kernel_rfl) rfl rfl ⟨Ce, z_, zV, uG, vz, BR, As, Am, vm, uz⟩ (fun hHeld => ?_); refine Ac bp.TB bp.WY (fun cQ nz => ?_)
                              generalize wc.drew = w73 at b8 bP cT cR de gB gF gE gC i9 jF i7 jB HB p' qd qL qq nM nY nP od Ce z_ zV uG vz BR As Am vm uz hHeld ⊢
                              refine PU 0 106 cQ ?_
                              refine PU 1 107 cQ ?_
                              refine PU 2 108 cQ ?_
                              refine PU 4 110 cQ ?_
                              refine PU 5 111 cQ ?_
                              refine PU 6 112 cQ ?_
                              refine PU 8 114 cQ ?_
                              refine PU 9 115 cQ ?_
                              refine TU 3 109 cQ nz hHeld ?_
                              refine TU 7 113 cQ nz hHeld ?_
                              refine CF (i := 10) (N := some 116) #[true, true, true, true, true, true, true, true, true, true, true, false] rfl rfl (D7 cQ.out (by kernel_rfl)) (by decide) (fun K hK => ?_)
                              refine Gt Try.func36 (by kernel_rfl) rfl #[.agg #[.int .i64 ((aD bF aZ).f0), .int .i64 ((aD bF aZ).f1), .string ((aD bF aZ).f2), .slice Nf ((aD bF aZ).f3).length L5, .slice OG ((aD bF aZ).f4).length Sf], .agg #[.int .i64 ((aD bG bl).f0), .int .i64 ((aD bG bl).f1), .string ((aD bG bl).f2), .slice Rm ((aD bG bl).f3).length Sm, .slice Pe ((aD bG bl).f4).length PB], .slice (some tV) l2.length c2, .slice A3 l3.length c3] (by rfl) rfl rfl MX ?_
                              with_reducible refine (ij.calls uU ((aD bF aZ).f0) ((aD bF aZ).f1) ((aD bF aZ).f2) _ _ ((aD bF aZ).f3) _ _ ((aD bF aZ).f4) ((aD bG bl).f0) ((aD bG bl).f1) ((aD bG bl).f2) _ _ ((aD bG bl).f3) _ _ ((aD bG bl).f4) _ _ l2 _ _ l3 false _ ?aH ?aG ?bt ?bv ?cX ?cW ?fE ?fS ?fN ?fI ?fJ ?fF Tz.out).mono ?_
                              (case aH => repeat (first | exact (by repeat (first | (with_reducible exact nM.out) | (with_reducible refine Kd.dH ?_ _) | (with_reducible refine Kd.dM ?_ _) | (with_reducible refine Kd.cH ?_) | exact nM.out)) | (with_reducible refine Kd.dH ?_ _) | (with_reducible refine Kd.dM ?_ _) | (with_reducible refine Kd.cH ?_)))
                              (case aG => exact Mw.out)
                              (case bt => repeat (first | exact (by repeat (first | (with_reducible exact nY.out) | (with_reducible refine Kd.dH ?_ _) | (with_reducible refine Kd.dM ?_ _) | (with_reducible refine Kd.cH ?_) | exact nY.out)) | (with_reducible refine Kd.dH ?_ _) | (with_reducible refine Kd.dM ?_ _) | (with_reducible refine Kd.cH ?_)))
                              (case bv => exact O7.out)
                              (case cX => repeat (first | exact (by repeat (first | (with_reducible exact nP.out) | (with_reducible refine Kd.dH ?_ _) | (with_reducible refine Kd.dM ?_ _) | (with_reducible refine Kd.cH ?_) | exact nP.out)) | (with_reducible refine Kd.dH ?_ _) | (with_reducible refine Kd.dM ?_ _) | (with_reducible refine Kd.cH ?_)))
                              (case cW => exact N1.out)
                              (case fE => repeat (first | exact (by repeat (first | (with_reducible exact od.out) | (with_reducible refine Kd.dH ?_ _) | (with_reducible refine Kd.dM ?_ _) | (with_reducible refine Kd.cH ?_) | exact od.out)) | (with_reducible refine Kd.dH ?_ _) | (with_reducible refine Kd.dM ?_ _) | (with_reducible refine Kd.cH ?_)))
                              (case fS => exact Px.out)
                              (case fN => exact CX (Kd.aC gD.out HB.out))
                              (case fI => exact lO.out)
                              (case fJ => exact CX (Kd.aC qr.out HB.out))
                              (case fF => exact rG.out)
                              rintro e w74 ⟨rfl, hb⟩
                              have ME := (hb.cell (World.block_lt_of_cell? _ _ (hHeld.1))).trans (hHeld.1)
                              have Sp := (hb.cell (World.block_lt_of_cell? _ _ (hHeld.2.1))).trans (hHeld.2.1)
                              have Sd := (hb.cell (World.block_lt_of_cell? _ _ (hHeld.2.2.1))).trans (hHeld.2.2.1)
                              have N3 := (hb.cell (World.block_lt_of_cell? _ _ (hHeld.2.2.2.1))).trans (hHeld.2.2.2.1)
                              have LV := (hb.cell (World.block_lt_of_cell? _ _ (hHeld.2.2.2.2.1))).trans (hHeld.2.2.2.2.1)
                              have OQ := (hb.cell (World.block_lt_of_cell? _ _ (hHeld.2.2.2.2.2.1))).trans (hHeld.2.2.2.2.2.1)
                              have Mr := (hb.cell (World.block_lt_of_cell? _ _ (hHeld.2.2.2.2.2.2.1))).trans (hHeld.2.2.2.2.2.2.1)
                              have RD := (hb.cell (World.block_lt_of_cell? _ _ (hHeld.2.2.2.2.2.2.2.1))).trans (hHeld.2.2.2.2.2.2.2.1)
                              have QS := (hb.cell (World.block_lt_of_cell? _ _ (hHeld.2.2.2.2.2.2.2.2.1))).trans (hHeld.2.2.2.2.2.2.2.2.1)
                              have RH := (hb.cell (World.block_lt_of_cell? _ _ (hHeld.2.2.2.2.2.2.2.2.2))).trans (hHeld.2.2.2.2.2.2.2.2.2)
                              refine ⟨_, rfl, ?_⟩
                              have af := ae.mk (Kd.vS (by (with_reducible repeat (first | apply Kd.cN | apply Kd.cM | apply Kd.cC)); exact b8.out) hb)
                              have ag := ae.mk (Kd.vS (by (with_reducible repeat (first | apply Kd.cN | apply Kd.cM | apply Kd.cC)); exact bP.out) hb)
                              have ah := ax cT hb
                              have am := ae.mk (Kd.u3 (by (with_reducible repeat (first | apply Kd.l9 | apply Kd.lI | apply Kd.lV)); exact p'.out) hb)
                              have aJ := ae.mk (Kd.u3 (by (with_reducible repeat (first | apply Kd.l9 | apply Kd.lI | apply Kd.lV)); exact qd.out) hb)
                              have aW := ae.mk (Kd.u3 (by (with_reducible repeat (first | apply Kd.l9 | apply Kd.lI | apply Kd.lV)); exact qL.out) hb)
                              have be := ae.mk (Kd.u3 (by (with_reducible repeat (first | apply Kd.l9 | apply Kd.lI | apply Kd.lV)); exact qq.out) hb)
                              have bJ := bw cR hb
                              have bZ := bw de hb
                              have b0 := eW gB hb
                              have cy := eW gF hb
                              have cA := eW gE hb
                              have cF := eW gC hb
                              have db := eW i9 hb
                              have dR := eW jF hb
                              have eh := eW i7 hb
                              have ef := eW jB hb
                              have ex := eW nM hb
                              have ey := eW nY hb
                              have eZ := eW nP hb
                              have ft := eW od hb
                              have fV := bn HB hb
                              clear b8
                              clear bP
                              clear cT
                              clear p'
                              clear qd
                              clear qL
                              clear qq
                              clear cR
                              clear de
                              clear gB
                              clear gF
                              clear gE
                              clear gC
                              clear i9
                              clear jF
                              clear i7
                              clear jB
                              clear nM
                              clear nY
                              clear nP
                              clear od
                              clear HB
                              have b8 := af
                              have bP := ag
                              have cT := ah
                              have p' := am
                              have qd := aJ
                              have qL := aW
                              have qq := be
                              have cR := bJ
                              have de := bZ
                              have gB := b0
                              have gF := cy
                              have gE := cA
                              have gC := cF
                              have i9 := db
                              have jF := dR
                              have i7 := eh
                              have jB := ef
                              have nM := ex
                              have nY := ey
                              have nP := eZ
                              have od := ft
                              have HB := fV
                              clear af ag ah am aJ aW be bJ bZ b0 cy cA cF db dR eh ef ex ey eZ ft fV
                              (try clear hb)
                              (try clear hb2)
                              (try clear hk)
                              (try clear hi)
                              refine hK.out _ _ ⟨ME, Sp, Sd, N3, LV, OQ, Mr, RD, QS, RH⟩ (fun hHeld => ?_)
                              clear hK K
                              refine FM (a' := ?_) ?_ ?_
                              rotate_left
                              ·show Act.put _ (some 116) _ = _
                               simp only [Act.put, List.setIfInBounds_toArray, List.set_cons_zero, List.set_cons_succ, gY, gX]
                               rfl
                              refine PU 11 117 cQ ?_
                              refine AG (Bd cQ.out (by kernel_rfl)) ?_
                              have K8 : 0 ≤ (aZ : Int) := of_decide_eq_true AX
                              have JR : aZ < (l2.length : Int) := of_decide_eq_true AX
                              obtain ⟨ajl, aha, Ip⟩ := Kd.dB gD.out aZ K8 JR
                              obtain rfl : tV = ajl := (by injection aha)
                              replace Ip := (HB.out.cell (World.block_lt_of_cell? w _ Ip)).trans Ip
                              replace K8 := eq_true K8
                              replace JR := eq_true JR
                              obtain ⟨Ou, Ph, Qh⟩ := Kd.bm cT.out
                              subst Qh
                              try go_wp2_with (first | ((with_reducible refine dD (f := 33) rfl ?_); refine dC (some 124) rfl rfl Try.func33 (by kernel_rfl) rfl #[.slice Ou vk.length Ph, .agg #[.int .i64 (rd l2 aZ), .int .i64 6]] rfl MX ?_; (with_reducible refine (dK.calls uU _ _ vk (rd l2 aZ) 6 B9 _ ?aH ?aG A72.out).mono ?_); (case aH => exact CX ((Kd.b_ cT.out).2.2)); (case aG => exact (Kd.b_ cT.out).2.1); rintro e w76 ⟨asB, rfl, aR, hb⟩; refine ⟨_, rfl, ?_⟩; have af := ae.mk (Kd.oY (by (with_reducible repeat (first | apply Kd.cN | apply Kd.cM | apply Kd.cC)); exact b8.out) (Kd.aV aR) hb); have ag := ae.mk (Kd.oY (by (with_reducible repeat (first | apply Kd.cN | apply Kd.cM | apply Kd.cC)); exact bP.out) (Kd.aV aR) hb); have ah := ae.mk (Kd.b7 (RX cT.out) (Kd.aV aR) hb); have am := ae.mk (Kd.qv (by (with_reducible repeat (first | apply Kd.l9 | apply Kd.lI | apply Kd.lV)); exact p'.out) (Kd.aV aR) hb); have aJ := ae.mk (Kd.qv (by (with_reducible repeat (first | apply Kd.l9 | apply Kd.lI | apply Kd.lV)); exact qd.out) (Kd.aV aR) hb); have aW := ae.mk (Kd.qv (by (with_reducible repeat (first | apply Kd.l9 | apply Kd.lI | apply Kd.lV)); exact qL.out) (Kd.aV aR) hb); have be := ae.mk (Kd.qv (by (with_reducible repeat (first | apply Kd.l9 | apply Kd.lI | apply Kd.lV)); exact qq.out) (Kd.aV aR) hb); have bJ := ae.mk (Kd.eB (Kd.bh aR (Kd.bg (RX cT.out))) (cG (by repeat (first | (with_reducible first | exact HB.out | apply aQ | apply aY | apply aT | refine ao ?_ g_.out | refine ao ?_ hJ.out) | exact HB.out)))); have bZ := bw cR hb; have b0 := bw de hb; have cy := eW gB hb; have cA := eW gF hb; have cF := eW gE hb; have db := eW gC hb; have dR := eW i9 hb; have eh := eW jF hb; have ef := eW i7 hb; have ex := eW jB hb; have ey := eW nM hb; have eZ := eW nY hb; have ft := eW nP hb; have fV := eW od hb; have hZ := bn HB hb; clear b8; clear bP; clear cT; clear p'; clear qd; clear qL; clear qq; clear cR; clear de; clear gB; clear gF; clear gE; clear gC; clear i9; clear jF; clear i7; clear jB; clear nM; clear nY; clear nP; clear od; clear HB; have b8 := af; have bP := ag; have cT := ah; have p' := am; have qd := aJ; have qL := aW; have qq := be; have ach := bJ; have cR := bZ; have de := b0; have gB := cy; have gF := cA; have gE := cF; have gC := db; have i9 := dR; have jF := eh; have i7 := ef; have jB := ex; have nM := ey; have nY := eZ; have nP := ft; have od := fV; have HB := hZ; clear af ag ah am aJ aW be bJ bZ b0 cy cA cF db dR eh ef ex ey eZ ft fV hZ; (try clear hb); (try clear hb2); (try clear hk); (try clear hi); (try clear aR)))
                              go_roundg uU
                              case measure => have := lD.out; have := eP.out; have := vr.out; have := BN.out; have := KW.out; omega
                              case rel => exact ⟨(B9), (wrap64 (aZ + 1)), SX, H', ⟨by have := lD.out; have := eP.out; have := vr.out; have := BN.out; have := KW.out; omega⟩, ⟨by (with_reducible repeat (first | apply Kd.cN | apply Kd.cM | apply Kd.cC)); exact Kd.iO b8.out (fun _ hk => ⟨hk.1.1, ⟨hk.2, ⟨hk.1.2.2.1, hk.1.2.2.2⟩⟩⟩)⟩, ⟨by (with_reducible repeat (first | apply Kd.cN | apply Kd.cM | apply Kd.cC)); exact Kd.iO bP.out (fun _ hk => ⟨hk.1.1, ⟨hk.2, ⟨hk.1.2.2.1, hk.1.2.2.2⟩⟩⟩)⟩, ⟨by (with_reducible repeat (first | apply Kd.nX | apply Kd.ot | apply Kd.jj)); exact Kd.cm ach.out (fun _ hk => trivial)⟩, ⟨by (with_reducible repeat (first | refine bf ?_ _ | refine bd ?_ | refine aU ?_ _)); exact cR.out⟩, ⟨by (with_reducible repeat (first | refine bf ?_ _ | refine bd ?_ | refine aU ?_ _)); exact de.out⟩, ⟨by repeat (first | (with_reducible first | exact HB.out | apply aQ | apply aY | apply aT | refine ao ?_ g_.out | refine ao ?_ hJ.out) | exact HB.out)⟩⟩
                             ·rw [if_neg Ga] at H
                              exact absurd H (by simp)
                           ·rw [if_neg Gf] at H
                            exact absurd H (by simp)
                          ·rw [if_neg DW] at H
                           exact absurd H (by simp)
                         ·rw [if_neg xR] at H
                          exact absurd H (by simp)
                        ·rw [if_neg zH] at H
                         exact absurd H (by simp)
                     ·rw [if_neg Br] at H
                      exact absurd H (by simp)
                    ·rw [if_neg AN] at H
                     exact absurd H (by simp)
                   ·rw [if_neg s5] at H
                    exact absurd H (by simp)
                  ·rw [if_neg sK] at H
                   exact absurd H (by simp)
               ·rw [if_neg xy] at H
                exact absurd H (by simp)
              ·rw [if_neg uB] at H
               exact absurd H (by simp)
             ·rw [if_neg yo] at H
              exact absurd H (by simp)
            ·rw [if_neg xI] at H
             exact absurd H (by simp)
        ·rw [if_neg lP] at H
         exact absurd H (by simp)
       ·rw [if_neg mL] at H
        exact absurd H (by simp)
      ·rw [if_neg gQ] at H
       have ui : decide (aZ < (bF.length : Int)) = false := decide_eq_false gQ
       clear gQ
       have H' := ae.mk H
       clear H
       obtain ⟨apO, ap4, aii⟩ := Kd.gK b8.out
       subst aii
       go_wp2
       go_loopg [12, 15] k2 (fun kq v12 NN w' => ∃ (Bt : List (aw)) (jf : Int), NN = .int .i64 jf ∧ ae (bp.l1 kq l2 l3 bG Bt jf = some (r1, r2)) ∧ ae (kq ≤ k2) ∧ ae (Kd.N fc 70 w' w.heap.size (fun k_ => some k_ ≠ (v12 : Value).ownBlock ∧ k_ ≠ lw ∧ k_ ≠ lv) Fs bG) ∧ ae (Kd.R dT 48 w' w.heap.size (fun _ => True) v12 Bt) ∧ ae (w'.heap[lw]? = some (.cells #[.int .i64 aE, .string aA, (.slice bB ay.length bA), (.slice br au.length bq)] 25 (0, 0))) ∧ ae (w'.heap[lv]? = some (.cells #[.int .i64 aK, .string aM, (.slice fQ cx.length fP), (.slice eG bR.length eD)] 25 (0, 0))) ∧ ae (Below w.heap.size w w'))
       case atStart => exact ⟨(fD), (0), SX, H', ⟨Nat.le_refl _⟩, ⟨by (with_reducible repeat (first | apply Kd.cN | apply Kd.cM | apply Kd.cC)); exact Kd.iO bP.out (fun _ hk => ⟨hk.2.1, ⟨hk.2.2.1, hk.2.2.2⟩⟩)⟩, ⟨RX cT.out⟩, ⟨by (with_reducible repeat (first | refine bf ?_ _ | refine bd ?_ | refine aU ?_ _)); exact cR.out⟩, ⟨by (with_reducible repeat (first | refine bf ?_ _ | refine bd ?_ | refine aU ?_ _)); exact de.out⟩, ⟨by repeat (first | (with_reducible first | exact HB.out | apply aQ | apply aY | apply aT | refine ao ?_ g_.out | refine ao ?_ hJ.out) | exact HB.out)⟩⟩
       case round =>
        clear H'
        try clear c1
        try clear c2
        try clear p2
        try clear c3
        try clear p3
        try clear q3
        try clear kE
        try clear c4
        try clear c5
        try clear c6
        try clear p6
        try clear c7
        try clear gQ
        try clear ui
        try clear mL
        try clear lP
        try clear RK
        try clear c35
        try clear p35
        try clear q35
        try clear ac9
        try clear ro
        try clear xI
        try clear yo
        try clear uB
        try clear xy
        try clear sK
        try clear s5
        try clear AN
        try clear Br
        try clear zH
        try clear xR
        try clear PX
        try clear DW
        try clear Gf
        try clear wX
        try clear Ga
        try clear ag4
        try clear Ce
        try clear z_
        try clear zV
        try clear uG
        try clear vz
        try clear BR
        try clear As
        try clear Am
        try clear vm
        try clear uz
        try clear Ip
        try clear sd
        try clear sf
        try clear K8
        try clear s8
        try clear sO
        try clear JR
        obtain ⟨Bt, jf, rfl, HA, mH, bP, cT, cR, de, HB⟩ := hrel
        cases gk with
        | zero => exact absurd HA.out (by simp [bp.l1])
        | succ k3 =>
         have H := HA.out
         clear HA
         simp only [bp.l1] at H
         by_cases qE : jf < (bG.length : Int)
         ·rw [if_pos qE] at H
          have OM : decide (jf < (bG.length : Int)) = true := decide_eq_true qE
          clear qE
          by_cases sp : 0 ≤ jf
          ·rw [if_pos sp] at H
           have XT : decide (0 ≤ jf) = true := decide_eq_true sp
           clear sp
           by_cases KT : jf < (l3.length : Int)
           ·rw [if_pos KT] at H
            have axP : decide (jf < (l3.length : Int)) = true := decide_eq_true KT
            clear KT
            replace H := Option.bind_eq_some_iff.mp H
            obtain ⟨wP, Wj, H⟩ := H
            have X8 := ae.mk Wj
            clear Wj
            by_cases qG : wP < 0
            ·rw [if_pos qG] at H
             have NM : decide (wP < 0) = true := decide_eq_true qG
             clear qG
             replace H := Option.bind_eq_some_iff.mp H
             obtain ⟨Jn, Tf, H⟩ := H
             have A83 := ae.mk Tf
             clear Tf
             have H' := ae.mk H
             clear H
             obtain ⟨av1, at0, aeH⟩ := Kd.gK bP.out
             subst aeH
             have yM : 0 ≤ (jf : Int) := of_decide_eq_true AX
             have w_ : jf < (l3.length : Int) := of_decide_eq_true AX
             obtain ⟨WC, Qs, xD⟩ := Kd.dB qr.out jf yM w_
             cases Qs
             replace xD := (HB.out.cell (World.block_lt_of_cell? w _ xD)).trans xD
             replace yM := eq_true yM
             replace w_ := eq_true w_
             go_wp2_with (first | ((with_reducible refine dD (f := 32) rfl ?_); refine dC (some 136) rfl rfl Try.func32 (by kernel_rfl) rfl #[.slice A2 l2.length c2, .int .i64 (rd l3 jf)] rfl MX ?_; (with_reducible refine (gq.calls k3 _ _ l2 (rd l3 jf) wP _ ?aH ?aG X8.out).mono ?_); (case aH => exact CX (Kd.aC gD.out HB.out)); (case aG => exact lO.out); rintro e w' ⟨rfl, ⟨nd, rfl⟩⟩; refine ⟨_, rfl, ?_⟩; have OT : 0 ≤ (jf : Int) := of_decide_eq_true AX; have Ra : jf < (l3.length : Int) := of_decide_eq_true AX; obtain ⟨afq, aaV, Ot⟩ := Kd.dB qr.out jf OT Ra; obtain rfl : WC = afq := (by injection aaV); replace Ot := (HB.out.cell (World.block_lt_of_cell? w _ Ot)).trans Ot; replace OT := eq_true OT; replace Ra := eq_true Ra; obtain ⟨SM, XO, Pc⟩ := Kd.bm cT.out; subst Pc) | ((with_reducible refine dD (f := 33) rfl ?_); refine dC (some 144) rfl rfl Try.func33 (by kernel_rfl) rfl #[.slice SM Bt.length XO, .agg #[.int .i64 (rd l3 jf), .int .i64 1]] rfl MX ?_; (with_reducible refine (dK.calls k3 _ _ Bt (rd l3 jf) 1 Jn _ ?aH ?aG A83.out).mono ?_); (case aH => exact CX ((Kd.b_ cT.out).2.2)); (case aG => exact (Kd.b_ cT.out).2.1); rintro e w86 ⟨aqV, rfl, aR, hb⟩; refine ⟨_, rfl, ?_⟩; have af := ae.mk (Kd.oY (by (with_reducible repeat (first | apply Kd.cN | apply Kd.cM | apply Kd.cC)); exact bP.out) (Kd.aV aR) hb); have ag := ae.mk (Kd.b7 (RX cT.out) (Kd.aV aR) hb); have ah := ae.mk (Kd.eB (Kd.bh aR (Kd.bg (RX cT.out))) (cG (by repeat (first | (with_reducible first | exact HB.out | apply aQ | apply aY | apply aT | refine ao ?_ g_.out | refine ao ?_ hJ.out) | exact HB.out)))); have am := bw cR hb; have aJ := bw de hb; have aW := bn HB hb; clear bP; clear cT; clear cR; clear de; clear HB; have bP := af; have cT := ag; have ZI := ah; have cR := am; have de := aJ; have HB := aW; clear af ag ah am aJ aW; (try clear hb); (try clear hb2); (try clear hk); (try clear hi); (try clear aR)))
             go_roundg k3
             case measure => have := lD.out; have := eP.out; have := mH.out; omega
             case rel => exact ⟨(Jn), (wrap64 (jf + 1)), SX, H', ⟨by have := lD.out; have := eP.out; have := mH.out; omega⟩, ⟨by (with_reducible repeat (first | apply Kd.cN | apply Kd.cM | apply Kd.cC)); exact Kd.iO bP.out (fun _ hk => ⟨hk.2, ⟨hk.1.2.1, hk.1.2.2⟩⟩)⟩, ⟨by (with_reducible repeat (first | apply Kd.nX | apply Kd.ot | apply Kd.jj)); exact Kd.cm ZI.out (fun _ hk => trivial)⟩, ⟨by (with_reducible repeat (first | refine bf ?_ _ | refine bd ?_ | refine aU ?_ _)); exact cR.out⟩, ⟨by (with_reducible repeat (first | refine bf ?_ _ | refine bd ?_ | refine aU ?_ _)); exact de.out⟩, ⟨by repeat (first | (with_reducible first | exact HB.out | apply aQ | apply aY | apply aT | refine ao ?_ g_.out | refine ao ?_ hJ.out) | exact HB.out)⟩⟩
            ·rw [if_neg qG] at H
             have NM : decide (wP < 0) = false := decide_eq_false qG
             clear qG
             have H' := ae.mk H
             clear H
             obtain ⟨Vn, Yg, N5⟩ := Kd.gK bP.out
             subst N5
             have yM : 0 ≤ (jf : Int) := of_decide_eq_true AX
             have w_ : jf < (l3.length : Int) := of_decide_eq_true AX
             obtain ⟨WC, Qs, xD⟩ := Kd.dB qr.out jf yM w_
             cases Qs
             replace xD := (HB.out.cell (World.block_lt_of_cell? w _ xD)).trans xD
             replace yM := eq_true yM
             replace w_ := eq_true w_
             go_wp2_with (first | ((with_reducible refine dD (f := 32) rfl ?_); refine dC (some 136) rfl rfl Try.func32 (by kernel_rfl) rfl #[.slice A2 l2.length c2, .int .i64 (rd l3 jf)] rfl MX ?_; (with_reducible refine (gq.calls k3 _ _ l2 (rd l3 jf) wP _ ?aH ?aG X8.out).mono ?_); (case aH => exact CX (Kd.aC gD.out HB.out)); (case aG => exact lO.out); rintro e w' ⟨rfl, ⟨nd, rfl⟩⟩; refine ⟨_, rfl, ?_⟩))
             go_roundg k3
             case measure => have := lD.out; have := eP.out; have := mH.out; omega
             case rel => exact ⟨(Bt), (wrap64 (jf + 1)), SX, H', ⟨by have := lD.out; have := eP.out; have := mH.out; omega⟩, ⟨by (with_reducible repeat (first | apply Kd.cN | apply Kd.cM | apply Kd.cC)); exact bP.out⟩, ⟨RX cT.out⟩, ⟨by (with_reducible repeat (first | refine bf ?_ _ | refine bd ?_ | refine aU ?_ _)); exact cR.out⟩, ⟨by (with_reducible repeat (first | refine bf ?_ _ | refine bd ?_ | refine aU ?_ _)); exact de.out⟩, ⟨by repeat (first | (with_reducible first | exact HB.out | apply aQ | apply aY | apply aT | refine ao ?_ g_.out | refine ao ?_ hJ.out) | exact HB.out)⟩⟩
           ·rw [if_neg KT] at H
            exact absurd H (by simp)
          ·rw [if_neg sp] at H
           exact absurd H (by simp)
         ·rw [if_neg qE] at H
          have OM : decide (jf < (bG.length : Int)) = false := decide_eq_false qE
          clear qE
          simp only [Option.some.injEq, Prod.mk.injEq] at H
          obtain ⟨rfl, rfl⟩ := H
          obtain ⟨S3, UF, Oe⟩ := Kd.gK bP.out
          subst Oe
          go_wp2
          go_ret2
          exact ⟨_, by first | rfl | (simp [bY, bX] <;> rfl) | (simp [*, bY, bX] <;> rfl), by (with_reducible repeat (first | apply Kd.nX | apply Kd.ot | apply Kd.jj)); exact cT.out, by repeat (first | (with_reducible first | exact HB.out | apply aQ | apply aY | apply aT | refine ao ?_ g_.out | refine ao ?_ hJ.out) | exact HB.out)⟩
end Go.Proofs.Ytcfjdehpbckomaa.Q
