
import Derived.Test.YtcfjdehpbckomaaQ0
import Derived.Test.YtcfjdehpbckomaaQ9
import Derived.Test.YtcfjdehpbckomaaQ13
namespace Go.Proofs.Ytcfjdehpbckomaa.Q
open Go.RowKit Go.Proofs.YtcfjdehpbckomaaW.dS Go.Proofs.YtcfjdehpbckomaaW.jm Go.Proofs.YtcfjdehpbckomaaW.mm
attribute [local go_sem] mU na nt mX m6 nu mP mW
set_option linter.unusedVariables false
set_option linter.unusedSimpArgs false
/-! ### treemergeref30_Check: function 45 -/
mutual
def cn.j0 : Nat → List (bC) → List (bC) → List (bC) → Bool → List Int → List Int → List Int → Int → Option (Int)
 | 0, _, _, _, _, _, _, _, _ => none
 | k + 1, x9, x10, fH, x60, pT, po, pQ, p9 => if x60 = true then (some 15) else (cn.l0 k x9 x10 fH 0 pT po pQ p9)
def cn.l0 : Nat → List (bC) → List (bC) → List (bC) → Int → List Int → List Int → List Int → Int → Option (Int)
 | 0, _, _, _, _, _, _, _, _ => none
 | k + 1, x9, x10, fH, gR, pT, po, pQ, p9 => if gR < (x9.length : Int) then (if 0 ≤ gR then (if gR < (pT.length : Int) then (if (rd pT gR) = gR then (if gR ≥ p9 then (some 15) else (cn.l0 k x9 x10 fH (wrap64 (gR + 1)) pT po pQ p9)) else (some 15)) else (none)) else (none)) else (cn.l1 k x9 x10 fH 0 pT po pQ p9)
def cn.l1 : Nat → List (bC) → List (bC) → List (bC) → Int → List Int → List Int → List Int → Int → Option (Int)
 | 0, _, _, _, _, _, _, _, _ => none
 | k + 1, x9, x10, fH, dA, pT, po, pQ, p9 => if dA < (x10.length : Int) then (if 0 ≤ dA then (if dA < (po.length : Int) then ((dh.f k pQ (rd po dA)).bind fun dP => (if dP ≥ 0 then (if 0 ≤ dP then (if dP < (fH.length : Int) then (if ((aD fH dP).f1) = ((aD x10 dA).f1) then (cn.l1 k x9 x10 fH (wrap64 (dA + 1)) pT po pQ p9) else (some 15)) else (none)) else (none)) else (cn.l1 k x9 x10 fH (wrap64 (dA + 1)) pT po pQ p9))) else (none)) else (none)) else (cn.l2 k (x9.length : Int) pT po pQ p9)
def cn.l2 : Nat → Int → List Int → List Int → List Int → Int → Option (Int)
 | 0, _, _, _, _, _ => none
 | k + 1, nV, pT, po, pQ, p9 => if nV < p9 then ((dh.f k po nV).bind fun pn => (if pn < 0 then ((dh.f k pQ nV).bind fun rP => (if rP < 0 then (some 15) else (cn.l2 k (wrap64 (nV + 1)) pT po pQ p9))) else (cn.l2 k (wrap64 (nV + 1)) pT po pQ p9))) else (some 0)
end
def cn.f (k : Nat) (aE : Int) (aA : ByteArray) (ay : List ByteArray) (au : List (aX)) (aK : Int) (aM : ByteArray) (cx : List ByteArray) (bR : List (aX)) (e8 : Int) (fa : ByteArray) (dZ : List ByteArray) (d4 : List (aX)) (b6 : List Int) (bS : List Int) (b9 : List Int) (cD : Int) : Option (Int) := (mc.f aE aA ay au).bind fun dE => ((mc.f aK aM cx bR).bind fun dw => ((mc.f e8 fa dZ d4).bind fun dN => (if (b6.length : Int) = (dE.length : Int) then ((cV.f k dE dw bS cD).bind fun G6 => (if G6 = true then ((cV.f k dE dN b9 cD).bind fun zd => (if zd = true then (cn.j0 k dE dw dN (decide (cD > (wrap64 ((wrap64 ((dE.length : Int) + (dw.length : Int))) + (dN.length : Int))))) b6 bS b9 cD) else (cn.j0 k dE dw dN true b6 bS b9 cD))) else (cn.j0 k dE dw dN true b6 bS b9 cD))) else (cn.j0 k dE dw dN true b6 bS b9 cD))))
theorem cn.fp : ∀ k, (∀ y0 y1 y2 y3 y4 y5 y6 y7, aI (cn.j0 k y0 y1 y2 y3 y4 y5 y6 y7) (cn.j0 (k + 1) y0 y1 y2 y3 y4 y5 y6 y7)) ∧ (∀ y0 y1 y2 y3 y4 y5 y6 y7, aI (cn.l0 k y0 y1 y2 y3 y4 y5 y6 y7) (cn.l0 (k + 1) y0 y1 y2 y3 y4 y5 y6 y7)) ∧ (∀ y0 y1 y2 y3 y4 y5 y6 y7, aI (cn.l1 k y0 y1 y2 y3 y4 y5 y6 y7) (cn.l1 (k + 1) y0 y1 y2 y3 y4 y5 y6 y7)) ∧ (∀ y0 y1 y2 y3 y4, aI (cn.l2 k y0 y1 y2 y3 y4) (cn.l2 (k + 1) y0 y1 y2 y3 y4))
 | 0 => ⟨fun _ _ _ _ _ _ _ _ r h => by simp [cn.j0] at h, fun _ _ _ _ _ _ _ _ r h => by simp [cn.l0] at h, fun _ _ _ _ _ _ _ _ r h => by simp [cn.l1] at h, fun _ _ _ _ _ r h => by simp [cn.l2] at h⟩
 | k + 1 => by
  obtain ⟨dq, ih1, ih2, ih3⟩ := cn.fp k
  refine ⟨?_, ?_, ?_, ?_⟩ <;> intros <;> (first | unfold cn.j0 | unfold cn.l0 | unfold cn.l1 | unfold cn.l2) <;> repeat' first
   | (with_reducible exact dq _ _ _ _ _ _ _ _)
   | (with_reducible exact ih1 _ _ _ _ _ _ _ _)
   | (with_reducible exact ih2 _ _ _ _ _ _ _ _)
   | (with_reducible exact ih3 _ _ _ _ _)
   | (with_reducible exact dh.mono _ _ _)
   | (with_reducible exact cV.mono _ _ _ _ _)
   | (with_reducible exact aI.refl _)
   | (with_reducible exact aI.none _)
   | (with_reducible refine aI.ite ?_ ?_)
   | (with_reducible refine aI.bind ?_ (fun _ => ?_))
   | exact dq _ _ _ _ _ _ _ _
   | exact ih1 _ _ _ _ _ _ _ _
   | exact ih2 _ _ _ _ _ _ _ _
   | exact ih3 _ _ _ _ _
   | exact dh.mono _ _ _
   | exact cV.mono _ _ _ _ _
   | exact aI.none _
   | refine aI.ite ?_ ?_
   | refine aI.bind ?_ (fun _ => ?_)
theorem cn.mono : ∀ a0 a1 a2 a3 a4 a5 a6 a7 a8 a9 mq mj a12 o4 o6 pb k, aI (cn.f k a0 a1 a2 a3 a4 a5 a6 a7 a8 a9 mq mj a12 o4 o6 pb) (cn.f (k + 1) a0 a1 a2 a3 a4 a5 a6 a7 a8 a9 mq mj a12 o4 o6 pb) := by
 intro a0 a1 a2 a3 a4 a5 a6 a7 a8 a9 mq mj a12 o4 o6 pb k
 obtain ⟨dq, ih1, ih2, ih3⟩ := cn.fp k
 unfold cn.f
 repeat' first
   | (with_reducible exact dq _ _ _ _ _ _ _ _)
   | (with_reducible exact ih1 _ _ _ _ _ _ _ _)
   | (with_reducible exact ih2 _ _ _ _ _ _ _ _)
   | (with_reducible exact ih3 _ _ _ _ _)
   | (with_reducible exact dh.mono _ _ _)
   | (with_reducible exact cV.mono _ _ _ _ _)
   | (with_reducible exact aI.refl _)
   | (with_reducible exact aI.none _)
   | (with_reducible refine aI.ite ?_ ?_)
   | (with_reducible refine aI.bind ?_ (fun _ => ?_))
set_option maxHeartbeats 8000000 in
set_option maxRecDepth 100000 in
theorem cn.calls (k : Nat) (aE : Int) (aA : ByteArray) (bB : Option Addr) (bA : Nat) (ay : List ByteArray) (br : Option Addr) (bq : Nat) (au : List (aX)) (aK : Int) (aM : ByteArray) (fQ : Option Addr) (fP : Nat) (cx : List ByteArray) (eG : Option Addr) (eD : Nat) (bR : List (aX)) (e8 : Int) (fa : ByteArray) (jy : Option Addr) (jI : Nat) (dZ : List ByteArray) (jK : Option Addr) (jJ : Nat) (d4 : List (aX)) (jd : Option Addr) (i8 : Nat) (b6 : List Int) (jw : Option Addr) (jz : Nat) (bS : List Int) (jD : Option Addr) (jA : Nat) (b9 : List Int) (cD : Int) (r : Int) (w : World) (fZ : Kd.C Kd.string w bB ay.length ay) (gg : ay.length ≤ bA) (fC : Kd.C k25 w br au.length au) (fL : au.length ≤ bq) (oC : Kd.C Kd.string w fQ cx.length cx) (o3 : cx.length ≤ fP) (mJ : Kd.C k25 w eG bR.length bR) (mK : bR.length ≤ eD) (sX : Kd.C Kd.string w jy dZ.length dZ) (sg : dZ.length ≤ jI) (sB : Kd.C k25 w jK d4.length d4) (sZ : d4.length ≤ jJ) (sD : Kd.C (Kd.int .i64) w jd b6.length b6) (sk : b6.length ≤ i8) (r7 : Kd.C (Kd.int .i64) w jw bS.length bS) (sW : bS.length ≤ jz) (sl : Kd.C (Kd.int .i64) w jD b9.length b9) (sS : b9.length ≤ jA) (h : cn.f k aE aA ay au aK aM cx bR e8 fa dZ d4 b6 bS b9 cD = some r) :
  Calls Try.prog 45 #[.agg #[.int .i64 aE, .string aA, .slice bB ay.length bA, .slice br au.length bq], .agg #[.int .i64 aK, .string aM, .slice fQ cx.length fP, .slice eG bR.length eD], .agg #[.int .i64 e8, .string fa, .slice jy dZ.length jI, .slice jK d4.length jJ], .agg #[.slice jd b6.length i8, .slice jw bS.length jz, .slice jD b9.length jA, .int .i64 cD]] w fun e w' => e = .returned (.int .i64 r) ∧ Below w.heap.size w w' := by
 have nR := Try.underlying25
 have Ld := Try.underlying40
 have fU := ae.mk fZ
 have gm := ae.mk gg
 clear fZ gg
 have fm := ae.mk fC
 have f_ := ae.mk fL
 clear fC fL
 have tf := ae.mk oC
 have tE := ae.mk o3
 clear oC o3
 have si := ae.mk mJ
 have sU := ae.mk mK
 clear mJ mK
 have xZ := ae.mk sX
 have wl := ae.mk sg
 clear sX sg
 have wa := ae.mk sB
 have yf := ae.mk sZ
 clear sB sZ
 have qZ := ae.mk sD
 have vQ := ae.mk sk
 clear sD sk
 have jq := ae.mk r7
 have kf := ae.mk sW
 clear r7 sW
 have jo := ae.mk sl
 have jt := ae.mk sS
 clear sl sS
 have HB := ae.mk (Below.refl w.heap.size w)
 have H : ((mc.f aE aA ay au).bind fun dE => ((mc.f aK aM cx bR).bind fun dw => ((mc.f e8 fa dZ d4).bind fun dN => (if (b6.length : Int) = (dE.length : Int) then ((cV.f k dE dw bS cD).bind fun G6 => (if G6 = true then ((cV.f k dE dN b9 cD).bind fun zd => (if zd = true then (cn.j0 k dE dw dN (decide (cD > (wrap64 ((wrap64 ((dE.length : Int) + (dw.length : Int))) + (dN.length : Int))))) b6 bS b9 cD) else (cn.j0 k dE dw dN true b6 bS b9 cD))) else (cn.j0 k dE dw dN true b6 bS b9 cD))) else (cn.j0 k dE dw dN true b6 bS b9 cD))))) = some r := h
 clear h
 replace H := Option.bind_eq_some_iff.mp H
 obtain ⟨dE, lW, H⟩ := H
 have A5 := ae.mk lW
 clear lW
 replace H := Option.bind_eq_some_iff.mp H
 obtain ⟨dw, pB, H⟩ := H
 have A6 := ae.mk pB
 clear pB
 replace H := Option.bind_eq_some_iff.mp H
 obtain ⟨dN, nc, H⟩ := H
 have A7 := ae.mk nc
 clear nc
 have PK := ae.mk H
 clear H
 go_enter Try.func45, Try.ntmps45
 go_upto_region 4 with (first | ((with_reducible refine bz (N := 4) rfl ?_); (try (refine gN (by rfl) ?_; dsimp only)); refine bT ?hg (N := 4) ?hd (cs := #[.int .i64 aE, .string aA, .slice bB ay.length bA, .slice br au.length bq]) (t := 25) ?hr ?_; (case hd => rfl); (case hg => rfl); (case hr => first | (go_simp; done) | (go_simp; rfl) | (obtain ⟨_, _, rfl⟩ := Kd.bm (ae.out (by assumption : ae (Kd.R _ _ _ _ _ _ _))); go_simp; done)); intro mF hg w9 av hb; have af := bn HB hb; have ag := ae.mk (av); have ah := bK HB hg; have am := bK HB hg; clear HB; have HB := af; have fq := ag; have Bl := ah; have gu := am; clear af ag ah am; clear hb av hg) | ((with_reducible refine bz (N := 5) rfl ?_); (try (refine gN (by rfl) ?_; dsimp only)); refine bT ?hg (N := 5) ?hd (cs := #[.int .i64 aK, .string aM, .slice fQ cx.length fP, .slice eG bR.length eD]) (t := 25) ?hr ?_; (case hd => rfl); (case hg => rfl); (case hr => first | (go_simp; done) | (go_simp; rfl) | (obtain ⟨_, _, rfl⟩ := Kd.bm (ae.out (by assumption : ae (Kd.R _ _ _ _ _ _ _))); go_simp; done)); intro mE hg pv av hb; have af := bw fq hb; have ag := bn HB hb; have ah := ae.mk (av); have am := bK HB hg; have aJ := bK HB hg; have aW := iP fq hg; have be := iL fq hg; clear fq; clear HB; have fq := af; have HB := ag; have gw := ah; have Bg := am; have gn := aJ; have ac0 := aW; have afv := be; clear af ag ah am aJ aW be; clear hb av hg) | ((with_reducible refine bz (N := 6) rfl ?_); (try (refine gN (by rfl) ?_; dsimp only)); refine bT ?hg (N := 6) ?hd (cs := #[.int .i64 e8, .string fa, .slice jy dZ.length jI, .slice jK d4.length jJ]) (t := 25) ?hr ?_; (case hd => rfl); (case hg => rfl); (case hr => first | (go_simp; done) | (go_simp; rfl) | (obtain ⟨_, _, rfl⟩ := Kd.bm (ae.out (by assumption : ae (Kd.R _ _ _ _ _ _ _))); go_simp; done)); intro mA hg Fj av hb; have af := bw fq hb; have ag := bw gw hb; have ah := bn HB hb; have am := ae.mk (av); have aJ := bK HB hg; have aW := bK HB hg; have be := iP fq hg; have bJ := iL fq hg; have bZ := iP gw hg; have b0 := iL gw hg; clear fq; clear gw; clear HB; have fq := af; have gw := ag; have HB := ah; have gU := am; have Aa := aJ; have gx := aW; have ago := be; have ahq := bJ; have aeA := bZ; have Zi := b0; clear af ag ah am aJ aW be bJ bZ b0; clear hb av hg) | ((with_reducible refine bz (N := 7) rfl ?_); (try (refine gN (by rfl) ?_; dsimp only)); refine bT ?hg (N := 7) ?hd (cs := #[.slice jd b6.length i8, .slice jw bS.length jz, .slice jD b9.length jA, .int .i64 cD]) (t := 40) ?hr ?_; (case hd => rfl); (case hg => rfl); (case hr => first | (go_simp; done) | (go_simp; rfl) | (obtain ⟨_, _, rfl⟩ := Kd.bm (ae.out (by assumption : ae (Kd.R _ _ _ _ _ _ _))); go_simp; done)); intro mC hg sY av hb; have af := bw fq hb; have ag := bw gw hb; have ah := bw gU hb; have am := bn HB hb; have aJ := ae.mk (av); have aW := bK HB hg; have be := bK HB hg; have bJ := iP fq hg; have bZ := iL fq hg; have b0 := iP gw hg; have cy := iL gw hg; have cA := iP gU hg; have cF := iL gU hg; clear fq; clear gw; clear gU; clear HB; have fq := af; have gw := ag; have gU := ah; have HB := am; have fT := aJ; have Be := aW; have gy := be; have oN := bJ; have oI := bZ; have pa := b0; have oK := cy; have oL := cA; have ow := cF; clear af ag ah am aJ aW be bJ bZ b0 cy cA cF; clear hb av hg; have acS := ac0.out; have aiE := afv.out; have arI := ago.out; have asU := ahq.out; have aow := oN.out; have aqY := oI.out; obtain ⟨Fv, C6, CH, FQ, Ei, E', F5, Eb⟩ := d8 fq) | (go_at_call 30; (with_reducible refine (mc.calls aE aA (fun k_ => k_ < w.heap.size) _ _ ay (fun k_ => k_ < w.heap.size) _ _ au dE _ ?aH ?aG A5.out).mono ?_); (case aH => exact Kd.eM gm.out (Kd.lJ (Kd.sP Kd.uq fU.out) (by repeat (first | (with_reducible first | exact HB.out | apply aQ | apply aY | apply aT | refine ao ?_ gu.out | refine ao ?_ gn.out | refine ao ?_ gx.out | refine ao ?_ gy.out) | exact HB.out)))); (case aG => exact Kd.eM f_.out (Kd.lJ (Kd.sP GA fm.out) (by repeat (first | (with_reducible first | exact HB.out | apply aQ | apply aY | apply aT | refine ao ?_ gu.out | refine ao ?_ gn.out | refine ao ?_ gx.out | refine ao ?_ gy.out) | exact HB.out)))); rintro e Qu ⟨uP, rfl, aR, hb⟩; have af := ae.mk (Kd.G1 (Kd.iO (d5 := fun k_ => k_ ≠ mF ∧ k_ ≠ mE ∧ k_ ≠ mA ∧ k_ ≠ mC) aR (fun k_ j8 => ⟨Or.elim j8 (fun hs_ => Or.elim hs_ (fun hs_ => fun e_ => Nat.not_le.2 hs_ (by rw [e_]; exact Bl.out)) (fun hs_ => fun e_ => Nat.not_le.2 hs_ (by rw [e_]; exact Bl.out))) (fun gl => (Kd.gb (g := mF) (o := .cells #[.int .i64 aE, .string aA, .slice bB ay.length bA, .slice br au.length bq] 25 (0, 0)) (by (with_reducible repeat (first | refine bf ?_ _ | refine bd ?_ | refine aU ?_ _)); exact fq.out) k_ gl)), Or.elim j8 (fun hs_ => Or.elim hs_ (fun hs_ => fun e_ => Nat.not_le.2 hs_ (by rw [e_]; exact Bg.out)) (fun hs_ => fun e_ => Nat.not_le.2 hs_ (by rw [e_]; exact Bg.out))) (fun gl => (Kd.gb (g := mE) (o := .cells #[.int .i64 aK, .string aM, .slice fQ cx.length fP, .slice eG bR.length eD] 25 (0, 0)) (by (with_reducible repeat (first | refine bf ?_ _ | refine bd ?_ | refine aU ?_ _)); exact gw.out) k_ gl)), Or.elim j8 (fun hs_ => Or.elim hs_ (fun hs_ => fun e_ => Nat.not_le.2 hs_ (by rw [e_]; exact Aa.out)) (fun hs_ => fun e_ => Nat.not_le.2 hs_ (by rw [e_]; exact Aa.out))) (fun gl => (Kd.gb (g := mA) (o := .cells #[.int .i64 e8, .string fa, .slice jy dZ.length jI, .slice jK d4.length jJ] 25 (0, 0)) (by (with_reducible repeat (first | refine bf ?_ _ | refine bd ?_ | refine aU ?_ _)); exact gU.out) k_ gl)), Or.elim j8 (fun hs_ => Or.elim hs_ (fun hs_ => fun e_ => Nat.not_le.2 hs_ (by rw [e_]; exact Be.out)) (fun hs_ => fun e_ => Nat.not_le.2 hs_ (by rw [e_]; exact Be.out))) (fun gl => (Kd.gb (g := mC) (o := .cells #[.slice jd b6.length i8, .slice jw bS.length jz, .slice jD b9.length jA, .int .i64 cD] 40 (0, 0)) (by (with_reducible repeat (first | refine bf ?_ _ | refine bd ?_ | refine aU ?_ _)); exact fT.out) k_ gl))⟩)) (cG (by repeat (first | (with_reducible first | exact HB.out | apply aQ | apply aY | apply aT | refine ao ?_ gu.out | refine ao ?_ gn.out | refine ao ?_ gx.out | refine ao ?_ gy.out) | exact HB.out)))); have ag := bw fq hb; have ah := bw gw hb; have am := bw gU hb; have aJ := bw fT hb; have aW := bn HB hb; clear fq; clear gw; clear gU; clear fT; clear HB; have eN := af; have fq := ag; have gw := ah; have gU := am; have fT := aJ; have HB := aW; clear af ag ah am aJ aW; (try clear hb); (try clear hb2); (try clear hk); (try clear hi); (try clear aR); have Vs := aeA.out; have TV := Zi.out; have Ts := pa.out; have Yz := oK.out; obtain ⟨s_, tc, wJ, yY, tb, ut, zk, xl⟩ := d8 gw) | (go_at_call 30; (with_reducible refine (mc.calls aK aM (fun k_ => k_ < w.heap.size) _ _ cx (fun k_ => k_ < w.heap.size) _ _ bR dw _ ?aH ?aG A6.out).mono ?_); (case aH => exact Kd.eM tE.out (Kd.lJ (Kd.sP Kd.uq tf.out) (by repeat (first | (with_reducible first | exact HB.out | apply aQ | apply aY | apply aT | refine ao ?_ gu.out | refine ao ?_ gn.out | refine ao ?_ gx.out | refine ao ?_ gy.out) | exact HB.out)))); (case aG => exact Kd.eM sU.out (Kd.lJ (Kd.sP GA si.out) (by repeat (first | (with_reducible first | exact HB.out | apply aQ | apply aY | apply aT | refine ao ?_ gu.out | refine ao ?_ gn.out | refine ao ?_ gx.out | refine ao ?_ gy.out) | exact HB.out)))); rintro e Ez ⟨sN, rfl, aR, hb⟩; have af := ae.mk (Kd.oY (by (with_reducible repeat (first | apply Kd.cN | apply Kd.cM | apply Kd.cC)); exact eN.out) (Kd.qh aR) hb); have ag := ae.mk (Kd.G1 (Kd.iO (d5 := fun k_ => some k_ ≠ (uP : Value).ownBlock ∧ k_ ≠ mF ∧ k_ ≠ mE ∧ k_ ≠ mA ∧ k_ ≠ mC) aR (fun k_ j8 => ⟨Or.elim j8 (fun hs_ => Or.elim hs_ (fun hs_ => fun e_ => Nat.not_le.2 hs_ (Kd.qh eN.out k_ e_.symm)) (fun hs_ => fun e_ => Nat.not_le.2 hs_ (Kd.qh eN.out k_ e_.symm))) (fun gl => (Kd.Ih (Kd.Eu (by (with_reducible repeat (first | apply Kd.cN | apply Kd.cM | apply Kd.cC)); exact eN.out)) k_ gl)), Or.elim j8 (fun hs_ => Or.elim hs_ (fun hs_ => fun e_ => Nat.not_le.2 hs_ (by rw [e_]; exact Bl.out)) (fun hs_ => fun e_ => Nat.not_le.2 hs_ (by rw [e_]; exact Bl.out))) (fun gl => (Kd.gb (g := mF) (o := .cells #[.int .i64 aE, .string aA, .slice bB ay.length bA, .slice br au.length bq] 25 (0, 0)) (by (with_reducible repeat (first | refine bf ?_ _ | refine bd ?_ | refine aU ?_ _)); exact fq.out) k_ gl)), Or.elim j8 (fun hs_ => Or.elim hs_ (fun hs_ => fun e_ => Nat.not_le.2 hs_ (by rw [e_]; exact Bg.out)) (fun hs_ => fun e_ => Nat.not_le.2 hs_ (by rw [e_]; exact Bg.out))) (fun gl => (Kd.gb (g := mE) (o := .cells #[.int .i64 aK, .string aM, .slice fQ cx.length fP, .slice eG bR.length eD] 25 (0, 0)) (by (with_reducible repeat (first | refine bf ?_ _ | refine bd ?_ | refine aU ?_ _)); exact gw.out) k_ gl)), Or.elim j8 (fun hs_ => Or.elim hs_ (fun hs_ => fun e_ => Nat.not_le.2 hs_ (by rw [e_]; exact Aa.out)) (fun hs_ => fun e_ => Nat.not_le.2 hs_ (by rw [e_]; exact Aa.out))) (fun gl => (Kd.gb (g := mA) (o := .cells #[.int .i64 e8, .string fa, .slice jy dZ.length jI, .slice jK d4.length jJ] 25 (0, 0)) (by (with_reducible repeat (first | refine bf ?_ _ | refine bd ?_ | refine aU ?_ _)); exact gU.out) k_ gl)), Or.elim j8 (fun hs_ => Or.elim hs_ (fun hs_ => fun e_ => Nat.not_le.2 hs_ (by rw [e_]; exact Be.out)) (fun hs_ => fun e_ => Nat.not_le.2 hs_ (by rw [e_]; exact Be.out))) (fun gl => (Kd.gb (g := mC) (o := .cells #[.slice jd b6.length i8, .slice jw bS.length jz, .slice jD b9.length jA, .int .i64 cD] 40 (0, 0)) (by (with_reducible repeat (first | refine bf ?_ _ | refine bd ?_ | refine aU ?_ _)); exact fT.out) k_ gl))⟩)) (cG (by repeat (first | (with_reducible first | exact HB.out | apply aQ | apply aY | apply aT | refine ao ?_ gu.out | refine ao ?_ gn.out | refine ao ?_ gx.out | refine ao ?_ gy.out) | exact HB.out)))); have ah := bw fq hb; have am := bw gw hb; have aJ := bw gU hb; have aW := bw fT hb; have be := bn HB hb; clear eN; clear fq; clear gw; clear gU; clear fT; clear HB; have eN := af; have iz := ag; have fq := ah; have gw := am; have gU := aJ; have fT := aW; have HB := be; clear af ag ah am aJ aW be; (try clear hb); (try clear hb2); (try clear hk); (try clear hi); (try clear aR); have aep := oL.out; have aiC := ow.out; obtain ⟨BY, z7, Ba, zS, z6, BA, Af, AS⟩ := d8 gU) | (go_at_call 30; (with_reducible refine (mc.calls e8 fa (fun k_ => k_ < w.heap.size) _ _ dZ (fun k_ => k_ < w.heap.size) _ _ d4 dN _ ?aH ?aG A7.out).mono ?_); (case aH => exact Kd.eM wl.out (Kd.lJ (Kd.sP Kd.uq xZ.out) (by repeat (first | (with_reducible first | exact HB.out | apply aQ | apply aY | apply aT | refine ao ?_ gu.out | refine ao ?_ gn.out | refine ao ?_ gx.out | refine ao ?_ gy.out) | exact HB.out)))); (case aG => exact Kd.eM yf.out (Kd.lJ (Kd.sP GA wa.out) (by repeat (first | (with_reducible first | exact HB.out | apply aQ | apply aY | apply aT | refine ao ?_ gu.out | refine ao ?_ gn.out | refine ao ?_ gx.out | refine ao ?_ gy.out) | exact HB.out)))); rintro e Uv ⟨tw, rfl, aR, hb⟩; have af := ae.mk (Kd.oY (by (with_reducible repeat (first | apply Kd.cN | apply Kd.cM | apply Kd.cC)); exact eN.out) (Kd.qh aR) hb); have ag := ae.mk (Kd.oY (by (with_reducible repeat (first | apply Kd.cN | apply Kd.cM | apply Kd.cC)); exact iz.out) (Kd.qh aR) hb); have ah := ae.mk (Kd.G1 (Kd.iO (d5 := fun k_ => some k_ ≠ (uP : Value).ownBlock ∧ some k_ ≠ (sN : Value).ownBlock ∧ k_ ≠ mF ∧ k_ ≠ mE ∧ k_ ≠ mA ∧ k_ ≠ mC) aR (fun k_ j8 => ⟨Or.elim j8 (fun hs_ => Or.elim hs_ (fun hs_ => fun e_ => Nat.not_le.2 hs_ (Kd.qh eN.out k_ e_.symm)) (fun hs_ => fun e_ => Nat.not_le.2 hs_ (Kd.qh eN.out k_ e_.symm))) (fun gl => (Kd.Ih (Kd.Eu (by (with_reducible repeat (first | apply Kd.cN | apply Kd.cM | apply Kd.cC)); exact eN.out)) k_ gl)), Or.elim j8 (fun hs_ => Or.elim hs_ (fun hs_ => fun e_ => Nat.not_le.2 hs_ (Kd.qh iz.out k_ e_.symm)) (fun hs_ => fun e_ => Nat.not_le.2 hs_ (Kd.qh iz.out k_ e_.symm))) (fun gl => (Kd.Ih (Kd.Eu (by (with_reducible repeat (first | apply Kd.cN | apply Kd.cM | apply Kd.cC)); exact iz.out)) k_ gl)), Or.elim j8 (fun hs_ => Or.elim hs_ (fun hs_ => fun e_ => Nat.not_le.2 hs_ (by rw [e_]; exact Bl.out)) (fun hs_ => fun e_ => Nat.not_le.2 hs_ (by rw [e_]; exact Bl.out))) (fun gl => (Kd.gb (g := mF) (o := .cells #[.int .i64 aE, .string aA, .slice bB ay.length bA, .slice br au.length bq] 25 (0, 0)) (by (with_reducible repeat (first | refine bf ?_ _ | refine bd ?_ | refine aU ?_ _)); exact fq.out) k_ gl)), Or.elim j8 (fun hs_ => Or.elim hs_ (fun hs_ => fun e_ => Nat.not_le.2 hs_ (by rw [e_]; exact Bg.out)) (fun hs_ => fun e_ => Nat.not_le.2 hs_ (by rw [e_]; exact Bg.out))) (fun gl => (Kd.gb (g := mE) (o := .cells #[.int .i64 aK, .string aM, .slice fQ cx.length fP, .slice eG bR.length eD] 25 (0, 0)) (by (with_reducible repeat (first | refine bf ?_ _ | refine bd ?_ | refine aU ?_ _)); exact gw.out) k_ gl)), Or.elim j8 (fun hs_ => Or.elim hs_ (fun hs_ => fun e_ => Nat.not_le.2 hs_ (by rw [e_]; exact Aa.out)) (fun hs_ => fun e_ => Nat.not_le.2 hs_ (by rw [e_]; exact Aa.out))) (fun gl => (Kd.gb (g := mA) (o := .cells #[.int .i64 e8, .string fa, .slice jy dZ.length jI, .slice jK d4.length jJ] 25 (0, 0)) (by (with_reducible repeat (first | refine bf ?_ _ | refine bd ?_ | refine aU ?_ _)); exact gU.out) k_ gl)), Or.elim j8 (fun hs_ => Or.elim hs_ (fun hs_ => fun e_ => Nat.not_le.2 hs_ (by rw [e_]; exact Be.out)) (fun hs_ => fun e_ => Nat.not_le.2 hs_ (by rw [e_]; exact Be.out))) (fun gl => (Kd.gb (g := mC) (o := .cells #[.slice jd b6.length i8, .slice jw bS.length jz, .slice jD b9.length jA, .int .i64 cD] 40 (0, 0)) (by (with_reducible repeat (first | refine bf ?_ _ | refine bd ?_ | refine aU ?_ _)); exact fT.out) k_ gl))⟩)) (cG (by repeat (first | (with_reducible first | exact HB.out | apply aQ | apply aY | apply aT | refine ao ?_ gu.out | refine ao ?_ gn.out | refine ao ?_ gx.out | refine ao ?_ gy.out) | exact HB.out)))); have am := bw fq hb; have aJ := bw gw hb; have aW := bw gU hb; have be := bw fT hb; have bJ := bn HB hb; clear eN; clear iz; clear fq; clear gw; clear gU; clear fT; clear HB; have eN := af; have iz := ag; have lc := ah; have fq := am; have gw := aJ; have gU := aW; have fT := be; have HB := bJ; clear af ag ah am aJ aW be bJ; (try clear hb); (try clear hb2); (try clear hk); (try clear hi); (try clear aR)))
 (try simp only [Act.put, List.setIfInBounds_toArray, List.set_cons_zero, List.set_cons_succ])
 go_cut [60] (fun v60 wc => ∃ (kq : Nat) (IL : Bool), v60 = .bool IL ∧ ae (cn.j0 kq dE dw dN IL b6 bS b9 cD = some r) ∧ ae (kq ≤ k) ∧ ae (Kd.N fc 70 wc w.heap.size (fun k_ => some k_ ≠ (sN : Value).ownBlock ∧ some k_ ≠ (tw : Value).ownBlock ∧ k_ ≠ mF ∧ k_ ≠ mE ∧ k_ ≠ mA ∧ k_ ≠ mC) uP dE) ∧ ae (Kd.N fc 70 wc w.heap.size (fun k_ => some k_ ≠ (uP : Value).ownBlock ∧ some k_ ≠ (tw : Value).ownBlock ∧ k_ ≠ mF ∧ k_ ≠ mE ∧ k_ ≠ mA ∧ k_ ≠ mC) sN dw) ∧ ae (Kd.N fc 70 wc w.heap.size (fun k_ => some k_ ≠ (uP : Value).ownBlock ∧ some k_ ≠ (sN : Value).ownBlock ∧ k_ ≠ mF ∧ k_ ≠ mE ∧ k_ ≠ mA ∧ k_ ≠ mC) tw dN) ∧ ae (wc.heap[mF]? = some (.cells #[.int .i64 aE, .string aA, (.slice bB ay.length bA), (.slice br au.length bq)] 25 (0, 0))) ∧ ae (wc.heap[mE]? = some (.cells #[.int .i64 aK, .string aM, (.slice fQ cx.length fP), (.slice eG bR.length eD)] 25 (0, 0))) ∧ ae (wc.heap[mA]? = some (.cells #[.int .i64 e8, .string fa, (.slice jy dZ.length jI), (.slice jK d4.length jJ)] 25 (0, 0))) ∧ ae (wc.heap[mC]? = some (.cells #[(.slice jd b6.length i8), (.slice jw bS.length jz), (.slice jD b9.length jA), .int .i64 cD] 40 (0, 0))) ∧ ae (Below w.heap.size w wc))
 case first =>
  have H := PK.out
  clear PK
  by_cases lN : (b6.length : Int) = (dE.length : Int)
  ·rw [if_pos lN] at H
   have sI : ((b6.length : Int) == (dE.length : Int)) = true := beq_iff_eq.mpr lN
   have Bq : ((b6.length : Int) != (dE.length : Int)) = false := bne_eq_false_iff_eq.mpr lN
   have C5 : (b6.length == dE.length) = true := by first | simpa using lN | (simp at lN ⊢; omega)
   clear lN
   (first | rw [sI] | (simp only [gY, gX]; rw [sI]) | skip)
   replace H := Option.bind_eq_some_iff.mp H
   obtain ⟨G6, Vo, H⟩ := H
   have tP := ae.mk Vo
   clear Vo
   by_cases oo : G6 = true
   ·subst oo
    have H1 : ((cV.f k dE dN b9 cD).bind fun zd => (if zd = true then (cn.j0 k dE dw dN (decide (cD > (wrap64 ((wrap64 ((dE.length : Int) + (dw.length : Int))) + (dN.length : Int))))) b6 bS b9 cD) else (cn.j0 k dE dw dN true b6 bS b9 cD))) = some r := by rw [if_pos rfl] at H; exact H
    clear H
    have H := H1
    clear H1
    replace H := Option.bind_eq_some_iff.mp H
    obtain ⟨zd, TN, H⟩ := H
    have Bs := ae.mk TN
    clear TN
    by_cases mG : zd = true
    ·subst mG
     have H1 : (cn.j0 k dE dw dN (decide (cD > (wrap64 ((wrap64 ((dE.length : Int) + (dw.length : Int))) + (dN.length : Int))))) b6 bS b9 cD) = some r := by rw [if_pos rfl] at H; exact H
     clear H
     have H := H1
     clear H1
     have H' := ae.mk H
     clear H
     have apC := oI.out
     have apS := oN.out
     have aso := oK.out
     have alI := pa.out
     have auY := ow.out
     have apK := oL.out
     obtain ⟨vD, uY, u0, u6, vP, uT, vA, vT⟩ := d8 fT
     obtain ⟨Jp, vI, ON⟩ := Kd.gK eN.out
     subst ON
     obtain ⟨uF, qF, yR⟩ := Kd.gK iz.out
     subst yR
     go_wp2_with (first | (go_at_call 58; (with_reducible refine (cV.calls k _ _ dE _ _ dw _ _ bS cD true _ ?aH ?aG ?bt ?bv ?cX ?cW tP.out).mono ?_); (case aH => exact CX ((Kd.bW eN.out).2.2)); (case aG => exact (Kd.bW eN.out).2.1); (case bt => exact CX ((Kd.bW iz.out).2.2)); (case bv => exact (Kd.bW iz.out).2.1); (case cX => exact CX (Kd.aC jq.out HB.out)); (case cW => exact kf.out); rintro e w' ⟨rfl, ⟨nd, rfl⟩⟩; (try first | exact ⟨rfl, _, World.drewN_drewN _ _ _⟩ | exact ⟨rfl, _, Eq.trans (World.drewN_drewN _ _ _) (congrArg (World.drewN _) (Nat.add_assoc _ _ _))⟩); obtain ⟨Bc, BU, tS⟩ := Kd.gK lc.out; subst tS) | (go_at_call 58; (with_reducible refine (cV.calls k _ _ dE _ _ dN _ _ b9 cD true _ ?aH ?aG ?bt ?bv ?cX ?cW Bs.out).mono ?_); (case aH => exact CX ((Kd.bW eN.out).2.2)); (case aG => exact (Kd.bW eN.out).2.1); (case bt => exact CX ((Kd.bW lc.out).2.2)); (case bv => exact (Kd.bW lc.out).2.1); (case cX => repeat (first | exact (Kd.aC jo.out (by repeat (first | (with_reducible first | exact HB.out | apply aQ | apply aY | apply aT | refine ao ?_ gu.out | refine ao ?_ gn.out | refine ao ?_ gx.out | refine ao ?_ gy.out) | exact HB.out))) | (with_reducible refine Kd.dH ?_ _) | (with_reducible refine Kd.dM ?_ _) | (with_reducible refine Kd.cH ?_))); (case cW => exact jt.out); rintro e w' ⟨rfl, ⟨nd, rfl⟩⟩; (try first | exact ⟨rfl, _, World.drewN_drewN _ _ _⟩ | exact ⟨rfl, _, Eq.trans (World.drewN_drewN _ _ _) (congrArg (World.drewN _) (Nat.add_assoc _ _ _))⟩)))
     repeat (go_quiet (first | (go_at_call 58; (with_reducible refine (cV.calls k _ _ dE _ _ dw _ _ bS cD true _ ?aH ?aG ?bt ?bv ?cX ?cW tP.out).mono ?_); (case aH => exact CX ((Kd.bW eN.out).2.2)); (case aG => exact (Kd.bW eN.out).2.1); (case bt => exact CX ((Kd.bW iz.out).2.2)); (case bv => exact (Kd.bW iz.out).2.1); (case cX => exact CX (Kd.aC jq.out HB.out)); (case cW => exact kf.out); rintro e w' ⟨rfl, ⟨nd, rfl⟩⟩; (try first | exact ⟨rfl, _, World.drewN_drewN _ _ _⟩ | exact ⟨rfl, _, Eq.trans (World.drewN_drewN _ _ _) (congrArg (World.drewN _) (Nat.add_assoc _ _ _))⟩); obtain ⟨Bc, BU, tS⟩ := Kd.gK lc.out; subst tS) | (go_at_call 58; (with_reducible refine (cV.calls k _ _ dE _ _ dN _ _ b9 cD true _ ?aH ?aG ?bt ?bv ?cX ?cW Bs.out).mono ?_); (case aH => exact CX ((Kd.bW eN.out).2.2)); (case aG => exact (Kd.bW eN.out).2.1); (case bt => exact CX ((Kd.bW lc.out).2.2)); (case bv => exact (Kd.bW lc.out).2.1); (case cX => repeat (first | exact (Kd.aC jo.out (by repeat (first | (with_reducible first | exact HB.out | apply aQ | apply aY | apply aT | refine ao ?_ gu.out | refine ao ?_ gn.out | refine ao ?_ gx.out | refine ao ?_ gy.out) | exact HB.out))) | (with_reducible refine Kd.dH ?_ _) | (with_reducible refine Kd.dM ?_ _) | (with_reducible refine Kd.cH ?_))); (case cW => exact jt.out); rintro e w' ⟨rfl, ⟨nd, rfl⟩⟩; (try first | exact ⟨rfl, _, World.drewN_drewN _ _ _⟩ | exact ⟨rfl, _, Eq.trans (World.drewN_drewN _ _ _) (congrArg (World.drewN _) (Nat.add_assoc _ _ _))⟩))); try go_wp2_with (first | (go_at_call 58; (with_reducible refine (cV.calls k _ _ dE _ _ dw _ _ bS cD true _ ?aH ?aG ?bt ?bv ?cX ?cW tP.out).mono ?_); (case aH => exact CX ((Kd.bW eN.out).2.2)); (case aG => exact (Kd.bW eN.out).2.1); (case bt => exact CX ((Kd.bW iz.out).2.2)); (case bv => exact (Kd.bW iz.out).2.1); (case cX => exact CX (Kd.aC jq.out HB.out)); (case cW => exact kf.out); rintro e w' ⟨rfl, ⟨nd, rfl⟩⟩; (try first | exact ⟨rfl, _, World.drewN_drewN _ _ _⟩ | exact ⟨rfl, _, Eq.trans (World.drewN_drewN _ _ _) (congrArg (World.drewN _) (Nat.add_assoc _ _ _))⟩); obtain ⟨Bc, BU, tS⟩ := Kd.gK lc.out; subst tS) | (go_at_call 58; (with_reducible refine (cV.calls k _ _ dE _ _ dN _ _ b9 cD true _ ?aH ?aG ?bt ?bv ?cX ?cW Bs.out).mono ?_); (case aH => exact CX ((Kd.bW eN.out).2.2)); (case aG => exact (Kd.bW eN.out).2.1); (case bt => exact CX ((Kd.bW lc.out).2.2)); (case bv => exact (Kd.bW lc.out).2.1); (case cX => repeat (first | exact (Kd.aC jo.out (by repeat (first | (with_reducible first | exact HB.out | apply aQ | apply aY | apply aT | refine ao ?_ gu.out | refine ao ?_ gn.out | refine ao ?_ gx.out | refine ao ?_ gy.out) | exact HB.out))) | (with_reducible refine Kd.dH ?_ _) | (with_reducible refine Kd.dM ?_ _) | (with_reducible refine Kd.cH ?_))); (case cW => exact jt.out); rintro e w' ⟨rfl, ⟨nd, rfl⟩⟩; (try first | exact ⟨rfl, _, World.drewN_drewN _ _ _⟩ | exact ⟨rfl, _, Eq.trans (World.drewN_drewN _ _ _) (congrArg (World.drewN _) (Nat.add_assoc _ _ _))⟩))))
     go_meet
     case rel => exact ⟨_, (decide (cD > (wrap64 ((wrap64 ((dE.length : Int) + (dw.length : Int))) + (dN.length : Int))))), SX, H', ⟨by first | omega | exact Nat.le_refl _⟩, ⟨by (with_reducible repeat (first | apply Kd.cN | apply Kd.cM | apply Kd.cC)); exact Kd.iO eN.out (fun _ hk => ⟨hk.1.2, ⟨hk.2, ⟨hk.1.1.1, ⟨hk.1.1.2.1, ⟨hk.1.1.2.2.1, hk.1.1.2.2.2⟩⟩⟩⟩⟩)⟩, ⟨by (with_reducible repeat (first | apply Kd.cN | apply Kd.cM | apply Kd.cC)); exact Kd.iO iz.out (fun _ hk => ⟨hk.1.1, ⟨hk.2, ⟨hk.1.2.1, ⟨hk.1.2.2.1, ⟨hk.1.2.2.2.1, hk.1.2.2.2.2⟩⟩⟩⟩⟩)⟩, ⟨by (with_reducible repeat (first | apply Kd.cN | apply Kd.cM | apply Kd.cC)); exact lc.out⟩, ⟨by (with_reducible repeat (first | refine bf ?_ _ | refine bd ?_ | refine aU ?_ _)); exact fq.out⟩, ⟨by (with_reducible repeat (first | refine bf ?_ _ | refine bd ?_ | refine aU ?_ _)); exact gw.out⟩, ⟨by (with_reducible repeat (first | refine bf ?_ _ | refine bd ?_ | refine aU ?_ _)); exact gU.out⟩, ⟨by (with_reducible repeat (first | refine bf ?_ _ | refine bd ?_ | refine aU ?_ _)); exact fT.out⟩, ⟨by repeat (first | (with_reducible first | exact HB.out | apply aQ | apply aY | apply aT | refine ao ?_ gu.out | refine ao ?_ gn.out | refine ao ?_ gx.out | refine ao ?_ gy.out) | exact HB.out)⟩⟩
    ·replace mG := Bool.eq_false_iff.mpr mG
     subst mG
     have H1 : (cn.j0 k dE dw dN true b6 bS b9 cD) = some r := by rw [if_neg (show ¬ (false = true) by decide)] at H; exact H
     clear H
     have H := H1
     clear H1
     have H' := ae.mk H
     clear H
     have amB := oI.out
     have aq4 := oN.out
     have ama := oK.out
     have alM := pa.out
     have axM := ow.out
     have atS := oL.out
     obtain ⟨IJ, Ir, Iu, Kw, JO, JF, Ki, JQ⟩ := d8 fT
     obtain ⟨WE, Xr, Nh⟩ := Kd.gK eN.out
     subst Nh
     obtain ⟨Vq, W0, Mh⟩ := Kd.gK iz.out
     subst Mh
     go_wp2_with (first | (go_at_call 58; (with_reducible refine (cV.calls k _ _ dE _ _ dw _ _ bS cD true _ ?aH ?aG ?bt ?bv ?cX ?cW tP.out).mono ?_); (case aH => exact CX ((Kd.bW eN.out).2.2)); (case aG => exact (Kd.bW eN.out).2.1); (case bt => exact CX ((Kd.bW iz.out).2.2)); (case bv => exact (Kd.bW iz.out).2.1); (case cX => exact CX (Kd.aC jq.out HB.out)); (case cW => exact kf.out); rintro e w' ⟨rfl, ⟨nd, rfl⟩⟩; (try first | exact ⟨rfl, _, World.drewN_drewN _ _ _⟩ | exact ⟨rfl, _, Eq.trans (World.drewN_drewN _ _ _) (congrArg (World.drewN _) (Nat.add_assoc _ _ _))⟩); obtain ⟨H_, Jc, zt⟩ := Kd.gK lc.out; subst zt) | (go_at_call 58; (with_reducible refine (cV.calls k _ _ dE _ _ dN _ _ b9 cD false _ ?aH ?aG ?bt ?bv ?cX ?cW Bs.out).mono ?_); (case aH => exact CX ((Kd.bW eN.out).2.2)); (case aG => exact (Kd.bW eN.out).2.1); (case bt => exact CX ((Kd.bW lc.out).2.2)); (case bv => exact (Kd.bW lc.out).2.1); (case cX => repeat (first | exact (Kd.aC jo.out (by repeat (first | (with_reducible first | exact HB.out | apply aQ | apply aY | apply aT | refine ao ?_ gu.out | refine ao ?_ gn.out | refine ao ?_ gx.out | refine ao ?_ gy.out) | exact HB.out))) | (with_reducible refine Kd.dH ?_ _) | (with_reducible refine Kd.dM ?_ _) | (with_reducible refine Kd.cH ?_))); (case cW => exact jt.out); rintro e w' ⟨rfl, ⟨nd, rfl⟩⟩; (try first | exact ⟨rfl, _, World.drewN_drewN _ _ _⟩ | exact ⟨rfl, _, Eq.trans (World.drewN_drewN _ _ _) (congrArg (World.drewN _) (Nat.add_assoc _ _ _))⟩)))
     repeat (go_quiet (first | (go_at_call 58; (with_reducible refine (cV.calls k _ _ dE _ _ dw _ _ bS cD true _ ?aH ?aG ?bt ?bv ?cX ?cW tP.out).mono ?_); (case aH => exact CX ((Kd.bW eN.out).2.2)); (case aG => exact (Kd.bW eN.out).2.1); (case bt => exact CX ((Kd.bW iz.out).2.2)); (case bv => exact (Kd.bW iz.out).2.1); (case cX => exact CX (Kd.aC jq.out HB.out)); (case cW => exact kf.out); rintro e w' ⟨rfl, ⟨nd, rfl⟩⟩; (try first | exact ⟨rfl, _, World.drewN_drewN _ _ _⟩ | exact ⟨rfl, _, Eq.trans (World.drewN_drewN _ _ _) (congrArg (World.drewN _) (Nat.add_assoc _ _ _))⟩); obtain ⟨H_, Jc, zt⟩ := Kd.gK lc.out; subst zt) | (go_at_call 58; (with_reducible refine (cV.calls k _ _ dE _ _ dN _ _ b9 cD false _ ?aH ?aG ?bt ?bv ?cX ?cW Bs.out).mono ?_); (case aH => exact CX ((Kd.bW eN.out).2.2)); (case aG => exact (Kd.bW eN.out).2.1); (case bt => exact CX ((Kd.bW lc.out).2.2)); (case bv => exact (Kd.bW lc.out).2.1); (case cX => repeat (first | exact (Kd.aC jo.out (by repeat (first | (with_reducible first | exact HB.out | apply aQ | apply aY | apply aT | refine ao ?_ gu.out | refine ao ?_ gn.out | refine ao ?_ gx.out | refine ao ?_ gy.out) | exact HB.out))) | (with_reducible refine Kd.dH ?_ _) | (with_reducible refine Kd.dM ?_ _) | (with_reducible refine Kd.cH ?_))); (case cW => exact jt.out); rintro e w' ⟨rfl, ⟨nd, rfl⟩⟩; (try first | exact ⟨rfl, _, World.drewN_drewN _ _ _⟩ | exact ⟨rfl, _, Eq.trans (World.drewN_drewN _ _ _) (congrArg (World.drewN _) (Nat.add_assoc _ _ _))⟩))); try go_wp2_with (first | (go_at_call 58; (with_reducible refine (cV.calls k _ _ dE _ _ dw _ _ bS cD true _ ?aH ?aG ?bt ?bv ?cX ?cW tP.out).mono ?_); (case aH => exact CX ((Kd.bW eN.out).2.2)); (case aG => exact (Kd.bW eN.out).2.1); (case bt => exact CX ((Kd.bW iz.out).2.2)); (case bv => exact (Kd.bW iz.out).2.1); (case cX => exact CX (Kd.aC jq.out HB.out)); (case cW => exact kf.out); rintro e w' ⟨rfl, ⟨nd, rfl⟩⟩; (try first | exact ⟨rfl, _, World.drewN_drewN _ _ _⟩ | exact ⟨rfl, _, Eq.trans (World.drewN_drewN _ _ _) (congrArg (World.drewN _) (Nat.add_assoc _ _ _))⟩); obtain ⟨H_, Jc, zt⟩ := Kd.gK lc.out; subst zt) | (go_at_call 58; (with_reducible refine (cV.calls k _ _ dE _ _ dN _ _ b9 cD false _ ?aH ?aG ?bt ?bv ?cX ?cW Bs.out).mono ?_); (case aH => exact CX ((Kd.bW eN.out).2.2)); (case aG => exact (Kd.bW eN.out).2.1); (case bt => exact CX ((Kd.bW lc.out).2.2)); (case bv => exact (Kd.bW lc.out).2.1); (case cX => repeat (first | exact (Kd.aC jo.out (by repeat (first | (with_reducible first | exact HB.out | apply aQ | apply aY | apply aT | refine ao ?_ gu.out | refine ao ?_ gn.out | refine ao ?_ gx.out | refine ao ?_ gy.out) | exact HB.out))) | (with_reducible refine Kd.dH ?_ _) | (with_reducible refine Kd.dM ?_ _) | (with_reducible refine Kd.cH ?_))); (case cW => exact jt.out); rintro e w' ⟨rfl, ⟨nd, rfl⟩⟩; (try first | exact ⟨rfl, _, World.drewN_drewN _ _ _⟩ | exact ⟨rfl, _, Eq.trans (World.drewN_drewN _ _ _) (congrArg (World.drewN _) (Nat.add_assoc _ _ _))⟩))))
     go_meet
     case rel => exact ⟨_, (true), SX, H', ⟨by first | omega | exact Nat.le_refl _⟩, ⟨by (with_reducible repeat (first | apply Kd.cN | apply Kd.cM | apply Kd.cC)); exact Kd.iO eN.out (fun _ hk => ⟨hk.1.2, ⟨hk.2, ⟨hk.1.1.1, ⟨hk.1.1.2.1, ⟨hk.1.1.2.2.1, hk.1.1.2.2.2⟩⟩⟩⟩⟩)⟩, ⟨by (with_reducible repeat (first | apply Kd.cN | apply Kd.cM | apply Kd.cC)); exact Kd.iO iz.out (fun _ hk => ⟨hk.1.1, ⟨hk.2, ⟨hk.1.2.1, ⟨hk.1.2.2.1, ⟨hk.1.2.2.2.1, hk.1.2.2.2.2⟩⟩⟩⟩⟩)⟩, ⟨by (with_reducible repeat (first | apply Kd.cN | apply Kd.cM | apply Kd.cC)); exact lc.out⟩, ⟨by (with_reducible repeat (first | refine bf ?_ _ | refine bd ?_ | refine aU ?_ _)); exact fq.out⟩, ⟨by (with_reducible repeat (first | refine bf ?_ _ | refine bd ?_ | refine aU ?_ _)); exact gw.out⟩, ⟨by (with_reducible repeat (first | refine bf ?_ _ | refine bd ?_ | refine aU ?_ _)); exact gU.out⟩, ⟨by (with_reducible repeat (first | refine bf ?_ _ | refine bd ?_ | refine aU ?_ _)); exact fT.out⟩, ⟨by repeat (first | (with_reducible first | exact HB.out | apply aQ | apply aY | apply aT | refine ao ?_ gu.out | refine ao ?_ gn.out | refine ao ?_ gx.out | refine ao ?_ gy.out) | exact HB.out)⟩⟩
   ·replace oo := Bool.eq_false_iff.mpr oo
    subst oo
    have H1 : (cn.j0 k dE dw dN true b6 bS b9 cD) = some r := by rw [if_neg (show ¬ (false = true) by decide)] at H; exact H
    clear H
    have H := H1
    clear H1
    have H' := ae.mk H
    clear H
    have atD := oI.out
    have av' := oN.out
    have ar2 := oK.out
    have alq := pa.out
    have arv := ow.out
    have avu := oL.out
    obtain ⟨Fl, F6, E1, Ds, Co, Gk, GT, FY⟩ := d8 fT
    obtain ⟨axF, aoP, afR⟩ := Kd.gK eN.out
    subst afR
    obtain ⟨Tl, S7, PC⟩ := Kd.gK iz.out
    subst PC
    go_wp2_with (first | (go_at_call 58; (with_reducible refine (cV.calls k _ _ dE _ _ dw _ _ bS cD false _ ?aH ?aG ?bt ?bv ?cX ?cW tP.out).mono ?_); (case aH => exact CX ((Kd.bW eN.out).2.2)); (case aG => exact (Kd.bW eN.out).2.1); (case bt => exact CX ((Kd.bW iz.out).2.2)); (case bv => exact (Kd.bW iz.out).2.1); (case cX => exact CX (Kd.aC jq.out HB.out)); (case cW => exact kf.out); rintro e w' ⟨rfl, ⟨nd, rfl⟩⟩; (try first | exact ⟨rfl, _, World.drewN_drewN _ _ _⟩ | exact ⟨rfl, _, Eq.trans (World.drewN_drewN _ _ _) (congrArg (World.drewN _) (Nat.add_assoc _ _ _))⟩)))
    repeat (go_quiet (first | (go_at_call 58; (with_reducible refine (cV.calls k _ _ dE _ _ dw _ _ bS cD false _ ?aH ?aG ?bt ?bv ?cX ?cW tP.out).mono ?_); (case aH => exact CX ((Kd.bW eN.out).2.2)); (case aG => exact (Kd.bW eN.out).2.1); (case bt => exact CX ((Kd.bW iz.out).2.2)); (case bv => exact (Kd.bW iz.out).2.1); (case cX => exact CX (Kd.aC jq.out HB.out)); (case cW => exact kf.out); rintro e w' ⟨rfl, ⟨nd, rfl⟩⟩; (try first | exact ⟨rfl, _, World.drewN_drewN _ _ _⟩ | exact ⟨rfl, _, Eq.trans (World.drewN_drewN _ _ _) (congrArg (World.drewN _) (Nat.add_assoc _ _ _))⟩))); try go_wp2_with (first | (go_at_call 58; (with_reducible refine (cV.calls k _ _ dE _ _ dw _ _ bS cD false _ ?aH ?aG ?bt ?bv ?cX ?cW tP.out).mono ?_); (case aH => exact CX ((Kd.bW eN.out).2.2)); (case aG => exact (Kd.bW eN.out).2.1); (case bt => exact CX ((Kd.bW iz.out).2.2)); (case bv => exact (Kd.bW iz.out).2.1); (case cX => exact CX (Kd.aC jq.out HB.out)); (case cW => exact kf.out); rintro e w' ⟨rfl, ⟨nd, rfl⟩⟩; (try first | exact ⟨rfl, _, World.drewN_drewN _ _ _⟩ | exact ⟨rfl, _, Eq.trans (World.drewN_drewN _ _ _) (congrArg (World.drewN _) (Nat.add_assoc _ _ _))⟩))))
    go_meet
    case rel => exact ⟨_, (true), SX, H', ⟨by first | omega | exact Nat.le_refl _⟩, ⟨by (with_reducible repeat (first | apply Kd.cN | apply Kd.cM | apply Kd.cC)); exact Kd.iO eN.out (fun _ hk => ⟨hk.1.2, ⟨hk.2, ⟨hk.1.1.1, ⟨hk.1.1.2.1, ⟨hk.1.1.2.2.1, hk.1.1.2.2.2⟩⟩⟩⟩⟩)⟩, ⟨by (with_reducible repeat (first | apply Kd.cN | apply Kd.cM | apply Kd.cC)); exact Kd.iO iz.out (fun _ hk => ⟨hk.1.1, ⟨hk.2, ⟨hk.1.2.1, ⟨hk.1.2.2.1, ⟨hk.1.2.2.2.1, hk.1.2.2.2.2⟩⟩⟩⟩⟩)⟩, ⟨by (with_reducible repeat (first | apply Kd.cN | apply Kd.cM | apply Kd.cC)); exact lc.out⟩, ⟨by (with_reducible repeat (first | refine bf ?_ _ | refine bd ?_ | refine aU ?_ _)); exact fq.out⟩, ⟨by (with_reducible repeat (first | refine bf ?_ _ | refine bd ?_ | refine aU ?_ _)); exact gw.out⟩, ⟨by (with_reducible repeat (first | refine bf ?_ _ | refine bd ?_ | refine aU ?_ _)); exact gU.out⟩, ⟨by (with_reducible repeat (first | refine bf ?_ _ | refine bd ?_ | refine aU ?_ _)); exact fT.out⟩, ⟨by repeat (first | (with_reducible first | exact HB.out | apply aQ | apply aY | apply aT | refine ao ?_ gu.out | refine ao ?_ gn.out | refine ao ?_ gx.out | refine ao ?_ gy.out) | exact HB.out)⟩⟩
  ·rw [if_neg lN] at H
   have sI : ((b6.length : Int) == (dE.length : Int)) = false := beq_eq_false_iff_ne.mpr lN
   have Bq : ((b6.length : Int) != (dE.length : Int)) = true := bne_iff_ne.mpr lN
   have C5 : (b6.length == dE.length) = false := by first | simpa using lN | (simp at lN ⊢; omega)
   (first | rw [sI] | (simp only [gY, gX]; rw [sI]) | skip)
   have H' := ae.mk H
   clear H
   have amH := oI.out
   have aue := oN.out
   have au3 := oK.out
   have ax9 := pa.out
   have akI := ow.out
   have apZ := oL.out
   obtain ⟨Ja, Jl, Ks, K_, Ix, Ik, Kp, JG⟩ := d8 fT
   obtain ⟨T7, YR, Nn⟩ := Kd.gK eN.out
   subst Nn
   go_wp2
   repeat (go_quiet (fail); try go_wp2)
   go_meet
   case rel => exact ⟨_, (true), SX, H', ⟨by first | omega | exact Nat.le_refl _⟩, ⟨by (with_reducible repeat (first | apply Kd.cN | apply Kd.cM | apply Kd.cC)); exact Kd.iO eN.out (fun _ hk => ⟨hk.1.2, ⟨hk.2, ⟨hk.1.1.1, ⟨hk.1.1.2.1, ⟨hk.1.1.2.2.1, hk.1.1.2.2.2⟩⟩⟩⟩⟩)⟩, ⟨by (with_reducible repeat (first | apply Kd.cN | apply Kd.cM | apply Kd.cC)); exact Kd.iO iz.out (fun _ hk => ⟨hk.1.1, ⟨hk.2, ⟨hk.1.2.1, ⟨hk.1.2.2.1, ⟨hk.1.2.2.2.1, hk.1.2.2.2.2⟩⟩⟩⟩⟩)⟩, ⟨by (with_reducible repeat (first | apply Kd.cN | apply Kd.cM | apply Kd.cC)); exact lc.out⟩, ⟨by (with_reducible repeat (first | refine bf ?_ _ | refine bd ?_ | refine aU ?_ _)); exact fq.out⟩, ⟨by (with_reducible repeat (first | refine bf ?_ _ | refine bd ?_ | refine aU ?_ _)); exact gw.out⟩, ⟨by (with_reducible repeat (first | refine bf ?_ _ | refine bd ?_ | refine aU ?_ _)); exact gU.out⟩, ⟨by (with_reducible repeat (first | refine bf ?_ _ | refine bd ?_ | refine aU ?_ _)); exact fT.out⟩, ⟨by repeat (first | (with_reducible first | exact HB.out | apply aQ | apply aY | apply aT | refine ao ?_ gu.out | refine ao ?_ gn.out | refine ao ?_ gx.out | refine ao ?_ gy.out) | exact HB.out)⟩⟩
 case rest =>
  clear PK
  try clear c1
  try clear c2
  try clear p2
  try clear c3
  try clear c4
  try clear c5
  try clear p6
  try clear iN
  try clear mO
  try clear kH
  try clear fY
  try clear kI
  try clear gQ
  try clear lN
  try clear sI
  try clear Bq
  try clear C5
  try clear oo
  try clear mG
  try clear mr
  try clear rN
  try clear AY
  try clear MZ
  try clear RB
  try clear So
  try clear RE
  try clear MG
  try clear pW
  try clear O5
  try clear sK
  try clear s5
  try clear Fv
  try clear C6
  try clear CH
  try clear FQ
  try clear s_
  try clear tc
  try clear wJ
  try clear yY
  try clear BY
  try clear z7
  try clear Ba
  try clear zS
  try clear vD
  try clear uY
  try clear u0
  try clear u6
  try clear IJ
  try clear Ir
  try clear Iu
  try clear Kw
  try clear Fl
  try clear F6
  try clear E1
  try clear Ds
  try clear Ja
  try clear Jl
  try clear Ks
  try clear K_
  try clear Ei
  try clear E'
  try clear F5
  try clear Eb
  try clear tb
  try clear ut
  try clear zk
  try clear xl
  try clear z6
  try clear BA
  try clear Af
  try clear AS
  try clear vP
  try clear uT
  try clear vA
  try clear vT
  try clear JO
  try clear JF
  try clear Ki
  try clear JQ
  try clear Co
  try clear Gk
  try clear GT
  try clear FY
  try clear Ix
  try clear Ik
  try clear Kp
  try clear JG
  obtain ⟨kq, IL, rfl, HA, sr, ri, b8, bP, fq, gw, gU, fT, HB⟩ := hcut
  cases kq with
  | zero => exact absurd HA.out (by simp [cn.j0])
  | succ PE =>
   have H := HA.out
   clear HA
   simp only [cn.j0] at H
   by_cases wm : IL = true
   ·subst wm
    have H1 : (some 15) = some r := by rw [if_pos rfl] at H; exact H
    clear H
    have H := H1
    clear H1
    obtain rfl := Option.some.inj H
    go_wp2
    repeat (go_quiet (fail); try go_wp2)
    go_ret
    exact ⟨by first | rfl | (simp [bY, bX] <;> rfl) | (simp [*, bY, bX] <;> rfl), by repeat (first | (with_reducible first | exact HB.out | apply aQ | apply aY | apply aT | refine ao ?_ gu.out | refine ao ?_ gn.out | refine ao ?_ gx.out | refine ao ?_ gy.out) | exact HB.out)⟩
   ·replace wm := Bool.eq_false_iff.mpr wm
    subst wm
    have H1 : (cn.l0 PE dE dw dN 0 b6 bS b9 cD) = some r := by rw [if_neg (show ¬ (false = true) by decide)] at H; exact H
    clear H
    have H := H1
    clear H1
    have H' := ae.mk H
    clear H
    go_wp2
    repeat (go_quiet (fail); try go_wp2)
    go_loopg [12] PE (fun kq v12 w' => ∃ (fD : Int), v12 = .int .i64 fD ∧ ae (cn.l0 kq dE dw dN fD b6 bS b9 cD = some r) ∧ ae (kq ≤ PE) ∧ ae (Kd.N fc 70 w' w.heap.size (fun k_ => some k_ ≠ (sN : Value).ownBlock ∧ some k_ ≠ (tw : Value).ownBlock ∧ k_ ≠ mF ∧ k_ ≠ mE ∧ k_ ≠ mA ∧ k_ ≠ mC) uP dE) ∧ ae (Kd.N fc 70 w' w.heap.size (fun k_ => some k_ ≠ (uP : Value).ownBlock ∧ some k_ ≠ (tw : Value).ownBlock ∧ k_ ≠ mF ∧ k_ ≠ mE ∧ k_ ≠ mA ∧ k_ ≠ mC) sN dw) ∧ ae (Kd.N fc 70 w' w.heap.size (fun k_ => some k_ ≠ (uP : Value).ownBlock ∧ some k_ ≠ (sN : Value).ownBlock ∧ k_ ≠ mF ∧ k_ ≠ mE ∧ k_ ≠ mA ∧ k_ ≠ mC) tw dN) ∧ ae (w'.heap[mF]? = some (.cells #[.int .i64 aE, .string aA, (.slice bB ay.length bA), (.slice br au.length bq)] 25 (0, 0))) ∧ ae (w'.heap[mE]? = some (.cells #[.int .i64 aK, .string aM, (.slice fQ cx.length fP), (.slice eG bR.length eD)] 25 (0, 0))) ∧ ae (w'.heap[mA]? = some (.cells #[.int .i64 e8, .string fa, (.slice jy dZ.length jI), (.slice jK d4.length jJ)] 25 (0, 0))) ∧ ae (w'.heap[mC]? = some (.cells #[(.slice jd b6.length i8), (.slice jw bS.length jz), (.slice jD b9.length jA), .int .i64 cD] 40 (0, 0))) ∧ ae (Below w.heap.size w w'))
    case atStart => exact ⟨(0), SX, H', ⟨Nat.le_refl _⟩, ⟨by (with_reducible repeat (first | apply Kd.cN | apply Kd.cM | apply Kd.cC)); exact ri.out⟩, ⟨by (with_reducible repeat (first | apply Kd.cN | apply Kd.cM | apply Kd.cC)); exact b8.out⟩, ⟨by (with_reducible repeat (first | apply Kd.cN | apply Kd.cM | apply Kd.cC)); exact bP.out⟩, ⟨by (with_reducible repeat (first | refine bf ?_ _ | refine bd ?_ | refine aU ?_ _)); exact fq.out⟩, ⟨by (with_reducible repeat (first | refine bf ?_ _ | refine bd ?_ | refine aU ?_ _)); exact gw.out⟩, ⟨by (with_reducible repeat (first | refine bf ?_ _ | refine bd ?_ | refine aU ?_ _)); exact gU.out⟩, ⟨by (with_reducible repeat (first | refine bf ?_ _ | refine bd ?_ | refine aU ?_ _)); exact fT.out⟩, ⟨by repeat (first | (with_reducible first | exact HB.out | apply aQ | apply aY | apply aT | refine ao ?_ gu.out | refine ao ?_ gn.out | refine ao ?_ gx.out | refine ao ?_ gy.out) | exact HB.out)⟩⟩
    case round =>
     clear H'
     try clear c1
     try clear c2
     try clear p2
     try clear c3
     try clear c4
     try clear c5
     try clear p6
     try clear iN
     try clear mO
     try clear kH
     try clear fY
     try clear kI
     try clear gQ
     try clear lN
     try clear sI
     try clear Bq
     try clear C5
     try clear oo
     try clear mG
     try clear mr
     try clear rN
     try clear AY
     try clear MZ
     try clear RB
     try clear So
     try clear RE
     try clear MG
     try clear pW
     try clear O5
     try clear sK
     try clear s5
     try clear wm
     try clear Fv
     try clear C6
     try clear CH
     try clear FQ
     try clear s_
     try clear tc
     try clear wJ
     try clear yY
     try clear BY
     try clear z7
     try clear Ba
     try clear zS
     try clear vD
     try clear uY
     try clear u0
     try clear u6
     try clear IJ
     try clear Ir
     try clear Iu
     try clear Kw
     try clear Fl
     try clear F6
     try clear E1
     try clear Ds
     try clear Ja
     try clear Jl
     try clear Ks
     try clear K_
     try clear Ei
     try clear E'
     try clear F5
     try clear Eb
     try clear tb
     try clear ut
     try clear zk
     try clear xl
     try clear z6
     try clear BA
     try clear Af
     try clear AS
     try clear vP
     try clear uT
     try clear vA
     try clear vT
     try clear JO
     try clear JF
     try clear Ki
     try clear JQ
     try clear Co
     try clear Gk
     try clear GT
     try clear FY
     try clear Ix
     try clear Ik
     try clear Kp
     try clear JG
     try clear p2
     try clear p6
     obtain ⟨fD, rfl, HA, eP, ri, b8, bP, fq, gw, gU, fT, HB⟩ := hrel
     cases gk with
     | zero => exact absurd HA.out (by simp [cn.l0])
     | succ k2 =>
      have H := HA.out
      clear HA
      simp only [cn.l0] at H
      by_cases uH : fD < (dE.length : Int)
      ·rw [if_pos uH] at H
       have PG : decide (fD < (dE.length : Int)) = true := decide_eq_true uH
       clear uH
       by_cases B_ : 0 ≤ fD
       ·rw [if_pos B_] at H
        have VI : decide (0 ≤ fD) = true := decide_eq_true B_
        clear B_
        by_cases qC : fD < (b6.length : Int)
        ·rw [if_pos qC] at H
         have US : decide (fD < (b6.length : Int)) = true := decide_eq_true qC
         clear qC
         by_cases oJ : (rd b6 fD) = fD
         ·rw [if_pos oJ] at H
          have xJ : ((rd b6 fD) == fD) = true := beq_iff_eq.mpr oJ
          have Qw : ((rd b6 fD) != fD) = false := bne_eq_false_iff_eq.mpr oJ
          clear oJ
          by_cases uN : fD ≥ cD
          ·rw [if_pos uN] at H
           have OY : decide (cD ≤ fD) = true := decide_eq_true uN
           clear uN
           obtain rfl := Option.some.inj H
           obtain ⟨U2, UL, PO⟩ := Kd.gK ri.out
           subst PO
           have ane := oI.out
           have axW := oN.out
           have aoC := oK.out
           have axb := pa.out
           have apR := ow.out
           have am_ := oL.out
           obtain ⟨Wy, VX, Tn, Vr, S1, W8, V1, YA⟩ := d8 fT
           have pP : 0 ≤ (fD : Int) := of_decide_eq_true AX
           have pV : fD < (b6.length : Int) := of_decide_eq_true AX
           obtain ⟨T1, F2, pF⟩ := Kd.dB qZ.out fD pP pV
           cases F2
           replace pF := (HB.out.cell (World.block_lt_of_cell? w _ pF)).trans pF
           replace pP := eq_true pP
           replace pV := eq_true pV
           go_wp2
           repeat (go_quiet (fail); try go_wp2)
           go_ret
           exact ⟨by first | rfl | (simp [bY, bX] <;> rfl) | (simp [*, bY, bX] <;> rfl), by repeat (first | (with_reducible first | exact HB.out | apply aQ | apply aY | apply aT | refine ao ?_ gu.out | refine ao ?_ gn.out | refine ao ?_ gx.out | refine ao ?_ gy.out) | exact HB.out)⟩
          ·rw [if_neg uN] at H
           have OY : decide (cD ≤ fD) = false := decide_eq_false uN
           clear uN
           have H' := ae.mk H
           clear H
           obtain ⟨S8, WH, Nx⟩ := Kd.gK ri.out
           subst Nx
           have amb := oI.out
           have awX := oN.out
           have avV := oK.out
           have asg := pa.out
           have anX := ow.out
           have axd := oL.out
           obtain ⟨WO, Ux, XF, X0, Vg, Xw, Vu, XU⟩ := d8 fT
           have pP : 0 ≤ (fD : Int) := of_decide_eq_true AX
           have pV : fD < (b6.length : Int) := of_decide_eq_true AX
           obtain ⟨T1, F2, pF⟩ := Kd.dB qZ.out fD pP pV
           cases F2
           replace pF := (HB.out.cell (World.block_lt_of_cell? w _ pF)).trans pF
           replace pP := eq_true pP
           replace pV := eq_true pV
           go_wp2
           repeat (go_quiet (fail); try go_wp2)
           go_roundg k2
           case measure => have := sr.out; have := eP.out; omega
           case rel => exact ⟨(wrap64 (fD + 1)), SX, H', ⟨by have := sr.out; have := eP.out; omega⟩, ⟨by (with_reducible repeat (first | apply Kd.cN | apply Kd.cM | apply Kd.cC)); exact ri.out⟩, ⟨by (with_reducible repeat (first | apply Kd.cN | apply Kd.cM | apply Kd.cC)); exact b8.out⟩, ⟨by (with_reducible repeat (first | apply Kd.cN | apply Kd.cM | apply Kd.cC)); exact bP.out⟩, ⟨by (with_reducible repeat (first | refine bf ?_ _ | refine bd ?_ | refine aU ?_ _)); exact fq.out⟩, ⟨by (with_reducible repeat (first | refine bf ?_ _ | refine bd ?_ | refine aU ?_ _)); exact gw.out⟩, ⟨by (with_reducible repeat (first | refine bf ?_ _ | refine bd ?_ | refine aU ?_ _)); exact gU.out⟩, ⟨by (with_reducible repeat (first | refine bf ?_ _ | refine bd ?_ | refine aU ?_ _)); exact fT.out⟩, ⟨by repeat (first | (with_reducible first | exact HB.out | apply aQ | apply aY | apply aT | refine ao ?_ gu.out | refine ao ?_ gn.out | refine ao ?_ gx.out | refine ao ?_ gy.out) | exact HB.out)⟩⟩
         ·rw [if_neg oJ] at H
          have xJ : ((rd b6 fD) == fD) = false := beq_eq_false_iff_ne.mpr oJ
          have Qw : ((rd b6 fD) != fD) = true := bne_iff_ne.mpr oJ
          obtain rfl := Option.some.inj H
          obtain ⟨alQ, arN, acJ⟩ := Kd.gK ri.out
          subst acJ
          have ayd := oI.out
          have amg := oN.out
          have asp := oK.out
          have alT := pa.out
          have axQ := ow.out
          have auZ := oL.out
          obtain ⟨XC, ST, UY, U6, YB, Xg, Uk, SI⟩ := d8 fT
          have pP : 0 ≤ (fD : Int) := of_decide_eq_true AX
          have pV : fD < (b6.length : Int) := of_decide_eq_true AX
          obtain ⟨T1, F2, pF⟩ := Kd.dB qZ.out fD pP pV
          cases F2
          replace pF := (HB.out.cell (World.block_lt_of_cell? w _ pF)).trans pF
          replace pP := eq_true pP
          replace pV := eq_true pV
          go_wp2
          repeat (go_quiet (fail); try go_wp2)
          go_ret
          exact ⟨by first | rfl | (simp [bY, bX] <;> rfl) | (simp [*, bY, bX] <;> rfl), by repeat (first | (with_reducible first | exact HB.out | apply aQ | apply aY | apply aT | refine ao ?_ gu.out | refine ao ?_ gn.out | refine ao ?_ gx.out | refine ao ?_ gy.out) | exact HB.out)⟩
        ·rw [if_neg qC] at H
         exact absurd H (by simp)
       ·rw [if_neg B_] at H
        exact absurd H (by simp)
      ·rw [if_neg uH] at H
       have PG : decide (fD < (dE.length : Int)) = false := decide_eq_false uH
       clear uH
       have H' := ae.mk H
       clear H
       obtain ⟨FX, CA, Sg⟩ := Kd.gK ri.out
       subst Sg
       go_wp2
       repeat (go_quiet (fail); try go_wp2)
       go_loopg [13] k2 (fun kq yW w' => ∃ (da : Int), yW = .int .i64 da ∧ ae (cn.l1 kq dE dw dN da b6 bS b9 cD = some r) ∧ ae (kq ≤ k2) ∧ ae (Kd.N fc 70 w' w.heap.size (fun k_ => some k_ ≠ (sN : Value).ownBlock ∧ some k_ ≠ (tw : Value).ownBlock ∧ k_ ≠ mF ∧ k_ ≠ mE ∧ k_ ≠ mA ∧ k_ ≠ mC) (.slice FX dE.length CA) dE) ∧ ae (Kd.N fc 70 w' w.heap.size (fun k_ => some k_ ≠ ((.slice FX dE.length CA) : Value).ownBlock ∧ some k_ ≠ (tw : Value).ownBlock ∧ k_ ≠ mF ∧ k_ ≠ mE ∧ k_ ≠ mA ∧ k_ ≠ mC) sN dw) ∧ ae (Kd.N fc 70 w' w.heap.size (fun k_ => some k_ ≠ ((.slice FX dE.length CA) : Value).ownBlock ∧ some k_ ≠ (sN : Value).ownBlock ∧ k_ ≠ mF ∧ k_ ≠ mE ∧ k_ ≠ mA ∧ k_ ≠ mC) tw dN) ∧ ae (w'.heap[mF]? = some (.cells #[.int .i64 aE, .string aA, (.slice bB ay.length bA), (.slice br au.length bq)] 25 (0, 0))) ∧ ae (w'.heap[mE]? = some (.cells #[.int .i64 aK, .string aM, (.slice fQ cx.length fP), (.slice eG bR.length eD)] 25 (0, 0))) ∧ ae (w'.heap[mA]? = some (.cells #[.int .i64 e8, .string fa, (.slice jy dZ.length jI), (.slice jK d4.length jJ)] 25 (0, 0))) ∧ ae (w'.heap[mC]? = some (.cells #[(.slice jd b6.length i8), (.slice jw bS.length jz), (.slice jD b9.length jA), .int .i64 cD] 40 (0, 0))) ∧ ae (Below w.heap.size w w'))
       case atStart => exact ⟨(0), SX, H', ⟨Nat.le_refl _⟩, ⟨by (with_reducible repeat (first | apply Kd.cN | apply Kd.cM | apply Kd.cC)); exact ri.out⟩, ⟨by (with_reducible repeat (first | apply Kd.cN | apply Kd.cM | apply Kd.cC)); exact b8.out⟩, ⟨by (with_reducible repeat (first | apply Kd.cN | apply Kd.cM | apply Kd.cC)); exact bP.out⟩, ⟨by (with_reducible repeat (first | refine bf ?_ _ | refine bd ?_ | refine aU ?_ _)); exact fq.out⟩, ⟨by (with_reducible repeat (first | refine bf ?_ _ | refine bd ?_ | refine aU ?_ _)); exact gw.out⟩, ⟨by (with_reducible repeat (first | refine bf ?_ _ | refine bd ?_ | refine aU ?_ _)); exact gU.out⟩, ⟨by (with_reducible repeat (first | refine bf ?_ _ | refine bd ?_ | refine aU ?_ _)); exact fT.out⟩, ⟨by repeat (first | (with_reducible first | exact HB.out | apply aQ | apply aY | apply aT | refine ao ?_ gu.out | refine ao ?_ gn.out | refine ao ?_ gx.out | refine ao ?_ gy.out) | exact HB.out)⟩⟩
       case round =>
        clear H'
        try clear c1
        try clear c2
        try clear p2
        try clear c3
        try clear c4
        try clear p4
        try clear q4
        try clear nU
        try clear c5
        try clear c6
        try clear p6
        try clear c7
        try clear iN
        try clear mO
        try clear kH
        try clear fY
        try clear kI
        try clear gQ
        try clear lN
        try clear sI
        try clear Bq
        try clear C5
        try clear oo
        try clear mG
        try clear mr
        try clear rN
        try clear AY
        try clear MZ
        try clear RB
        try clear So
        try clear Ub
        try clear U_
        try clear acd
        try clear RE
        try clear MG
        try clear pW
        try clear O5
        try clear sK
        try clear s5
        try clear wm
        try clear uH
        try clear PG
        try clear B_
        try clear VI
        try clear qC
        try clear US
        try clear oJ
        try clear xJ
        try clear Qw
        try clear uN
        try clear OY
        try clear c62
        try clear zH
        try clear xR
        try clear PX
        try clear c67
        try clear wX
        try clear c69
        try clear c72
        try clear c73
        try clear c74
        try clear Fv
        try clear C6
        try clear CH
        try clear FQ
        try clear s_
        try clear tc
        try clear wJ
        try clear yY
        try clear BY
        try clear z7
        try clear Ba
        try clear zS
        try clear vD
        try clear uY
        try clear u0
        try clear u6
        try clear IJ
        try clear Ir
        try clear Iu
        try clear Kw
        try clear Fl
        try clear F6
        try clear E1
        try clear Ds
        try clear Ja
        try clear Jl
        try clear Ks
        try clear K_
        try clear Wy
        try clear VX
        try clear Tn
        try clear Vr
        try clear WO
        try clear Ux
        try clear XF
        try clear X0
        try clear XC
        try clear ST
        try clear UY
        try clear U6
        try clear Ei
        try clear E'
        try clear F5
        try clear Eb
        try clear tb
        try clear ut
        try clear zk
        try clear xl
        try clear z6
        try clear BA
        try clear Af
        try clear AS
        try clear vP
        try clear uT
        try clear vA
        try clear vT
        try clear JO
        try clear JF
        try clear Ki
        try clear JQ
        try clear Co
        try clear Gk
        try clear GT
        try clear FY
        try clear Ix
        try clear Ik
        try clear Kp
        try clear JG
        try clear S1
        try clear W8
        try clear V1
        try clear YA
        try clear Vg
        try clear Xw
        try clear Vu
        try clear XU
        try clear YB
        try clear Xg
        try clear Uk
        try clear SI
        try clear pF
        try clear p2
        try clear pP
        try clear p6
        try clear pV
        obtain ⟨da, rfl, HA, mH, ri, b8, bP, fq, gw, gU, fT, HB⟩ := hrel
        cases gk with
        | zero => exact absurd HA.out (by simp [cn.l1])
        | succ k3 =>
         have H := HA.out
         clear HA
         simp only [cn.l1] at H
         by_cases ww : da < (dw.length : Int)
         ·rw [if_pos ww] at H
          have Ui : decide (da < (dw.length : Int)) = true := decide_eq_true ww
          clear ww
          by_cases qE : 0 ≤ da
          ·rw [if_pos qE] at H
           have OM : decide (0 ≤ da) = true := decide_eq_true qE
           clear qE
           by_cases sp : da < (bS.length : Int)
           ·rw [if_pos sp] at H
            have XT : decide (da < (bS.length : Int)) = true := decide_eq_true sp
            clear sp
            replace H := Option.bind_eq_some_iff.mp H
            obtain ⟨dP, Xt, H⟩ := H
            have mM := ae.mk Xt
            clear Xt
            by_cases xN : dP ≥ 0
            ·rw [if_pos xN] at H
             have WI : decide (0 ≤ dP) = true := decide_eq_true xN
             clear xN
             by_cases qG : 0 ≤ dP
             ·rw [if_pos qG] at H
              have NM : decide (0 ≤ dP) = true := decide_eq_true qG
              clear qG
              by_cases CP : dP < (dN.length : Int)
              ·rw [if_pos CP] at H
               have aie : decide (dP < (dN.length : Int)) = true := decide_eq_true CP
               clear CP
               by_cases u2 : ((aD dN dP).f1) = ((aD dw da).f1)
               ·rw [if_pos u2] at H
                have Xa : (((aD dN dP).f1) == ((aD dw da).f1)) = true := beq_iff_eq.mpr u2
                have U7 : (((aD dN dP).f1) != ((aD dw da).f1)) = false := bne_eq_false_iff_eq.mpr u2
                clear u2
                have H' := ae.mk H
                clear H
                obtain ⟨SM, XO, Pc⟩ := Kd.gK b8.out
                subst Pc
                have avN := oI.out
                have arq := oN.out
                have ase := oK.out
                have akE := pa.out
                have arT := ow.out
                have aym := oL.out
                obtain ⟨aa3, ad6, acK, ad0, abJ, abD, acV, aal⟩ := d8 fT
                have qj : 0 ≤ (da : Int) := of_decide_eq_true AX
                have qw : da < (bS.length : Int) := of_decide_eq_true AX
                obtain ⟨W3, Ch, qx⟩ := Kd.dB jq.out da qj qw
                cases Ch
                replace qx := (HB.out.cell (World.block_lt_of_cell? w _ qx)).trans qx
                replace qj := eq_true qj
                replace qw := eq_true qw
                go_wp2_with (first | (go_at_call 59; (with_reducible refine (dh.calls k3 _ _ b9 (rd bS da) dP _ ?aH ?aG mM.out).mono ?_); (case aH => exact CX (Kd.aC jo.out HB.out)); (case aG => exact jt.out); rintro e w' ⟨rfl, ⟨nd, rfl⟩⟩; (try first | exact ⟨rfl, _, World.drewN_drewN _ _ _⟩ | exact ⟨rfl, _, Eq.trans (World.drewN_drewN _ _ _) (congrArg (World.drewN _) (Nat.add_assoc _ _ _))⟩); obtain ⟨HV, KI, yt⟩ := Kd.gK bP.out; subst yt; have iQ : 0 ≤ (dP : Int) := of_decide_eq_true AX; have iK : dP < (dN.length : Int) := of_decide_eq_true AX; obtain ⟨GG, EP, Fu, GU, GL, ru, z', zL, Cc, qb, qo, m7, nj, ng, nH⟩ := gv (Kd.bW bP.out).2.2 dP iQ iK; cases ru; obtain ⟨Eo, rI, ry, kT⟩ := Kd.lL bP.out z70 dP iQ (by first | exact iK | exact of_decide_eq_true AX | (have e_ := (Kd.bW bP.out).1; omega)); obtain ⟨Gl, Do, Dp, F3, rfl, kM, kn, kP, kF⟩ := lX ry; have i6 := kT 3 _ rfl; rw [ea _ _ 3 (by omega)] at i6; replace i6 := Option.some.inj (i6.symm.trans qb); injection i6 with bD cI bE; rw [bD] at kn; rw [bE] at kM; have GK := ae.mk (show Kd.V Kd.string 9 _ w.heap.size _ _ ((aD dN dP).f3) from Kd.eM kM kn); clear bD cI bE kn kM; have i4 := kT 4 _ rfl; rw [ea _ _ 4 (by omega)] at i4; replace i4 := Option.some.inj (i4.symm.trans qo); injection i4 with bD cI bE; rw [bD] at kF; rw [bE] at kP; have Ex := ae.mk (show Kd.V (Kd.int .i64) 3 _ w.heap.size _ _ ((aD dN dP).f4) from Kd.eM kP kF); clear bD cI bE kF kP; clear kT rI; have Hm := ae.mk nj; have Fk := ae.mk m7; clear nj m7; have DF := ae.mk nH; have Ct := ae.mk ng; clear nH ng; replace iQ := eq_true iQ; replace iK := eq_true iK; have iS : 0 ≤ (da : Int) := of_decide_eq_true AX; have iR : da < (dw.length : Int) := of_decide_eq_true AX; obtain ⟨Ew, FH, D5, FU, Db, rC, Bf, B1, BS, qp, qy, mT, m_, nk, mZ⟩ := gv (Kd.bW b8.out).2.2 da iS iR; cases rC; obtain ⟨F9, qS, rQ, km⟩ := Kd.lL b8.out z70 da iS (by first | exact iR | exact of_decide_eq_true AX | (have e_ := (Kd.bW b8.out).1; omega)); obtain ⟨Fy, F', D', C', rfl, ks, kJ, kU, kR⟩ := lX rQ; have iU := km 3 _ rfl; rw [ea _ _ 3 (by omega)] at iU; replace iU := Option.some.inj (iU.symm.trans qp); injection iU with bD cI bE; rw [bD] at kJ; rw [bE] at ks; have En := ae.mk (show Kd.V Kd.string 9 _ w.heap.size _ _ ((aD dw da).f3) from Kd.eM ks kJ); clear bD cI bE kJ ks; have iW := km 4 _ rfl; rw [ea _ _ 4 (by omega)] at iW; replace iW := Option.some.inj (iW.symm.trans qy); injection iW with bD cI bE; rw [bD] at kR; rw [bE] at kU; have Gm := ae.mk (show Kd.V (Kd.int .i64) 3 _ w.heap.size _ _ ((aD dw da).f4) from Kd.eM kU kR); clear bD cI bE kR kU; clear km qS; have Ep := ae.mk m_; have Cv := ae.mk mT; clear m_ mT; have Gs := ae.mk mZ; have GD := ae.mk nk; clear mZ nk; replace iS := eq_true iS; replace iR := eq_true iR))
                repeat (go_quiet (first | (go_at_call 59; (with_reducible refine (dh.calls k3 _ _ b9 (rd bS da) dP _ ?aH ?aG mM.out).mono ?_); (case aH => exact CX (Kd.aC jo.out HB.out)); (case aG => exact jt.out); rintro e w' ⟨rfl, ⟨nd, rfl⟩⟩; (try first | exact ⟨rfl, _, World.drewN_drewN _ _ _⟩ | exact ⟨rfl, _, Eq.trans (World.drewN_drewN _ _ _) (congrArg (World.drewN _) (Nat.add_assoc _ _ _))⟩); obtain ⟨HV, KI, yt⟩ := Kd.gK bP.out; subst yt; have iQ : 0 ≤ (dP : Int) := of_decide_eq_true AX; have iK : dP < (dN.length : Int) := of_decide_eq_true AX; obtain ⟨GG, EP, Fu, GU, GL, ru, z', zL, Cc, qb, qo, m7, nj, ng, nH⟩ := gv (Kd.bW bP.out).2.2 dP iQ iK; cases ru; obtain ⟨Eo, rI, ry, kT⟩ := Kd.lL bP.out z70 dP iQ (by first | exact iK | exact of_decide_eq_true AX | (have e_ := (Kd.bW bP.out).1; omega)); obtain ⟨Gl, Do, Dp, F3, rfl, kM, kn, kP, kF⟩ := lX ry; have i6 := kT 3 _ rfl; rw [ea _ _ 3 (by omega)] at i6; replace i6 := Option.some.inj (i6.symm.trans qb); injection i6 with bD cI bE; rw [bD] at kn; rw [bE] at kM; have GK := ae.mk (show Kd.V Kd.string 9 _ w.heap.size _ _ ((aD dN dP).f3) from Kd.eM kM kn); clear bD cI bE kn kM; have i4 := kT 4 _ rfl; rw [ea _ _ 4 (by omega)] at i4; replace i4 := Option.some.inj (i4.symm.trans qo); injection i4 with bD cI bE; rw [bD] at kF; rw [bE] at kP; have Ex := ae.mk (show Kd.V (Kd.int .i64) 3 _ w.heap.size _ _ ((aD dN dP).f4) from Kd.eM kP kF); clear bD cI bE kF kP; clear kT rI; have Hm := ae.mk nj; have Fk := ae.mk m7; clear nj m7; have DF := ae.mk nH; have Ct := ae.mk ng; clear nH ng; replace iQ := eq_true iQ; replace iK := eq_true iK; have iS : 0 ≤ (da : Int) := of_decide_eq_true AX; have iR : da < (dw.length : Int) := of_decide_eq_true AX; obtain ⟨Ew, FH, D5, FU, Db, rC, Bf, B1, BS, qp, qy, mT, m_, nk, mZ⟩ := gv (Kd.bW b8.out).2.2 da iS iR; cases rC; obtain ⟨F9, qS, rQ, km⟩ := Kd.lL b8.out z70 da iS (by first | exact iR | exact of_decide_eq_true AX | (have e_ := (Kd.bW b8.out).1; omega)); obtain ⟨Fy, F', D', C', rfl, ks, kJ, kU, kR⟩ := lX rQ; have iU := km 3 _ rfl; rw [ea _ _ 3 (by omega)] at iU; replace iU := Option.some.inj (iU.symm.trans qp); injection iU with bD cI bE; rw [bD] at kJ; rw [bE] at ks; have En := ae.mk (show Kd.V Kd.string 9 _ w.heap.size _ _ ((aD dw da).f3) from Kd.eM ks kJ); clear bD cI bE kJ ks; have iW := km 4 _ rfl; rw [ea _ _ 4 (by omega)] at iW; replace iW := Option.some.inj (iW.symm.trans qy); injection iW with bD cI bE; rw [bD] at kR; rw [bE] at kU; have Gm := ae.mk (show Kd.V (Kd.int .i64) 3 _ w.heap.size _ _ ((aD dw da).f4) from Kd.eM kU kR); clear bD cI bE kR kU; clear km qS; have Ep := ae.mk m_; have Cv := ae.mk mT; clear m_ mT; have Gs := ae.mk mZ; have GD := ae.mk nk; clear mZ nk; replace iS := eq_true iS; replace iR := eq_true iR)); try go_wp2_with (first | (go_at_call 59; (with_reducible refine (dh.calls k3 _ _ b9 (rd bS da) dP _ ?aH ?aG mM.out).mono ?_); (case aH => exact CX (Kd.aC jo.out HB.out)); (case aG => exact jt.out); rintro e w' ⟨rfl, ⟨nd, rfl⟩⟩; (try first | exact ⟨rfl, _, World.drewN_drewN _ _ _⟩ | exact ⟨rfl, _, Eq.trans (World.drewN_drewN _ _ _) (congrArg (World.drewN _) (Nat.add_assoc _ _ _))⟩); obtain ⟨HV, KI, yt⟩ := Kd.gK bP.out; subst yt; have iQ : 0 ≤ (dP : Int) := of_decide_eq_true AX; have iK : dP < (dN.length : Int) := of_decide_eq_true AX; obtain ⟨GG, EP, Fu, GU, GL, ru, z', zL, Cc, qb, qo, m7, nj, ng, nH⟩ := gv (Kd.bW bP.out).2.2 dP iQ iK; cases ru; obtain ⟨Eo, rI, ry, kT⟩ := Kd.lL bP.out z70 dP iQ (by first | exact iK | exact of_decide_eq_true AX | (have e_ := (Kd.bW bP.out).1; omega)); obtain ⟨Gl, Do, Dp, F3, rfl, kM, kn, kP, kF⟩ := lX ry; have i6 := kT 3 _ rfl; rw [ea _ _ 3 (by omega)] at i6; replace i6 := Option.some.inj (i6.symm.trans qb); injection i6 with bD cI bE; rw [bD] at kn; rw [bE] at kM; have GK := ae.mk (show Kd.V Kd.string 9 _ w.heap.size _ _ ((aD dN dP).f3) from Kd.eM kM kn); clear bD cI bE kn kM; have i4 := kT 4 _ rfl; rw [ea _ _ 4 (by omega)] at i4; replace i4 := Option.some.inj (i4.symm.trans qo); injection i4 with bD cI bE; rw [bD] at kF; rw [bE] at kP; have Ex := ae.mk (show Kd.V (Kd.int .i64) 3 _ w.heap.size _ _ ((aD dN dP).f4) from Kd.eM kP kF); clear bD cI bE kF kP; clear kT rI; have Hm := ae.mk nj; have Fk := ae.mk m7; clear nj m7; have DF := ae.mk nH; have Ct := ae.mk ng; clear nH ng; replace iQ := eq_true iQ; replace iK := eq_true iK; have iS : 0 ≤ (da : Int) := of_decide_eq_true AX; have iR : da < (dw.length : Int) := of_decide_eq_true AX; obtain ⟨Ew, FH, D5, FU, Db, rC, Bf, B1, BS, qp, qy, mT, m_, nk, mZ⟩ := gv (Kd.bW b8.out).2.2 da iS iR; cases rC; obtain ⟨F9, qS, rQ, km⟩ := Kd.lL b8.out z70 da iS (by first | exact iR | exact of_decide_eq_true AX | (have e_ := (Kd.bW b8.out).1; omega)); obtain ⟨Fy, F', D', C', rfl, ks, kJ, kU, kR⟩ := lX rQ; have iU := km 3 _ rfl; rw [ea _ _ 3 (by omega)] at iU; replace iU := Option.some.inj (iU.symm.trans qp); injection iU with bD cI bE; rw [bD] at kJ; rw [bE] at ks; have En := ae.mk (show Kd.V Kd.string 9 _ w.heap.size _ _ ((aD dw da).f3) from Kd.eM ks kJ); clear bD cI bE kJ ks; have iW := km 4 _ rfl; rw [ea _ _ 4 (by omega)] at iW; replace iW := Option.some.inj (iW.symm.trans qy); injection iW with bD cI bE; rw [bD] at kR; rw [bE] at kU; have Gm := ae.mk (show Kd.V (Kd.int .i64) 3 _ w.heap.size _ _ ((aD dw da).f4) from Kd.eM kU kR); clear bD cI bE kR kU; clear km qS; have Ep := ae.mk m_; have Cv := ae.mk mT; clear m_ mT; have Gs := ae.mk mZ; have GD := ae.mk nk; clear mZ nk; replace iS := eq_true iS; replace iR := eq_true iR)))
                go_roundg k3
                case measure => have := sr.out; have := eP.out; have := mH.out; omega
                case rel => exact ⟨(wrap64 (da + 1)), SX, H', ⟨by have := sr.out; have := eP.out; have := mH.out; omega⟩, ⟨by (with_reducible repeat (first | apply Kd.cN | apply Kd.cM | apply Kd.cC)); exact ri.out⟩, ⟨by (with_reducible repeat (first | apply Kd.cN | apply Kd.cM | apply Kd.cC)); exact b8.out⟩, ⟨by (with_reducible repeat (first | apply Kd.cN | apply Kd.cM | apply Kd.cC)); exact bP.out⟩, ⟨by (with_reducible repeat (first | refine bf ?_ _ | refine bd ?_ | refine aU ?_ _)); exact fq.out⟩, ⟨by (with_reducible repeat (first | refine bf ?_ _ | refine bd ?_ | refine aU ?_ _)); exact gw.out⟩, ⟨by (with_reducible repeat (first | refine bf ?_ _ | refine bd ?_ | refine aU ?_ _)); exact gU.out⟩, ⟨by (with_reducible repeat (first | refine bf ?_ _ | refine bd ?_ | refine aU ?_ _)); exact fT.out⟩, ⟨by repeat (first | (with_reducible first | exact HB.out | apply aQ | apply aY | apply aT | refine ao ?_ gu.out | refine ao ?_ gn.out | refine ao ?_ gx.out | refine ao ?_ gy.out) | exact HB.out)⟩⟩
               ·rw [if_neg u2] at H
                have Xa : (((aD dN dP).f1) == ((aD dw da).f1)) = false := beq_eq_false_iff_ne.mpr u2
                have U7 : (((aD dN dP).f1) != ((aD dw da).f1)) = true := bne_iff_ne.mpr u2
                obtain rfl := Option.some.inj H
                obtain ⟨Wv, Vi, Ma⟩ := Kd.gK b8.out
                subst Ma
                have akT := oI.out
                have atp := oN.out
                have aot := oK.out
                have akS := pa.out
                have aoF := ow.out
                have anV := oL.out
                obtain ⟨abQ, afM, aam, aeu, aeQ, aeM, ZA, afS⟩ := d8 fT
                have qj : 0 ≤ (da : Int) := of_decide_eq_true AX
                have qw : da < (bS.length : Int) := of_decide_eq_true AX
                obtain ⟨W3, Ch, qx⟩ := Kd.dB jq.out da qj qw
                cases Ch
                replace qx := (HB.out.cell (World.block_lt_of_cell? w _ qx)).trans qx
                replace qj := eq_true qj
                replace qw := eq_true qw
                go_wp2_with (first | (go_at_call 59; (with_reducible refine (dh.calls k3 _ _ b9 (rd bS da) dP _ ?aH ?aG mM.out).mono ?_); (case aH => exact CX (Kd.aC jo.out HB.out)); (case aG => exact jt.out); rintro e w' ⟨rfl, ⟨nd, rfl⟩⟩; (try first | exact ⟨rfl, _, World.drewN_drewN _ _ _⟩ | exact ⟨rfl, _, Eq.trans (World.drewN_drewN _ _ _) (congrArg (World.drewN _) (Nat.add_assoc _ _ _))⟩); obtain ⟨XA, Wm, Hi⟩ := Kd.gK bP.out; subst Hi; have iQ : 0 ≤ (dP : Int) := of_decide_eq_true AX; have iK : dP < (dN.length : Int) := of_decide_eq_true AX; obtain ⟨GG, EP, Fu, GU, GL, ru, z', zL, Cc, qb, qo, m7, nj, ng, nH⟩ := gv (Kd.bW bP.out).2.2 dP iQ iK; cases ru; obtain ⟨Eo, rI, ry, kT⟩ := Kd.lL bP.out z70 dP iQ (by first | exact iK | exact of_decide_eq_true AX | (have e_ := (Kd.bW bP.out).1; omega)); obtain ⟨Gl, Do, Dp, F3, rfl, kM, kn, kP, kF⟩ := lX ry; have i6 := kT 3 _ rfl; rw [ea _ _ 3 (by omega)] at i6; replace i6 := Option.some.inj (i6.symm.trans qb); injection i6 with bD cI bE; rw [bD] at kn; rw [bE] at kM; have GK := ae.mk (show Kd.V Kd.string 9 _ w.heap.size _ _ ((aD dN dP).f3) from Kd.eM kM kn); clear bD cI bE kn kM; have i4 := kT 4 _ rfl; rw [ea _ _ 4 (by omega)] at i4; replace i4 := Option.some.inj (i4.symm.trans qo); injection i4 with bD cI bE; rw [bD] at kF; rw [bE] at kP; have Ex := ae.mk (show Kd.V (Kd.int .i64) 3 _ w.heap.size _ _ ((aD dN dP).f4) from Kd.eM kP kF); clear bD cI bE kF kP; clear kT rI; have Hm := ae.mk nj; have Fk := ae.mk m7; clear nj m7; have DF := ae.mk nH; have Ct := ae.mk ng; clear nH ng; replace iQ := eq_true iQ; replace iK := eq_true iK; have iS : 0 ≤ (da : Int) := of_decide_eq_true AX; have iR : da < (dw.length : Int) := of_decide_eq_true AX; obtain ⟨Ew, FH, D5, FU, Db, rC, Bf, B1, BS, qp, qy, mT, m_, nk, mZ⟩ := gv (Kd.bW b8.out).2.2 da iS iR; cases rC; obtain ⟨F9, qS, rQ, km⟩ := Kd.lL b8.out z70 da iS (by first | exact iR | exact of_decide_eq_true AX | (have e_ := (Kd.bW b8.out).1; omega)); obtain ⟨Fy, F', D', C', rfl, ks, kJ, kU, kR⟩ := lX rQ; have iU := km 3 _ rfl; rw [ea _ _ 3 (by omega)] at iU; replace iU := Option.some.inj (iU.symm.trans qp); injection iU with bD cI bE; rw [bD] at kJ; rw [bE] at ks; have En := ae.mk (show Kd.V Kd.string 9 _ w.heap.size _ _ ((aD dw da).f3) from Kd.eM ks kJ); clear bD cI bE kJ ks; have iW := km 4 _ rfl; rw [ea _ _ 4 (by omega)] at iW; replace iW := Option.some.inj (iW.symm.trans qy); injection iW with bD cI bE; rw [bD] at kR; rw [bE] at kU; have Gm := ae.mk (show Kd.V (Kd.int .i64) 3 _ w.heap.size _ _ ((aD dw da).f4) from Kd.eM kU kR); clear bD cI bE kR kU; clear km qS; have Ep := ae.mk m_; have Cv := ae.mk mT; clear m_ mT; have Gs := ae.mk mZ; have GD := ae.mk nk; clear mZ nk; replace iS := eq_true iS; replace iR := eq_true iR))
                repeat (go_quiet (first | (go_at_call 59; (with_reducible refine (dh.calls k3 _ _ b9 (rd bS da) dP _ ?aH ?aG mM.out).mono ?_); (case aH => exact CX (Kd.aC jo.out HB.out)); (case aG => exact jt.out); rintro e w' ⟨rfl, ⟨nd, rfl⟩⟩; (try first | exact ⟨rfl, _, World.drewN_drewN _ _ _⟩ | exact ⟨rfl, _, Eq.trans (World.drewN_drewN _ _ _) (congrArg (World.drewN _) (Nat.add_assoc _ _ _))⟩); obtain ⟨XA, Wm, Hi⟩ := Kd.gK bP.out; subst Hi; have iQ : 0 ≤ (dP : Int) := of_decide_eq_true AX; have iK : dP < (dN.length : Int) := of_decide_eq_true AX; obtain ⟨GG, EP, Fu, GU, GL, ru, z', zL, Cc, qb, qo, m7, nj, ng, nH⟩ := gv (Kd.bW bP.out).2.2 dP iQ iK; cases ru; obtain ⟨Eo, rI, ry, kT⟩ := Kd.lL bP.out z70 dP iQ (by first | exact iK | exact of_decide_eq_true AX | (have e_ := (Kd.bW bP.out).1; omega)); obtain ⟨Gl, Do, Dp, F3, rfl, kM, kn, kP, kF⟩ := lX ry; have i6 := kT 3 _ rfl; rw [ea _ _ 3 (by omega)] at i6; replace i6 := Option.some.inj (i6.symm.trans qb); injection i6 with bD cI bE; rw [bD] at kn; rw [bE] at kM; have GK := ae.mk (show Kd.V Kd.string 9 _ w.heap.size _ _ ((aD dN dP).f3) from Kd.eM kM kn); clear bD cI bE kn kM; have i4 := kT 4 _ rfl; rw [ea _ _ 4 (by omega)] at i4; replace i4 := Option.some.inj (i4.symm.trans qo); injection i4 with bD cI bE; rw [bD] at kF; rw [bE] at kP; have Ex := ae.mk (show Kd.V (Kd.int .i64) 3 _ w.heap.size _ _ ((aD dN dP).f4) from Kd.eM kP kF); clear bD cI bE kF kP; clear kT rI; have Hm := ae.mk nj; have Fk := ae.mk m7; clear nj m7; have DF := ae.mk nH; have Ct := ae.mk ng; clear nH ng; replace iQ := eq_true iQ; replace iK := eq_true iK; have iS : 0 ≤ (da : Int) := of_decide_eq_true AX; have iR : da < (dw.length : Int) := of_decide_eq_true AX; obtain ⟨Ew, FH, D5, FU, Db, rC, Bf, B1, BS, qp, qy, mT, m_, nk, mZ⟩ := gv (Kd.bW b8.out).2.2 da iS iR; cases rC; obtain ⟨F9, qS, rQ, km⟩ := Kd.lL b8.out z70 da iS (by first | exact iR | exact of_decide_eq_true AX | (have e_ := (Kd.bW b8.out).1; omega)); obtain ⟨Fy, F', D', C', rfl, ks, kJ, kU, kR⟩ := lX rQ; have iU := km 3 _ rfl; rw [ea _ _ 3 (by omega)] at iU; replace iU := Option.some.inj (iU.symm.trans qp); injection iU with bD cI bE; rw [bD] at kJ; rw [bE] at ks; have En := ae.mk (show Kd.V Kd.string 9 _ w.heap.size _ _ ((aD dw da).f3) from Kd.eM ks kJ); clear bD cI bE kJ ks; have iW := km 4 _ rfl; rw [ea _ _ 4 (by omega)] at iW; replace iW := Option.some.inj (iW.symm.trans qy); injection iW with bD cI bE; rw [bD] at kR; rw [bE] at kU; have Gm := ae.mk (show Kd.V (Kd.int .i64) 3 _ w.heap.size _ _ ((aD dw da).f4) from Kd.eM kU kR); clear bD cI bE kR kU; clear km qS; have Ep := ae.mk m_; have Cv := ae.mk mT; clear m_ mT; have Gs := ae.mk mZ; have GD := ae.mk nk; clear mZ nk; replace iS := eq_true iS; replace iR := eq_true iR)); try go_wp2_with (first | (go_at_call 59; (with_reducible refine (dh.calls k3 _ _ b9 (rd bS da) dP _ ?aH ?aG mM.out).mono ?_); (case aH => exact CX (Kd.aC jo.out HB.out)); (case aG => exact jt.out); rintro e w' ⟨rfl, ⟨nd, rfl⟩⟩; (try first | exact ⟨rfl, _, World.drewN_drewN _ _ _⟩ | exact ⟨rfl, _, Eq.trans (World.drewN_drewN _ _ _) (congrArg (World.drewN _) (Nat.add_assoc _ _ _))⟩); obtain ⟨XA, Wm, Hi⟩ := Kd.gK bP.out; subst Hi; have iQ : 0 ≤ (dP : Int) := of_decide_eq_true AX; have iK : dP < (dN.length : Int) := of_decide_eq_true AX; obtain ⟨GG, EP, Fu, GU, GL, ru, z', zL, Cc, qb, qo, m7, nj, ng, nH⟩ := gv (Kd.bW bP.out).2.2 dP iQ iK; cases ru; obtain ⟨Eo, rI, ry, kT⟩ := Kd.lL bP.out z70 dP iQ (by first | exact iK | exact of_decide_eq_true AX | (have e_ := (Kd.bW bP.out).1; omega)); obtain ⟨Gl, Do, Dp, F3, rfl, kM, kn, kP, kF⟩ := lX ry; have i6 := kT 3 _ rfl; rw [ea _ _ 3 (by omega)] at i6; replace i6 := Option.some.inj (i6.symm.trans qb); injection i6 with bD cI bE; rw [bD] at kn; rw [bE] at kM; have GK := ae.mk (show Kd.V Kd.string 9 _ w.heap.size _ _ ((aD dN dP).f3) from Kd.eM kM kn); clear bD cI bE kn kM; have i4 := kT 4 _ rfl; rw [ea _ _ 4 (by omega)] at i4; replace i4 := Option.some.inj (i4.symm.trans qo); injection i4 with bD cI bE; rw [bD] at kF; rw [bE] at kP; have Ex := ae.mk (show Kd.V (Kd.int .i64) 3 _ w.heap.size _ _ ((aD dN dP).f4) from Kd.eM kP kF); clear bD cI bE kF kP; clear kT rI; have Hm := ae.mk nj; have Fk := ae.mk m7; clear nj m7; have DF := ae.mk nH; have Ct := ae.mk ng; clear nH ng; replace iQ := eq_true iQ; replace iK := eq_true iK; have iS : 0 ≤ (da : Int) := of_decide_eq_true AX; have iR : da < (dw.length : Int) := of_decide_eq_true AX; obtain ⟨Ew, FH, D5, FU, Db, rC, Bf, B1, BS, qp, qy, mT, m_, nk, mZ⟩ := gv (Kd.bW b8.out).2.2 da iS iR; cases rC; obtain ⟨F9, qS, rQ, km⟩ := Kd.lL b8.out z70 da iS (by first | exact iR | exact of_decide_eq_true AX | (have e_ := (Kd.bW b8.out).1; omega)); obtain ⟨Fy, F', D', C', rfl, ks, kJ, kU, kR⟩ := lX rQ; have iU := km 3 _ rfl; rw [ea _ _ 3 (by omega)] at iU; replace iU := Option.some.inj (iU.symm.trans qp); injection iU with bD cI bE; rw [bD] at kJ; rw [bE] at ks; have En := ae.mk (show Kd.V Kd.string 9 _ w.heap.size _ _ ((aD dw da).f3) from Kd.eM ks kJ); clear bD cI bE kJ ks; have iW := km 4 _ rfl; rw [ea _ _ 4 (by omega)] at iW; replace iW := Option.some.inj (iW.symm.trans qy); injection iW with bD cI bE; rw [bD] at kR; rw [bE] at kU; have Gm := ae.mk (show Kd.V (Kd.int .i64) 3 _ w.heap.size _ _ ((aD dw da).f4) from Kd.eM kU kR); clear bD cI bE kR kU; clear km qS; have Ep := ae.mk m_; have Cv := ae.mk mT; clear m_ mT; have Gs := ae.mk mZ; have GD := ae.mk nk; clear mZ nk; replace iS := eq_true iS; replace iR := eq_true iR)))
                go_ret
                exact ⟨by first | rfl | (simp [bY, bX] <;> rfl) | (simp [*, bY, bX] <;> rfl), by repeat (first | (with_reducible first | exact HB.out | apply aQ | apply aY | apply aT | refine ao ?_ gu.out | refine ao ?_ gn.out | refine ao ?_ gx.out | refine ao ?_ gy.out) | exact HB.out)⟩
              ·rw [if_neg CP] at H
               exact absurd H (by simp)
             ·rw [if_neg qG] at H
              exact absurd H (by simp)
            ·rw [if_neg xN] at H
             have WI : decide (0 ≤ dP) = false := decide_eq_false xN
             clear xN
             have H' := ae.mk H
             clear H
             obtain ⟨afG, ah1, Pq⟩ := Kd.gK b8.out
             subst Pq
             have awV := oI.out
             have asc := oN.out
             have aww := oK.out
             have aql := pa.out
             have akO := ow.out
             have an5 := oL.out
             obtain ⟨acg, agr, ajS, acL, ai', ae8, agN, afp⟩ := d8 fT
             have qj : 0 ≤ (da : Int) := of_decide_eq_true AX
             have qw : da < (bS.length : Int) := of_decide_eq_true AX
             obtain ⟨W3, Ch, qx⟩ := Kd.dB jq.out da qj qw
             cases Ch
             replace qx := (HB.out.cell (World.block_lt_of_cell? w _ qx)).trans qx
             replace qj := eq_true qj
             replace qw := eq_true qw
             go_wp2_with (first | (go_at_call 59; (with_reducible refine (dh.calls k3 _ _ b9 (rd bS da) dP _ ?aH ?aG mM.out).mono ?_); (case aH => exact CX (Kd.aC jo.out HB.out)); (case aG => exact jt.out); rintro e w' ⟨rfl, ⟨nd, rfl⟩⟩; (try first | exact ⟨rfl, _, World.drewN_drewN _ _ _⟩ | exact ⟨rfl, _, Eq.trans (World.drewN_drewN _ _ _) (congrArg (World.drewN _) (Nat.add_assoc _ _ _))⟩)))
             repeat (go_quiet (first | (go_at_call 59; (with_reducible refine (dh.calls k3 _ _ b9 (rd bS da) dP _ ?aH ?aG mM.out).mono ?_); (case aH => exact CX (Kd.aC jo.out HB.out)); (case aG => exact jt.out); rintro e w' ⟨rfl, ⟨nd, rfl⟩⟩; (try first | exact ⟨rfl, _, World.drewN_drewN _ _ _⟩ | exact ⟨rfl, _, Eq.trans (World.drewN_drewN _ _ _) (congrArg (World.drewN _) (Nat.add_assoc _ _ _))⟩))); try go_wp2_with (first | (go_at_call 59; (with_reducible refine (dh.calls k3 _ _ b9 (rd bS da) dP _ ?aH ?aG mM.out).mono ?_); (case aH => exact CX (Kd.aC jo.out HB.out)); (case aG => exact jt.out); rintro e w' ⟨rfl, ⟨nd, rfl⟩⟩; (try first | exact ⟨rfl, _, World.drewN_drewN _ _ _⟩ | exact ⟨rfl, _, Eq.trans (World.drewN_drewN _ _ _) (congrArg (World.drewN _) (Nat.add_assoc _ _ _))⟩))))
             go_roundg k3
             case measure => have := sr.out; have := eP.out; have := mH.out; omega
             case rel => exact ⟨(wrap64 (da + 1)), SX, H', ⟨by have := sr.out; have := eP.out; have := mH.out; omega⟩, ⟨by (with_reducible repeat (first | apply Kd.cN | apply Kd.cM | apply Kd.cC)); exact ri.out⟩, ⟨by (with_reducible repeat (first | apply Kd.cN | apply Kd.cM | apply Kd.cC)); exact b8.out⟩, ⟨by (with_reducible repeat (first | apply Kd.cN | apply Kd.cM | apply Kd.cC)); exact bP.out⟩, ⟨by (with_reducible repeat (first | refine bf ?_ _ | refine bd ?_ | refine aU ?_ _)); exact fq.out⟩, ⟨by (with_reducible repeat (first | refine bf ?_ _ | refine bd ?_ | refine aU ?_ _)); exact gw.out⟩, ⟨by (with_reducible repeat (first | refine bf ?_ _ | refine bd ?_ | refine aU ?_ _)); exact gU.out⟩, ⟨by (with_reducible repeat (first | refine bf ?_ _ | refine bd ?_ | refine aU ?_ _)); exact fT.out⟩, ⟨by repeat (first | (with_reducible first | exact HB.out | apply aQ | apply aY | apply aT | refine ao ?_ gu.out | refine ao ?_ gn.out | refine ao ?_ gx.out | refine ao ?_ gy.out) | exact HB.out)⟩⟩
           ·rw [if_neg sp] at H
            exact absurd H (by simp)
          ·rw [if_neg qE] at H
           exact absurd H (by simp)
         ·rw [if_neg ww] at H
          have Ui : decide (da < (dw.length : Int)) = false := decide_eq_false ww
          clear ww
          have H' := ae.mk H
          clear H
          obtain ⟨amE, ak8, abk⟩ := Kd.gK b8.out
          subst abk
          go_wp2
          repeat (go_quiet (fail); try go_wp2)
          go_loopg [15] k3 (fun kq NN w' => ∃ (kl : Int), NN = .int .i64 kl ∧ ae (cn.l2 kq kl b6 bS b9 cD = some r) ∧ ae (kq ≤ k3) ∧ ae (w'.heap[mF]? = some (.cells #[.int .i64 aE, .string aA, (.slice bB ay.length bA), (.slice br au.length bq)] 25 (0, 0))) ∧ ae (w'.heap[mE]? = some (.cells #[.int .i64 aK, .string aM, (.slice fQ cx.length fP), (.slice eG bR.length eD)] 25 (0, 0))) ∧ ae (w'.heap[mA]? = some (.cells #[.int .i64 e8, .string fa, (.slice jy dZ.length jI), (.slice jK d4.length jJ)] 25 (0, 0))) ∧ ae (w'.heap[mC]? = some (.cells #[(.slice jd b6.length i8), (.slice jw bS.length jz), (.slice jD b9.length jA), .int .i64 cD] 40 (0, 0))) ∧ ae (Below w.heap.size w w'))
          case atStart => exact ⟨((dE.length : Int)), SX, H', ⟨Nat.le_refl _⟩, ⟨by (with_reducible repeat (first | refine bf ?_ _ | refine bd ?_ | refine aU ?_ _)); exact fq.out⟩, ⟨by (with_reducible repeat (first | refine bf ?_ _ | refine bd ?_ | refine aU ?_ _)); exact gw.out⟩, ⟨by (with_reducible repeat (first | refine bf ?_ _ | refine bd ?_ | refine aU ?_ _)); exact gU.out⟩, ⟨by (with_reducible repeat (first | refine bf ?_ _ | refine bd ?_ | refine aU ?_ _)); exact fT.out⟩, ⟨by repeat (first | (with_reducible first | exact HB.out | apply aQ | apply aY | apply aT | refine ao ?_ gu.out | refine ao ?_ gn.out | refine ao ?_ gx.out | refine ao ?_ gy.out) | exact HB.out)⟩⟩
          case round =>
           clear H'
           try clear c1
           try clear c2
           try clear p2
           try clear c3
           try clear c4
           try clear p4
           try clear q4
           try clear nU
           try clear c5
           try clear c6
           try clear p6
           try clear c7
           try clear c8
           try clear c9
           try clear dO
           try clear iN
           try clear mO
           try clear kH
           try clear fY
           try clear kI
           try clear gQ
           try clear lN
           try clear sI
           try clear Bq
           try clear C5
           try clear oo
           try clear mG
           try clear mr
           try clear rN
           try clear AY
           try clear MZ
           try clear RB
           try clear So
           try clear Ub
           try clear U_
           try clear acd
           try clear uB
           try clear p42
           try clear q42
           try clear arx
           try clear RE
           try clear MG
           try clear pW
           try clear O5
           try clear sK
           try clear s5
           try clear wm
           try clear uH
           try clear PG
           try clear B_
           try clear VI
           try clear qC
           try clear US
           try clear oJ
           try clear xJ
           try clear Qw
           try clear uN
           try clear OY
           try clear c62
           try clear zH
           try clear xR
           try clear PX
           try clear c67
           try clear wX
           try clear c69
           try clear c72
           try clear c73
           try clear c74
           try clear ww
           try clear Ui
           try clear qE
           try clear OM
           try clear sp
           try clear XT
           try clear xN
           try clear WI
           try clear qG
           try clear NM
           try clear CP
           try clear aie
           try clear u2
           try clear Xa
           try clear U7
           try clear c86
           try clear c87
           try clear c88
           try clear c92
           try clear c93
           try clear c94
           try clear c98
           try clear c99
           try clear ap'
           try clear acg
           try clear agr
           try clear ajS
           try clear acL
           try clear Fv
           try clear C6
           try clear CH
           try clear FQ
           try clear s_
           try clear tc
           try clear wJ
           try clear yY
           try clear BY
           try clear z7
           try clear Ba
           try clear zS
           try clear vD
           try clear uY
           try clear u0
           try clear u6
           try clear IJ
           try clear Ir
           try clear Iu
           try clear Kw
           try clear Fl
           try clear F6
           try clear E1
           try clear Ds
           try clear Ja
           try clear Jl
           try clear Ks
           try clear K_
           try clear Wy
           try clear VX
           try clear Tn
           try clear Vr
           try clear WO
           try clear Ux
           try clear XF
           try clear X0
           try clear XC
           try clear ST
           try clear UY
           try clear U6
           try clear aa3
           try clear ad6
           try clear acK
           try clear ad0
           try clear abQ
           try clear afM
           try clear aam
           try clear aeu
           try clear ai'
           try clear ae8
           try clear agN
           try clear afp
           try clear Ei
           try clear E'
           try clear F5
           try clear Eb
           try clear tb
           try clear ut
           try clear zk
           try clear xl
           try clear z6
           try clear BA
           try clear Af
           try clear AS
           try clear vP
           try clear uT
           try clear vA
           try clear vT
           try clear JO
           try clear JF
           try clear Ki
           try clear JQ
           try clear Co
           try clear Gk
           try clear GT
           try clear FY
           try clear Ix
           try clear Ik
           try clear Kp
           try clear JG
           try clear S1
           try clear W8
           try clear V1
           try clear YA
           try clear Vg
           try clear Xw
           try clear Vu
           try clear XU
           try clear YB
           try clear Xg
           try clear Uk
           try clear SI
           try clear abJ
           try clear abD
           try clear acV
           try clear aal
           try clear aeQ
           try clear aeM
           try clear ZA
           try clear afS
           try clear pF
           try clear qx
           try clear z'
           try clear zL
           try clear Cc
           try clear qb
           try clear qo
           try clear Bf
           try clear B1
           try clear BS
           try clear qp
           try clear qy
           try clear p2
           try clear p4
           try clear Ub
           try clear pP
           try clear qj
           try clear iQ
           try clear iS
           try clear p6
           try clear PX
           try clear q4
           try clear U_
           try clear pV
           try clear qw
           try clear iK
           try clear iR
           obtain ⟨kl, rfl, HA, IK, fq, gw, gU, fT, HB⟩ := hrel
           cases gk with
           | zero => exact absurd HA.out (by simp [cn.l2])
           | succ k4 =>
            have H := HA.out
            clear HA
            simp only [cn.l2] at H
            by_cases B5 : kl < cD
            ·rw [if_pos B5] at H
             have ajR : decide (kl < cD) = true := decide_eq_true B5
             clear B5
             replace H := Option.bind_eq_some_iff.mp H
             obtain ⟨pn, WX, H⟩ := H
             have ta := ae.mk WX
             clear WX
             by_cases An : pn < 0
             ·rw [if_pos An] at H
              have aga : decide (pn < 0) = true := decide_eq_true An
              clear An
              replace H := Option.bind_eq_some_iff.mp H
              obtain ⟨rP, SF, H⟩ := H
              have AB := ae.mk SF
              clear SF
              by_cases Ah : rP < 0
              ·rw [if_pos Ah] at H
               have agk : decide (rP < 0) = true := decide_eq_true Ah
               clear Ah
               obtain rfl := Option.some.inj H
               have axp := oI.out
               have aqa := oN.out
               have aqD := oK.out
               have ao1 := pa.out
               have amw := ow.out
               have aqQ := oL.out
               obtain ⟨auj, akR, arh, aoR, al_, atC, ao8, aqy⟩ := d8 fT
               go_wp2_with (first | (go_at_call 59; (with_reducible refine (dh.calls k4 _ _ bS kl pn _ ?aH ?aG ta.out).mono ?_); (case aH => exact CX (Kd.aC jq.out HB.out)); (case aG => exact kf.out); rintro e w' ⟨rfl, ⟨nd, rfl⟩⟩; (try first | exact ⟨rfl, _, World.drewN_drewN _ _ _⟩ | exact ⟨rfl, _, Eq.trans (World.drewN_drewN _ _ _) (congrArg (World.drewN _) (Nat.add_assoc _ _ _))⟩)) | (go_at_call 59; (with_reducible refine (dh.calls k4 _ _ b9 kl rP _ ?aH ?aG AB.out).mono ?_); (case aH => repeat (first | exact (Kd.aC jo.out (by repeat (first | (with_reducible first | exact HB.out | apply aQ | apply aY | apply aT | refine ao ?_ gu.out | refine ao ?_ gn.out | refine ao ?_ gx.out | refine ao ?_ gy.out) | exact HB.out))) | (with_reducible refine Kd.dH ?_ _) | (with_reducible refine Kd.dM ?_ _) | (with_reducible refine Kd.cH ?_))); (case aG => exact jt.out); rintro e w' ⟨rfl, ⟨nd, rfl⟩⟩; (try first | exact ⟨rfl, _, World.drewN_drewN _ _ _⟩ | exact ⟨rfl, _, Eq.trans (World.drewN_drewN _ _ _) (congrArg (World.drewN _) (Nat.add_assoc _ _ _))⟩)))
               repeat (go_quiet (first | (go_at_call 59; (with_reducible refine (dh.calls k4 _ _ bS kl pn _ ?aH ?aG ta.out).mono ?_); (case aH => exact CX (Kd.aC jq.out HB.out)); (case aG => exact kf.out); rintro e w' ⟨rfl, ⟨nd, rfl⟩⟩; (try first | exact ⟨rfl, _, World.drewN_drewN _ _ _⟩ | exact ⟨rfl, _, Eq.trans (World.drewN_drewN _ _ _) (congrArg (World.drewN _) (Nat.add_assoc _ _ _))⟩)) | (go_at_call 59; (with_reducible refine (dh.calls k4 _ _ b9 kl rP _ ?aH ?aG AB.out).mono ?_); (case aH => repeat (first | exact (Kd.aC jo.out (by repeat (first | (with_reducible first | exact HB.out | apply aQ | apply aY | apply aT | refine ao ?_ gu.out | refine ao ?_ gn.out | refine ao ?_ gx.out | refine ao ?_ gy.out) | exact HB.out))) | (with_reducible refine Kd.dH ?_ _) | (with_reducible refine Kd.dM ?_ _) | (with_reducible refine Kd.cH ?_))); (case aG => exact jt.out); rintro e w' ⟨rfl, ⟨nd, rfl⟩⟩; (try first | exact ⟨rfl, _, World.drewN_drewN _ _ _⟩ | exact ⟨rfl, _, Eq.trans (World.drewN_drewN _ _ _) (congrArg (World.drewN _) (Nat.add_assoc _ _ _))⟩))); try go_wp2_with (first | (go_at_call 59; (with_reducible refine (dh.calls k4 _ _ bS kl pn _ ?aH ?aG ta.out).mono ?_); (case aH => exact CX (Kd.aC jq.out HB.out)); (case aG => exact kf.out); rintro e w' ⟨rfl, ⟨nd, rfl⟩⟩; (try first | exact ⟨rfl, _, World.drewN_drewN _ _ _⟩ | exact ⟨rfl, _, Eq.trans (World.drewN_drewN _ _ _) (congrArg (World.drewN _) (Nat.add_assoc _ _ _))⟩)) | (go_at_call 59; (with_reducible refine (dh.calls k4 _ _ b9 kl rP _ ?aH ?aG AB.out).mono ?_); (case aH => repeat (first | exact (Kd.aC jo.out (by repeat (first | (with_reducible first | exact HB.out | apply aQ | apply aY | apply aT | refine ao ?_ gu.out | refine ao ?_ gn.out | refine ao ?_ gx.out | refine ao ?_ gy.out) | exact HB.out))) | (with_reducible refine Kd.dH ?_ _) | (with_reducible refine Kd.dM ?_ _) | (with_reducible refine Kd.cH ?_))); (case aG => exact jt.out); rintro e w' ⟨rfl, ⟨nd, rfl⟩⟩; (try first | exact ⟨rfl, _, World.drewN_drewN _ _ _⟩ | exact ⟨rfl, _, Eq.trans (World.drewN_drewN _ _ _) (congrArg (World.drewN _) (Nat.add_assoc _ _ _))⟩))))
               go_ret
               exact ⟨by first | rfl | (simp [bY, bX] <;> rfl) | (simp [*, bY, bX] <;> rfl), by repeat (first | (with_reducible first | exact HB.out | apply aQ | apply aY | apply aT | refine ao ?_ gu.out | refine ao ?_ gn.out | refine ao ?_ gx.out | refine ao ?_ gy.out) | exact HB.out)⟩
              ·rw [if_neg Ah] at H
               have agk : decide (rP < 0) = false := decide_eq_false Ah
               clear Ah
               have H' := ae.mk H
               clear H
               have anT := oI.out
               have awh := oN.out
               have axn := oK.out
               have aqu := pa.out
               have an_ := ow.out
               have apF := oL.out
               obtain ⟨aq9, alZ, auL, aqw, apI, aod, aw7, apV⟩ := d8 fT
               go_wp2_with (first | (go_at_call 59; (with_reducible refine (dh.calls k4 _ _ bS kl pn _ ?aH ?aG ta.out).mono ?_); (case aH => exact CX (Kd.aC jq.out HB.out)); (case aG => exact kf.out); rintro e w' ⟨rfl, ⟨nd, rfl⟩⟩; (try first | exact ⟨rfl, _, World.drewN_drewN _ _ _⟩ | exact ⟨rfl, _, Eq.trans (World.drewN_drewN _ _ _) (congrArg (World.drewN _) (Nat.add_assoc _ _ _))⟩)) | (go_at_call 59; (with_reducible refine (dh.calls k4 _ _ b9 kl rP _ ?aH ?aG AB.out).mono ?_); (case aH => repeat (first | exact (Kd.aC jo.out (by repeat (first | (with_reducible first | exact HB.out | apply aQ | apply aY | apply aT | refine ao ?_ gu.out | refine ao ?_ gn.out | refine ao ?_ gx.out | refine ao ?_ gy.out) | exact HB.out))) | (with_reducible refine Kd.dH ?_ _) | (with_reducible refine Kd.dM ?_ _) | (with_reducible refine Kd.cH ?_))); (case aG => exact jt.out); rintro e w' ⟨rfl, ⟨nd, rfl⟩⟩; (try first | exact ⟨rfl, _, World.drewN_drewN _ _ _⟩ | exact ⟨rfl, _, Eq.trans (World.drewN_drewN _ _ _) (congrArg (World.drewN _) (Nat.add_assoc _ _ _))⟩)))
               repeat (go_quiet (first | (go_at_call 59; (with_reducible refine (dh.calls k4 _ _ bS kl pn _ ?aH ?aG ta.out).mono ?_); (case aH => exact CX (Kd.aC jq.out HB.out)); (case aG => exact kf.out); rintro e w' ⟨rfl, ⟨nd, rfl⟩⟩; (try first | exact ⟨rfl, _, World.drewN_drewN _ _ _⟩ | exact ⟨rfl, _, Eq.trans (World.drewN_drewN _ _ _) (congrArg (World.drewN _) (Nat.add_assoc _ _ _))⟩)) | (go_at_call 59; (with_reducible refine (dh.calls k4 _ _ b9 kl rP _ ?aH ?aG AB.out).mono ?_); (case aH => repeat (first | exact (Kd.aC jo.out (by repeat (first | (with_reducible first | exact HB.out | apply aQ | apply aY | apply aT | refine ao ?_ gu.out | refine ao ?_ gn.out | refine ao ?_ gx.out | refine ao ?_ gy.out) | exact HB.out))) | (with_reducible refine Kd.dH ?_ _) | (with_reducible refine Kd.dM ?_ _) | (with_reducible refine Kd.cH ?_))); (case aG => exact jt.out); rintro e w' ⟨rfl, ⟨nd, rfl⟩⟩; (try first | exact ⟨rfl, _, World.drewN_drewN _ _ _⟩ | exact ⟨rfl, _, Eq.trans (World.drewN_drewN _ _ _) (congrArg (World.drewN _) (Nat.add_assoc _ _ _))⟩))); try go_wp2_with (first | (go_at_call 59; (with_reducible refine (dh.calls k4 _ _ bS kl pn _ ?aH ?aG ta.out).mono ?_); (case aH => exact CX (Kd.aC jq.out HB.out)); (case aG => exact kf.out); rintro e w' ⟨rfl, ⟨nd, rfl⟩⟩; (try first | exact ⟨rfl, _, World.drewN_drewN _ _ _⟩ | exact ⟨rfl, _, Eq.trans (World.drewN_drewN _ _ _) (congrArg (World.drewN _) (Nat.add_assoc _ _ _))⟩)) | (go_at_call 59; (with_reducible refine (dh.calls k4 _ _ b9 kl rP _ ?aH ?aG AB.out).mono ?_); (case aH => repeat (first | exact (Kd.aC jo.out (by repeat (first | (with_reducible first | exact HB.out | apply aQ | apply aY | apply aT | refine ao ?_ gu.out | refine ao ?_ gn.out | refine ao ?_ gx.out | refine ao ?_ gy.out) | exact HB.out))) | (with_reducible refine Kd.dH ?_ _) | (with_reducible refine Kd.dM ?_ _) | (with_reducible refine Kd.cH ?_))); (case aG => exact jt.out); rintro e w' ⟨rfl, ⟨nd, rfl⟩⟩; (try first | exact ⟨rfl, _, World.drewN_drewN _ _ _⟩ | exact ⟨rfl, _, Eq.trans (World.drewN_drewN _ _ _) (congrArg (World.drewN _) (Nat.add_assoc _ _ _))⟩))))
               go_roundg k4
               case measure => have := sr.out; have := eP.out; have := mH.out; have := IK.out; omega
               case rel => exact ⟨(wrap64 (kl + 1)), SX, H', ⟨by have := sr.out; have := eP.out; have := mH.out; have := IK.out; omega⟩, ⟨by (with_reducible repeat (first | refine bf ?_ _ | refine bd ?_ | refine aU ?_ _)); exact fq.out⟩, ⟨by (with_reducible repeat (first | refine bf ?_ _ | refine bd ?_ | refine aU ?_ _)); exact gw.out⟩, ⟨by (with_reducible repeat (first | refine bf ?_ _ | refine bd ?_ | refine aU ?_ _)); exact gU.out⟩, ⟨by (with_reducible repeat (first | refine bf ?_ _ | refine bd ?_ | refine aU ?_ _)); exact fT.out⟩, ⟨by repeat (first | (with_reducible first | exact HB.out | apply aQ | apply aY | apply aT | refine ao ?_ gu.out | refine ao ?_ gn.out | refine ao ?_ gx.out | refine ao ?_ gy.out) | exact HB.out)⟩⟩
             ·rw [if_neg An] at H
              have aga : decide (pn < 0) = false := decide_eq_false An
              clear An
              have H' := ae.mk H
              clear H
              have amK := oI.out
              have ap2 := oN.out
              have aok := oK.out
              have arY := pa.out
              have aqX := ow.out
              have amI := oL.out
              obtain ⟨alN, avH, ayi, avE, ap5, apD, ara, axR⟩ := d8 fT
              go_wp2_with (first | (go_at_call 59; (with_reducible refine (dh.calls k4 _ _ bS kl pn _ ?aH ?aG ta.out).mono ?_); (case aH => exact CX (Kd.aC jq.out HB.out)); (case aG => exact kf.out); rintro e w' ⟨rfl, ⟨nd, rfl⟩⟩; (try first | exact ⟨rfl, _, World.drewN_drewN _ _ _⟩ | exact ⟨rfl, _, Eq.trans (World.drewN_drewN _ _ _) (congrArg (World.drewN _) (Nat.add_assoc _ _ _))⟩)))
              repeat (go_quiet (first | (go_at_call 59; (with_reducible refine (dh.calls k4 _ _ bS kl pn _ ?aH ?aG ta.out).mono ?_); (case aH => exact CX (Kd.aC jq.out HB.out)); (case aG => exact kf.out); rintro e w' ⟨rfl, ⟨nd, rfl⟩⟩; (try first | exact ⟨rfl, _, World.drewN_drewN _ _ _⟩ | exact ⟨rfl, _, Eq.trans (World.drewN_drewN _ _ _) (congrArg (World.drewN _) (Nat.add_assoc _ _ _))⟩))); try go_wp2_with (first | (go_at_call 59; (with_reducible refine (dh.calls k4 _ _ bS kl pn _ ?aH ?aG ta.out).mono ?_); (case aH => exact CX (Kd.aC jq.out HB.out)); (case aG => exact kf.out); rintro e w' ⟨rfl, ⟨nd, rfl⟩⟩; (try first | exact ⟨rfl, _, World.drewN_drewN _ _ _⟩ | exact ⟨rfl, _, Eq.trans (World.drewN_drewN _ _ _) (congrArg (World.drewN _) (Nat.add_assoc _ _ _))⟩))))
              go_roundg k4
              case measure => have := sr.out; have := eP.out; have := mH.out; have := IK.out; omega
              case rel => exact ⟨(wrap64 (kl + 1)), SX, H', ⟨by have := sr.out; have := eP.out; have := mH.out; have := IK.out; omega⟩, ⟨by (with_reducible repeat (first | refine bf ?_ _ | refine bd ?_ | refine aU ?_ _)); exact fq.out⟩, ⟨by (with_reducible repeat (first | refine bf ?_ _ | refine bd ?_ | refine aU ?_ _)); exact gw.out⟩, ⟨by (with_reducible repeat (first | refine bf ?_ _ | refine bd ?_ | refine aU ?_ _)); exact gU.out⟩, ⟨by (with_reducible repeat (first | refine bf ?_ _ | refine bd ?_ | refine aU ?_ _)); exact fT.out⟩, ⟨by repeat (first | (with_reducible first | exact HB.out | apply aQ | apply aY | apply aT | refine ao ?_ gu.out | refine ao ?_ gn.out | refine ao ?_ gx.out | refine ao ?_ gy.out) | exact HB.out)⟩⟩
            ·rw [if_neg B5] at H
             have ajR : decide (kl < cD) = false := decide_eq_false B5
             clear B5
             obtain rfl := Option.some.inj H
             have arO := oI.out
             have ar5 := oN.out
             have aqO := oK.out
             have axS := pa.out
             have aw9 := ow.out
             have awm := oL.out
             obtain ⟨aw2, atZ, att, auo, anO, auG, ax3, atT⟩ := d8 fT
             go_wp2
             repeat (go_quiet (fail); try go_wp2)
             go_ret
             exact ⟨by first | rfl | (simp [bY, bX] <;> rfl) | (simp [*, bY, bX] <;> rfl), by repeat (first | (with_reducible first | exact HB.out | apply aQ | apply aY | apply aT | refine ao ?_ gu.out | refine ao ?_ gn.out | refine ao ?_ gx.out | refine ao ?_ gy.out) | exact HB.out)⟩
end Go.Proofs.Ytcfjdehpbckomaa.Q
