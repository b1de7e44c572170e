
import Derived.Test.YtcfjdehpbckomaaQ0
import Derived.Test.YtcfjdehpbckomaaQ6
import Derived.Test.YtcfjdehpbckomaaQ7
import Derived.Test.YtcfjdehpbckomaaQ8
import Derived.Test.YtcfjdehpbckomaaQ11
import Derived.Test.YtcfjdehpbckomaaQ12
import Derived.Test.YtcfjdehpbckomaaQ14
namespace Go.Proofs.Ytcfjdehpbckomaa.Q
open Go.RowKit Go.Proofs.YtcfjdehpbckomaaW.dS Go.Proofs.YtcfjdehpbckomaaW.jm Go.Proofs.YtcfjdehpbckomaaW.mm
attribute [local go_sem] mU na nt mX m6 nu mP mW
set_option linter.unusedVariables false
set_option linter.unusedSimpArgs false
/-! ### treemergeref31_Independent: function 18 -/
def oS.f (k : Nat) (aE : Int) (aA : ByteArray) (ay : List ByteArray) (au : List (aX)) (aK : Int) (aM : ByteArray) (cx : List ByteArray) (bR : List (aX)) (e8 : Int) (fa : ByteArray) (dZ : List ByteArray) (d4 : List (aX)) (b6 : List Int) (bS : List Int) (b9 : List Int) (cD : Int) : Option (Bool × Int) := (cn.f k aE aA ay au aK aM cx bR e8 fa dZ d4 b6 bS b9 cD).bind fun qJ => (if qJ = 0 then ((bp.f k aE aA ay au aK aM cx bR b6 bS).bind fun yS => (if yS.2 = 0 then ((bp.f k aE aA ay au e8 fa dZ d4 b6 b9).bind fun we => (if we.2 = 0 then ((ec.f k yS.1 we.1).bind fun C4 => (some (((C4.length : Int) == 0), 0))) else (some (false, we.2)))) else (some (false, yS.2)))) else (some (false, qJ)))
theorem oS.mono : ∀ a0 a1 a2 a3 a4 a5 a6 a7 a8 a9 mq mj a12 o4 o6 pb k, aI (oS.f k a0 a1 a2 a3 a4 a5 a6 a7 a8 a9 mq mj a12 o4 o6 pb) (oS.f (k + 1) a0 a1 a2 a3 a4 a5 a6 a7 a8 a9 mq mj a12 o4 o6 pb) := by
 intro a0 a1 a2 a3 a4 a5 a6 a7 a8 a9 mq mj a12 o4 o6 pb k
 unfold oS.f
 repeat' first
   | (with_reducible exact cn.mono _ _ _ _ _ _ _ _ _ _ _ _ _ _ _ _ _)
   | (with_reducible exact bp.mono _ _ _ _ _ _ _ _ _ _ _)
   | (with_reducible exact ec.mono _ _ _)
   | (with_reducible exact aI.refl _)
   | (with_reducible exact aI.none _)
   | (with_reducible refine aI.ite ?_ ?_)
   | (with_reducible refine aI.bind ?_ (fun _ => ?_))
set_option maxHeartbeats 8000000 in
set_option maxRecDepth 100000 in
theorem oS.calls (k : Nat) (aE : Int) (aA : ByteArray) (bB : Option Addr) (bA : Nat) (ay : List ByteArray) (br : Option Addr) (bq : Nat) (au : List (aX)) (aK : Int) (aM : ByteArray) (fQ : Option Addr) (fP : Nat) (cx : List ByteArray) (eG : Option Addr) (eD : Nat) (bR : List (aX)) (e8 : Int) (fa : ByteArray) (jy : Option Addr) (jI : Nat) (dZ : List ByteArray) (jK : Option Addr) (jJ : Nat) (d4 : List (aX)) (jd : Option Addr) (i8 : Nat) (b6 : List Int) (jw : Option Addr) (jz : Nat) (bS : List Int) (jD : Option Addr) (jA : Nat) (b9 : List Int) (cD : Int) (r1 : Bool) (r2 : Int) (w : World) (fZ : Kd.C Kd.string w bB ay.length ay) (gg : ay.length ≤ bA) (fC : Kd.C k25 w br au.length au) (fL : au.length ≤ bq) (oC : Kd.C Kd.string w fQ cx.length cx) (o3 : cx.length ≤ fP) (mJ : Kd.C k25 w eG bR.length bR) (mK : bR.length ≤ eD) (sX : Kd.C Kd.string w jy dZ.length dZ) (sg : dZ.length ≤ jI) (sB : Kd.C k25 w jK d4.length d4) (sZ : d4.length ≤ jJ) (sD : Kd.C (Kd.int .i64) w jd b6.length b6) (sk : b6.length ≤ i8) (r7 : Kd.C (Kd.int .i64) w jw bS.length bS) (sW : bS.length ≤ jz) (sl : Kd.C (Kd.int .i64) w jD b9.length b9) (sS : b9.length ≤ jA) (h : oS.f k aE aA ay au aK aM cx bR e8 fa dZ d4 b6 bS b9 cD = some (r1, r2)) :
  Calls Try.prog 18 #[.agg #[.int .i64 aE, .string aA, .slice bB ay.length bA, .slice br au.length bq], .agg #[.int .i64 aK, .string aM, .slice fQ cx.length fP, .slice eG bR.length eD], .agg #[.int .i64 e8, .string fa, .slice jy dZ.length jI, .slice jK d4.length jJ], .agg #[.slice jd b6.length i8, .slice jw bS.length jz, .slice jD b9.length jA, .int .i64 cD]] w fun e w' => e = .returned (.tuple #[.bool r1, .int .i64 r2]) ∧ Below w.heap.size w w' := by
 have nR := Try.underlying25
 have Ld := Try.underlying40
 have fU := ae.mk fZ
 have gm := ae.mk gg
 clear fZ gg
 have fm := ae.mk fC
 have f_ := ae.mk fL
 clear fC fL
 have tf := ae.mk oC
 have tE := ae.mk o3
 clear oC o3
 have si := ae.mk mJ
 have sU := ae.mk mK
 clear mJ mK
 have xZ := ae.mk sX
 have wl := ae.mk sg
 clear sX sg
 have wa := ae.mk sB
 have yf := ae.mk sZ
 clear sB sZ
 have qZ := ae.mk sD
 have vQ := ae.mk sk
 clear sD sk
 have jq := ae.mk r7
 have kf := ae.mk sW
 clear r7 sW
 have jo := ae.mk sl
 have jt := ae.mk sS
 clear sl sS
 have HB := ae.mk (Below.refl w.heap.size w)
 have H : ((cn.f k aE aA ay au aK aM cx bR e8 fa dZ d4 b6 bS b9 cD).bind fun qJ => (if qJ = 0 then ((bp.f k aE aA ay au aK aM cx bR b6 bS).bind fun yS => (if yS.2 = 0 then ((bp.f k aE aA ay au e8 fa dZ d4 b6 b9).bind fun we => (if we.2 = 0 then ((ec.f k yS.1 we.1).bind fun C4 => (some (((C4.length : Int) == 0), 0))) else (some (false, we.2)))) else (some (false, yS.2)))) else (some (false, qJ)))) = some (r1, r2) := h
 clear h
 replace H := Option.bind_eq_some_iff.mp H
 obtain ⟨qJ, lW, H⟩ := H
 have A5 := ae.mk lW
 clear lW
 go_enter Try.func18, Try.ntmps18
 go_upto_if 21 with (first | ((with_reducible refine bz (N := 4) rfl ?_); refine bT ?hg (N := 4) ?hd (cs := #[.int .i64 aE, .string aA, .slice bB ay.length bA, .slice br au.length bq]) (t := 25) ?hr ?_; (case hd => rfl); (case hg => rfl); (case hr => first | (go_simp; done) | (go_simp; rfl) | (obtain ⟨_, _, rfl⟩ := Kd.bm (ae.out (by assumption : ae (Kd.R _ _ _ _ _ _ _))); go_simp; done)); intro atw hg sY av hb; have af := bn HB hb; have ag := ae.mk (av); have ah := bK HB hg; have am := bK HB hg; clear HB; have HB := af; have iT := ag; have am4 := ah; have wA := am; clear af ag ah am; clear hb av hg) | ((with_reducible refine bz (N := 5) rfl ?_); refine bT ?hg (N := 5) ?hd (cs := #[.int .i64 aK, .string aM, .slice fQ cx.length fP, .slice eG bR.length eD]) (t := 25) ?hr ?_; (case hd => rfl); (case hg => rfl); (case hr => first | (go_simp; done) | (go_simp; rfl) | (obtain ⟨_, _, rfl⟩ := Kd.bm (ae.out (by assumption : ae (Kd.R _ _ _ _ _ _ _))); go_simp; done)); intro anf hg DG av hb; have af := bw iT hb; have ag := bn HB hb; have ah := ae.mk (av); have am := bK HB hg; have aJ := bK HB hg; have aW := iP iT hg; have be := iL iT hg; clear iT; clear HB; have iT := af; have HB := ag; have j_ := ah; have ao4 := am; have zB := aJ; have abm := aW; have akm := be; clear af ag ah am aJ aW be; clear hb av hg) | ((with_reducible refine bz (N := 6) rfl ?_); refine bT ?hg (N := 6) ?hd (cs := #[.int .i64 e8, .string fa, .slice jy dZ.length jI, .slice jK d4.length jJ]) (t := 25) ?hr ?_; (case hd => rfl); (case hg => rfl); (case hr => first | (go_simp; done) | (go_simp; rfl) | (obtain ⟨_, _, rfl⟩ := Kd.bm (ae.out (by assumption : ae (Kd.R _ _ _ _ _ _ _))); go_simp; done)); intro ak4 hg uX av hb; have af := bw iT hb; have ag := bw j_ hb; have ah := bn HB hb; have am := ae.mk (av); have aJ := bK HB hg; have aW := bK HB hg; have be := iP iT hg; have bJ := iL iT hg; have bZ := iP j_ hg; have b0 := iL j_ hg; clear iT; clear j_; clear HB; have iT := af; have j_ := ag; have HB := ah; have mu := am; have alf := aJ; have xh := aW; have ajf := be; have acN := bJ; have ZS := bZ; have ajk := b0; clear af ag ah am aJ aW be bJ bZ b0; clear hb av hg) | ((with_reducible refine bz (N := 7) rfl ?_); refine bT ?hg (N := 7) ?hd (cs := #[.slice jd b6.length i8, .slice jw bS.length jz, .slice jD b9.length jA, .int .i64 cD]) (t := 40) ?hr ?_; (case hd => rfl); (case hg => rfl); (case hr => first | (go_simp; done) | (go_simp; rfl) | (obtain ⟨_, _, rfl⟩ := Kd.bm (ae.out (by assumption : ae (Kd.R _ _ _ _ _ _ _))); go_simp; done)); intro apT hg ug av hb; have af := bw iT hb; have ag := bw j_ hb; have ah := bw mu hb; have am := bn HB hb; have aJ := ae.mk (av); have aW := bK HB hg; have be := bK HB hg; have bJ := iP iT hg; have bZ := iL iT hg; have b0 := iP j_ hg; have cy := iL j_ hg; have cA := iP mu hg; have cF := iL mu hg; clear iT; clear j_; clear mu; clear HB; have iT := af; have j_ := ag; have mu := ah; have HB := am; have o7 := aJ; have akH := aW; have wd := be; have abG := bJ; have ae3 := bZ; have aiH := b0; have aag := cy; have aco := cA; have aao := cF; clear af ag ah am aJ aW be bJ bZ b0 cy cA cF; clear hb av hg; have aj9 := abm.out; have agx := akm.out; have akj := ajf.out; have akh := acN.out; have Vs := abG.out; have TV := ae3.out; obtain ⟨Xz, V7, WA, V9, X1, U0, Y4, Um⟩ := d8 iT; have aiG := ZS.out; have adf := ajk.out; have aiu := aiH.out; have adg := aag.out; obtain ⟨M1, Qa, Ox, QH, Lu, Se, Mu, QP⟩ := d8 j_; have af5 := aco.out; have aaj := aao.out; obtain ⟨IT, Je, PZ, Qj, Lc, Jr, RG, RF⟩ := d8 mu; obtain ⟨IC, Ib, Qq, P3, Ht, K7, PY, Pg⟩ := d8 o7) | ((with_reducible refine dD (f := 45) rfl ?_); refine dC (some 19) rfl rfl Try.func45 (by kernel_rfl) rfl #[.agg #[.int .i64 aE, .string aA, .slice bB ay.length bA, .slice br au.length bq], .agg #[.int .i64 aK, .string aM, .slice fQ cx.length fP, .slice eG bR.length eD], .agg #[.int .i64 e8, .string fa, .slice jy dZ.length jI, .slice jK d4.length jJ], .agg #[.slice jd b6.length i8, .slice jw bS.length jz, .slice jD b9.length jA, .int .i64 cD]] rfl MX ?_; (with_reducible refine (cn.calls k aE aA _ _ ay _ _ au aK aM _ _ cx _ _ bR e8 fa _ _ dZ _ _ d4 _ _ b6 _ _ bS _ _ b9 cD qJ _ ?aH ?aG ?bt ?bv ?cX ?cW ?fE ?fS ?fN ?fI ?fJ ?fF ?jW ?jR ?jV ?jP ?jQ ?jU A5.out).mono ?_); (case aH => exact CX (Kd.aC fU.out HB.out)); (case aG => exact gm.out); (case bt => exact CX (Kd.aC fm.out HB.out)); (case bv => exact f_.out); (case cX => exact CX (Kd.aC tf.out HB.out)); (case cW => exact tE.out); (case fE => exact CX (Kd.aC si.out HB.out)); (case fS => exact sU.out); (case fN => exact CX (Kd.aC xZ.out HB.out)); (case fI => exact wl.out); (case fJ => exact CX (Kd.aC wa.out HB.out)); (case fF => exact yf.out); (case jW => exact CX (Kd.aC qZ.out HB.out)); (case jR => exact vQ.out); (case jV => exact CX (Kd.aC jq.out HB.out)); (case jP => exact kf.out); (case jQ => exact CX (Kd.aC jo.out HB.out)); (case jU => exact jt.out); rintro e O3 ⟨rfl, hb⟩; refine ⟨_, rfl, ?_⟩; have af := bw iT hb; have ag := bw j_ hb; have ah := bw mu hb; have am := bw o7 hb; have aJ := bn HB hb; clear iT; clear j_; clear mu; clear o7; clear HB; have iT := af; have j_ := ag; have mu := ah; have o7 := am; have HB := aJ; clear af ag ah am aJ; (try clear hb); (try clear hb2); (try clear hk); (try clear hi); obtain ⟨Ic, Kz, QE, Nr, J7, Jw, Ss, P9⟩ := d8 iT; obtain ⟨agp, afN, aer, aed, ai5, agM, adv, ahS⟩ := d8 j_; obtain ⟨MO, Nt, Mz, P_, Og, Ob, Rk, Mv⟩ := d8 o7))
 (try simp only [Act.put, List.setIfInBounds_toArray, List.set_cons_zero, List.set_cons_succ])
 by_cases c6 : qJ = 0
 ·rw [if_pos c6] at H
  have gJ : (qJ == 0) = true := beq_iff_eq.mpr c6
  have pY : (qJ != 0) = false := bne_eq_false_iff_eq.mpr c6
  clear c6
  (first | rw [gJ] | rw [pY] | (simp only [gY, gX]; first | rw [gJ] | rw [pY]) | skip)
  replace H := Option.bind_eq_some_iff.mp H
  obtain ⟨⟨Rn, AH⟩, nc, H⟩ := H
  dsimp only at H
  have A7 := ae.mk nc
  clear nc
  go_upto_if 34 with (first | ((with_reducible refine dD (f := 11) rfl ?_); refine dC (some 30) rfl rfl Try.func11 (by kernel_rfl) rfl #[.agg #[.int .i64 aE, .string aA, .slice bB ay.length bA, .slice br au.length bq], .agg #[.int .i64 aK, .string aM, .slice fQ cx.length fP, .slice eG bR.length eD], .slice jd b6.length i8, .slice jw bS.length jz] rfl MX ?_; (with_reducible refine (bp.calls k aE aA _ _ ay _ _ au aK aM _ _ cx _ _ bR _ _ b6 _ _ bS Rn AH _ ?aH ?aG ?bt ?bv ?cX ?cW ?fE ?fS ?fN ?fI ?fJ ?fF A7.out).mono ?_); (case aH => exact CX (Kd.aC fU.out HB.out)); (case aG => exact gm.out); (case bt => exact CX (Kd.aC fm.out HB.out)); (case bv => exact f_.out); (case cX => exact CX (Kd.aC tf.out HB.out)); (case cW => exact tE.out); (case fE => exact CX (Kd.aC si.out HB.out)); (case fS => exact sU.out); (case fN => exact CX (Kd.aC qZ.out HB.out)); (case fI => exact vQ.out); (case fJ => exact CX (Kd.aC jq.out HB.out)); (case fF => exact kf.out); rintro e Kh ⟨aoh, rfl, aR, hb⟩; refine ⟨_, rfl, ?_⟩; have af := ae.mk (Kd.eB aR (cG (by repeat (first | (with_reducible first | exact HB.out | apply aQ | apply aY | apply aT | refine ao ?_ wA.out | refine ao ?_ zB.out | refine ao ?_ xh.out | refine ao ?_ wd.out) | exact HB.out)))); have ag := bw iT hb; have ah := bw j_ hb; have am := bw mu hb; have aJ := bw o7 hb; have aW := bn HB hb; clear iT; clear j_; clear mu; clear o7; clear HB; have sT := af; have iT := ag; have j_ := ah; have mu := am; have o7 := aJ; have HB := aW; clear af ag ah am aJ aW; (try clear hb); (try clear hb2); (try clear hk); (try clear hi); (try clear aR); obtain ⟨yP, xQ, CU, Dm, wH, wL, Fo, Hn⟩ := d8 iT; obtain ⟨aj6, aaz, ags, ajW, aeT, adH, agb, adK⟩ := d8 mu; obtain ⟨vD, uY, u0, u6, vP, uT, vA, vT⟩ := d8 o7))
  (try simp only [Act.put, List.setIfInBounds_toArray, List.set_cons_zero, List.set_cons_succ])
  by_cases c8 : AH = 0
  ·rw [if_pos c8] at H
   have kc : (AH == 0) = true := beq_iff_eq.mpr c8
   have mz : (AH != 0) = false := bne_eq_false_iff_eq.mpr c8
   clear c8
   (first | rw [kc] | rw [mz] | (simp only [gY, gX]; first | rw [kc] | rw [mz]) | skip)
   replace H := Option.bind_eq_some_iff.mp H
   obtain ⟨⟨Lt, AV⟩, vH, H⟩ := H
   dsimp only at H
   have A9 := ae.mk vH
   clear vH
   go_upto_if 47 with (first | ((with_reducible refine dD (f := 11) rfl ?_); refine dC (some 43) rfl rfl Try.func11 (by kernel_rfl) rfl #[.agg #[.int .i64 aE, .string aA, .slice bB ay.length bA, .slice br au.length bq], .agg #[.int .i64 e8, .string fa, .slice jy dZ.length jI, .slice jK d4.length jJ], .slice jd b6.length i8, .slice jD b9.length jA] rfl MX ?_; (with_reducible refine (bp.calls k aE aA _ _ ay _ _ au e8 fa _ _ dZ _ _ d4 _ _ b6 _ _ b9 Lt AV _ ?aH ?aG ?bt ?bv ?cX ?cW ?fE ?fS ?fN ?fI ?fJ ?fF A9.out).mono ?_); (case aH => exact CX (Kd.aC fU.out HB.out)); (case aG => exact gm.out); (case bt => exact CX (Kd.aC fm.out HB.out)); (case bv => exact f_.out); (case cX => exact CX (Kd.aC xZ.out HB.out)); (case cW => exact wl.out); (case fE => exact CX (Kd.aC wa.out HB.out)); (case fS => exact yf.out); (case fN => exact CX (Kd.aC qZ.out HB.out)); (case fI => exact vQ.out); (case fJ => exact CX (Kd.aC jo.out HB.out)); (case fF => exact jt.out); rintro e Ky ⟨auh, rfl, aR, hb⟩; refine ⟨_, rfl, ?_⟩; have af := ae.mk (Kd.b7 (RX sT.out) (Kd.aV aR) hb); have ag := ae.mk (Kd.eB (Kd.bh aR (Kd.bg (RX sT.out))) (cG (by repeat (first | (with_reducible first | exact HB.out | apply aQ | apply aY | apply aT | refine ao ?_ wA.out | refine ao ?_ zB.out | refine ao ?_ xh.out | refine ao ?_ wd.out) | exact HB.out)))); have ah := bw iT hb; have am := bw j_ hb; have aJ := bw mu hb; have aW := bw o7 hb; have be := bn HB hb; clear sT; clear iT; clear j_; clear mu; clear o7; clear HB; have sT := af; have Ay := ag; have iT := ah; have j_ := am; have mu := aJ; have o7 := aW; have HB := be; clear af ag ah am aJ aW be; (try clear hb); (try clear hb2); (try clear hk); (try clear hi); (try clear aR); obtain ⟨uF, qF, yR⟩ := Kd.bm sT.out; subst yR; obtain ⟨Bc, BU, tS⟩ := Kd.bm Ay.out; subst tS))
   (try simp only [Act.put, List.setIfInBounds_toArray, List.set_cons_zero, List.set_cons_succ])
   by_cases dO : AV = 0
   ·rw [if_pos dO] at H
    have k6 : (AV == 0) = true := beq_iff_eq.mpr dO
    have rL : (AV != 0) = false := bne_eq_false_iff_eq.mpr dO
    clear dO
    (first | rw [k6] | rw [rL] | (simp only [gY, gX]; first | rw [k6] | rw [rL]) | skip)
    replace H := Option.bind_eq_some_iff.mp H
    obtain ⟨C4, rj, H⟩ := H
    have pl := ae.mk rj
    clear rj
    simp only [Option.some.injEq, Prod.mk.injEq] at H
    obtain ⟨rfl, rfl⟩ := H
    go_wp2_with (first | ((with_reducible refine dD (f := 15) rfl ?_); refine dC (some 51) rfl rfl Try.func15 (by kernel_rfl) rfl #[.slice uF Rn.length qF, .slice Bc Lt.length BU] rfl MX ?_; (with_reducible refine (ec.calls k _ _ Rn _ _ Lt C4 _ ?aH ?aG ?bt ?bv pl.out).mono ?_); (case aH => exact CX ((Kd.b_ sT.out).2.2)); (case aG => exact (Kd.b_ sT.out).2.1); (case bt => exact CX ((Kd.b_ Ay.out).2.2)); (case bv => exact (Kd.b_ Ay.out).2.1); rintro e w37 ⟨aul, rfl, aR, hb⟩; refine ⟨_, rfl, ?_⟩; have af := ax sT hb; have ag := ax Ay hb; have ah := ae.mk (Kd.eB aR (cG (by repeat (first | (with_reducible first | exact HB.out | apply aQ | apply aY | apply aT | refine ao ?_ wA.out | refine ao ?_ zB.out | refine ao ?_ xh.out | refine ao ?_ wd.out) | exact HB.out)))); have am := bw iT hb; have aJ := bw j_ hb; have aW := bw mu hb; have be := bw o7 hb; have bJ := bn HB hb; clear sT; clear Ay; clear iT; clear j_; clear mu; clear o7; clear HB; have sT := af; have Ay := ag; have afg := ah; have iT := am; have j_ := aJ; have mu := aW; have o7 := be; have HB := bJ; clear af ag ah am aJ aW be bJ; (try clear hb); (try clear hb2); (try clear hk); (try clear hi); (try clear aR); obtain ⟨D9, CR, yB⟩ := Kd.bm afg.out; subst yB))
    go_ret2
    exact ⟨by first | rfl | (simp [bY, bX] <;> rfl) | (simp [*, bY, bX] <;> rfl), by repeat (first | (with_reducible first | exact HB.out | apply aQ | apply aY | apply aT | refine ao ?_ wA.out | refine ao ?_ zB.out | refine ao ?_ xh.out | refine ao ?_ wd.out) | exact HB.out)⟩
   ·rw [if_neg dO] at H
    have k6 : (AV == 0) = false := beq_eq_false_iff_ne.mpr dO
    have rL : (AV != 0) = true := bne_iff_ne.mpr dO
    (first | rw [k6] | rw [rL] | (simp only [gY, gX]; first | rw [k6] | rw [rL]) | skip)
    simp only [Option.some.injEq, Prod.mk.injEq] at H
    obtain ⟨rfl, rfl⟩ := H
    go_wp2
    go_ret2
    exact ⟨by first | rfl | (simp [bY, bX] <;> rfl) | (simp [*, bY, bX] <;> rfl), by repeat (first | (with_reducible first | exact HB.out | apply aQ | apply aY | apply aT | refine ao ?_ wA.out | refine ao ?_ zB.out | refine ao ?_ xh.out | refine ao ?_ wd.out) | exact HB.out)⟩
  ·rw [if_neg c8] at H
   have kc : (AH == 0) = false := beq_eq_false_iff_ne.mpr c8
   have mz : (AH != 0) = true := bne_iff_ne.mpr c8
   (first | rw [kc] | rw [mz] | (simp only [gY, gX]; first | rw [kc] | rw [mz]) | skip)
   simp only [Option.some.injEq, Prod.mk.injEq] at H
   obtain ⟨rfl, rfl⟩ := H
   go_wp2
   go_ret2
   exact ⟨by first | rfl | (simp [bY, bX] <;> rfl) | (simp [*, bY, bX] <;> rfl), by repeat (first | (with_reducible first | exact HB.out | apply aQ | apply aY | apply aT | refine ao ?_ wA.out | refine ao ?_ zB.out | refine ao ?_ xh.out | refine ao ?_ wd.out) | exact HB.out)⟩
 ·rw [if_neg c6] at H
  have gJ : (qJ == 0) = false := beq_eq_false_iff_ne.mpr c6
  have pY : (qJ != 0) = true := bne_iff_ne.mpr c6
  (first | rw [gJ] | rw [pY] | (simp only [gY, gX]; first | rw [gJ] | rw [pY]) | skip)
  simp only [Option.some.injEq, Prod.mk.injEq] at H
  obtain ⟨rfl, rfl⟩ := H
  go_wp2
  go_ret2
  exact ⟨by first | rfl | (simp [bY, bX] <;> rfl) | (simp [*, bY, bX] <;> rfl), by repeat (first | (with_reducible first | exact HB.out | apply aQ | apply aY | apply aT | refine ao ?_ wA.out | refine ao ?_ zB.out | refine ao ?_ xh.out | refine ao ?_ wd.out) | exact HB.out)⟩
def uo.f (k : Nat) (aE : Int) (aA : ByteArray) (ay : List ByteArray) (au : List (aX)) (ew : Int) (eH : ByteArray) (dI : List ByteArray) (dF : List (aX)) (ev : Int) (eC : ByteArray) (dG : List ByteArray) (dJ : List (aX)) (dz : List Int) (dy : List Int) (dX : List Int) (fj : Int) : Option (Bool) := (oA.f k aE aA ay au ew eH dI dF ev eC dG dJ dz dy dX fj).bind fun EU => (if EU = true then ((j6.f aE aA ay au ew eH dI dF ev eC dG dJ dz dy dX fj).bind fun uR => ((oS.f k aE aA ay au ew eH dI dF ev eC dG dJ dz dy dX fj).bind fun vn => (if (uR.1 == vn.1) = true then (if uR.2 = vn.2 then ((lQ.f).bind fun uf => (some uf)) else (some false)) else (some false)))) else ((lQ.f).bind fun yk => (some yk)))
theorem uo.mono : ∀ a0 a1 a2 a3 a4 a5 a6 a7 a8 a9 mq mj a12 o4 o6 pb k, aI (uo.f k a0 a1 a2 a3 a4 a5 a6 a7 a8 a9 mq mj a12 o4 o6 pb) (uo.f (k + 1) a0 a1 a2 a3 a4 a5 a6 a7 a8 a9 mq mj a12 o4 o6 pb) := by
 intro a0 a1 a2 a3 a4 a5 a6 a7 a8 a9 mq mj a12 o4 o6 pb k
 unfold uo.f
 repeat' first
   | (with_reducible exact oA.mono _ _ _ _ _ _ _ _ _ _ _ _ _ _ _ _ _)
   | (with_reducible exact oS.mono _ _ _ _ _ _ _ _ _ _ _ _ _ _ _ _ _)
   | (with_reducible exact aI.refl _)
   | (with_reducible exact aI.none _)
   | (with_reducible refine aI.ite ?_ ?_)
   | (with_reducible refine aI.bind ?_ (fun _ => ?_))
set_option maxHeartbeats 8000000 in
set_option maxRecDepth 100000 in
theorem uo.calls (k : Nat) (aE : Int) (aA : ByteArray) (bB : Option Addr) (bA : Nat) (ay : List ByteArray) (br : Option Addr) (bq : Nat) (au : List (aX)) (ew : Int) (eH : ByteArray) (iH : Option Addr) (iq : Nat) (dI : List ByteArray) (iF : Option Addr) (iI : Nat) (dF : List (aX)) (ev : Int) (eC : ByteArray) (iC : Option Addr) (iD : Nat) (dG : List ByteArray) (il : Option Addr) (io : Nat) (dJ : List (aX)) (iw : Option Addr) (im : Nat) (dz : List Int) (iG : Option Addr) (iA : Nat) (dy : List Int) (iJ : Option Addr) (iu : Nat) (dX : List Int) (fj : Int) (r : Bool) (w : World) (fZ : Kd.C Kd.string w bB ay.length ay) (gg : ay.length ≤ bA) (fC : Kd.C k25 w br au.length au) (fL : au.length ≤ bq) (Cl : Kd.C Kd.string w iH dI.length dI) (Di : dI.length ≤ iq) (Dt : Kd.C k25 w iF dF.length dF) (Cm : dF.length ≤ iI) (FO : Kd.C Kd.string w iC dG.length dG) (Da : dG.length ≤ iD) (F4 : Kd.C k25 w il dJ.length dJ) (D4 : dJ.length ≤ io) (EH : Kd.C (Kd.int .i64) w iw dz.length dz) (Dc : dz.length ≤ im) (F8 : Kd.C (Kd.int .i64) w iG dy.length dy) (Dy : dy.length ≤ iA) (Ho : Kd.C (Kd.int .i64) w iJ dX.length dX) (FD : dX.length ≤ iu) (h : uo.f k aE aA ay au ew eH dI dF ev eC dG dJ dz dy dX fj = some r) :
  Calls Try.prog 5 #[.agg #[.int .i64 aE, .string aA, .slice bB ay.length bA, .slice br au.length bq, .int .i64 ew, .string eH, .slice iH dI.length iq, .slice iF dF.length iI, .int .i64 ev, .string eC, .slice iC dG.length iD, .slice il dJ.length io, .slice iw dz.length im, .slice iG dy.length iA, .slice iJ dX.length iu, .int .i64 fj]] w fun e w' => e = .returned (.bool r) ∧ Below w.heap.size w w' := by
 have aeR := Try.underlying42
 have nR := Try.underlying25
 have Ld := Try.underlying40
 have fU := ae.mk fZ
 have gm := ae.mk gg
 clear fZ gg
 have fm := ae.mk fC
 have f_ := ae.mk fL
 clear fC fL
 have nT := ae.mk Cl
 have n9 := ae.mk Di
 clear Cl Di
 have oh := ae.mk Dt
 have n_ := ae.mk Cm
 clear Dt Cm
 have oR := ae.mk FO
 have oy := ae.mk Da
 clear FO Da
 have oD := ae.mk F4
 have oQ := ae.mk D4
 clear F4 D4
 have q6 := ae.mk EH
 have rl := ae.mk Dc
 clear EH Dc
 have rb := ae.mk F8
 have rM := ae.mk Dy
 clear F8 Dy
 have qP := ae.mk Ho
 have q8 := ae.mk FD
 clear Ho FD
 have HB := ae.mk (Below.refl w.heap.size w)
 have H : ((oA.f k aE aA ay au ew eH dI dF ev eC dG dJ dz dy dX fj).bind fun EU => (if EU = true then ((j6.f aE aA ay au ew eH dI dF ev eC dG dJ dz dy dX fj).bind fun uR => ((oS.f k aE aA ay au ew eH dI dF ev eC dG dJ dz dy dX fj).bind fun vn => (if (uR.1 == vn.1) = true then (if uR.2 = vn.2 then ((lQ.f).bind fun uf => (some uf)) else (some false)) else (some false)))) else ((lQ.f).bind fun yk => (some yk)))) = some r := h
 clear h
 replace H := Option.bind_eq_some_iff.mp H
 obtain ⟨EU, rE, H⟩ := H
 have A2 := ae.mk rE
 clear rE
 by_cases c3 : EU = true
 ·subst c3
  have H1 : ((j6.f aE aA ay au ew eH dI dF ev eC dG dJ dz dy dX fj).bind fun uR => ((oS.f k aE aA ay au ew eH dI dF ev eC dG dJ dz dy dX fj).bind fun vn => (if (uR.1 == vn.1) = true then (if uR.2 = vn.2 then ((lQ.f).bind fun uf => (some uf)) else (some false)) else (some false)))) = some r := by rw [if_pos rfl] at H; exact H
  clear H
  have H := H1
  clear H1
  replace H := Option.bind_eq_some_iff.mp H
  obtain ⟨⟨rg, uy⟩, rx, H⟩ := H
  dsimp only at H
  have A4 := ae.mk rx
  clear rx
  replace H := Option.bind_eq_some_iff.mp H
  obtain ⟨⟨qT, sm⟩, lW, H⟩ := H
  dsimp only at H
  have A5 := ae.mk lW
  clear lW
  by_cases c6 : (rg == qT) = true
  ·rw [if_pos c6] at H
   have gJ : (rg == qT) = true := c6
   (try (have pY : decide (rg = qT) = true := by simpa using c6))
   (try (have ajG : (rg == qT) = true := by simpa using c6))
   clear c6
   by_cases c7 : uy = sm
   ·rw [if_pos c7] at H
    have q' : (uy == sm) = true := beq_iff_eq.mpr c7
    have Ms : (uy != sm) = false := bne_eq_false_iff_eq.mpr c7
    clear c7
    replace H := Option.bind_eq_some_iff.mp H
    obtain ⟨uf, mM, H⟩ := H
    have A8 := ae.mk mM
    clear mM
    obtain rfl := Option.some.inj H
    go_enter Try.func5, Try.ntmps5
    go_wp2_with (first | ((with_reducible refine bz (N := 1) rfl ?_); refine bT ?hg (N := 1) ?hd (cs := #[.int .i64 aE, .string aA, .slice bB ay.length bA, .slice br au.length bq, .int .i64 ew, .string eH, .slice iH dI.length iq, .slice iF dF.length iI, .int .i64 ev, .string eC, .slice iC dG.length iD, .slice il dJ.length io, .slice iw dz.length im, .slice iG dy.length iA, .slice iJ dX.length iu, .int .i64 fj]) (t := 42) ?hr ?_; (case hd => rfl); (case hg => rfl); (case hr => first | (go_simp; done) | (go_simp; rfl) | (obtain ⟨_, _, rfl⟩ := Kd.bm (ae.out (by assumption : ae (Kd.R _ _ _ _ _ _ _))); go_simp; done)); intro OH hg w9 av hb; have af := bn HB hb; have ag := ae.mk (av); have ah := bK HB hg; have am := bK HB hg; clear HB; have HB := af; have eS := ag; have PH := ah; have xx := am; clear af ag ah am; clear hb av hg; obtain ⟨E9, F7, Hz, Jh, Hw, auV, am2, asD, ark, atc, aqm, ayh, auR, aoA, anR, akV, Dq, E4, KV, Kx, KQ, aup, awK, au0, arz, amn, amF, aqi, axN, atx, awP, akY⟩ := i' eS) | ((with_reducible refine dD (f := 16) rfl ?_); refine dC (some 8) rfl rfl Try.func16 (by kernel_rfl) rfl #[.agg #[.int .i64 aE, .string aA, .slice bB ay.length bA, .slice br au.length bq, .int .i64 ew, .string eH, .slice iH dI.length iq, .slice iF dF.length iI, .int .i64 ev, .string eC, .slice iC dG.length iD, .slice il dJ.length io, .slice iw dz.length im, .slice iG dy.length iA, .slice iJ dX.length iu, .int .i64 fj]] rfl MX ?_; (with_reducible refine (oA.calls k aE aA _ _ ay _ _ au ew eH _ _ dI _ _ dF ev eC _ _ dG _ _ dJ _ _ dz _ _ dy _ _ dX fj true _ ?aH ?aG ?bt ?bv ?cX ?cW ?fE ?fS ?fN ?fI ?fJ ?fF ?jW ?jR ?jV ?jP ?jQ ?jU A2.out).mono ?_); (case aH => exact CX (Kd.aC fU.out HB.out)); (case aG => exact gm.out); (case bt => exact CX (Kd.aC fm.out HB.out)); (case bv => exact f_.out); (case cX => exact CX (Kd.aC nT.out HB.out)); (case cW => exact n9.out); (case fE => exact CX (Kd.aC oh.out HB.out)); (case fS => exact n_.out); (case fN => exact CX (Kd.aC oR.out HB.out)); (case fI => exact oy.out); (case fJ => exact CX (Kd.aC oD.out HB.out)); (case fF => exact oQ.out); (case jW => exact CX (Kd.aC q6.out HB.out)); (case jR => exact rl.out); (case jV => exact CX (Kd.aC rb.out HB.out)); (case jP => exact rM.out); (case jQ => exact CX (Kd.aC qP.out HB.out)); (case jU => exact q8.out); rintro e Fj ⟨rfl, hb⟩; refine ⟨_, rfl, ?_⟩; have af := bw eS hb; have ag := bn HB hb; clear eS; clear HB; have eS := af; have HB := ag; clear af ag; (try clear hb); (try clear hb2); (try clear hk); (try clear hi); obtain ⟨asL, akW, as9, ar9, aya, aqe, ape, ak6, atB, anM, ald, aru, alE, axq, aqx, al', auJ, al0, aty, awx, aq8, amm, ari, axJ, at1, asJ, auB, avS, avF, apG, arw, atJ⟩ := i' eS) | ((with_reducible refine dD (f := 17) rfl ?_); refine dC (some 20) rfl rfl Try.func17 (by kernel_rfl) rfl #[.agg #[.int .i64 aE, .string aA, .slice bB ay.length bA, .slice br au.length bq], .agg #[.int .i64 ew, .string eH, .slice iH dI.length iq, .slice iF dF.length iI], .agg #[.int .i64 ev, .string eC, .slice iC dG.length iD, .slice il dJ.length io], .agg #[.slice iw dz.length im, .slice iG dy.length iA, .slice iJ dX.length iu, .int .i64 fj]] rfl MX ?_; (with_reducible refine (j6.calls aE aA _ _ ay _ _ au ew eH _ _ dI _ _ dF ev eC _ _ dG _ _ dJ _ _ dz _ _ dy _ _ dX fj rg uy _ ?aH ?aG ?bt ?bv ?cX ?cW ?fE ?fS ?fN ?fI ?fJ ?fF ?jW ?jR ?jV ?jP ?jQ ?jU A4.out).mono ?_); (case aH => exact CX (Kd.aC fU.out HB.out)); (case aG => exact gm.out); (case bt => exact CX (Kd.aC fm.out HB.out)); (case bv => exact f_.out); (case cX => exact CX (Kd.aC nT.out HB.out)); (case cW => exact n9.out); (case fE => exact CX (Kd.aC oh.out HB.out)); (case fS => exact n_.out); (case fN => exact CX (Kd.aC oR.out HB.out)); (case fI => exact oy.out); (case fJ => exact CX (Kd.aC oD.out HB.out)); (case fF => exact oQ.out); (case jW => exact CX (Kd.aC q6.out HB.out)); (case jR => exact rl.out); (case jV => exact CX (Kd.aC rb.out HB.out)); (case jP => exact rM.out); (case jQ => exact CX (Kd.aC qP.out HB.out)); (case jU => exact q8.out); rintro e DG ⟨rfl, hb⟩; refine ⟨_, rfl, ?_⟩; have af := bw eS hb; have ag := bn HB hb; clear eS; clear HB; have eS := af; have HB := ag; clear af ag; (try clear hb); (try clear hb2); (try clear hk); (try clear hi); obtain ⟨FF, G', If, Jk, ao5, aqP, ao6, akF, alC, arK, aqv, aog, alJ, alh, alP, al1, DH, EI, KE, KG, am3, aqS, ao2, aqg, aoa, aqE, arG, ate, au7, axZ, atv, aq5⟩ := i' eS) | ((with_reducible refine dD (f := 18) rfl ?_); refine dC (some 32) rfl rfl Try.func18 (by kernel_rfl) rfl #[.agg #[.int .i64 aE, .string aA, .slice bB ay.length bA, .slice br au.length bq], .agg #[.int .i64 ew, .string eH, .slice iH dI.length iq, .slice iF dF.length iI], .agg #[.int .i64 ev, .string eC, .slice iC dG.length iD, .slice il dJ.length io], .agg #[.slice iw dz.length im, .slice iG dy.length iA, .slice iJ dX.length iu, .int .i64 fj]] rfl MX ?_; (with_reducible refine (oS.calls k aE aA _ _ ay _ _ au ew eH _ _ dI _ _ dF ev eC _ _ dG _ _ dJ _ _ dz _ _ dy _ _ dX fj qT sm _ ?aH ?aG ?bt ?bv ?cX ?cW ?fE ?fS ?fN ?fI ?fJ ?fF ?jW ?jR ?jV ?jP ?jQ ?jU A5.out).mono ?_); (case aH => exact CX (Kd.aC fU.out HB.out)); (case aG => exact gm.out); (case bt => exact CX (Kd.aC fm.out HB.out)); (case bv => exact f_.out); (case cX => exact CX (Kd.aC nT.out HB.out)); (case cW => exact n9.out); (case fE => exact CX (Kd.aC oh.out HB.out)); (case fS => exact n_.out); (case fN => exact CX (Kd.aC oR.out HB.out)); (case fI => exact oy.out); (case fJ => exact CX (Kd.aC oD.out HB.out)); (case fF => exact oQ.out); (case jW => exact CX (Kd.aC q6.out HB.out)); (case jR => exact rl.out); (case jV => exact CX (Kd.aC rb.out HB.out)); (case jP => exact rM.out); (case jQ => exact CX (Kd.aC qP.out HB.out)); (case jU => exact q8.out); rintro e ug ⟨rfl, hb⟩; refine ⟨_, rfl, ?_⟩; have af := bw eS hb; have ag := bn HB hb; clear eS; clear HB; have eS := af; have HB := ag; clear af ag; (try clear hb); (try clear hb2); (try clear hk); (try clear hi)) | (go_at_call 9; (with_reducible refine (lQ.calls  uf _ A8.out).mono ?_); rintro e VN ⟨rfl, hb⟩; have af := bw eS hb; have ag := bn HB hb; clear eS; clear HB; have eS := af; have HB := ag; clear af ag; (try clear hb); (try clear hb2); (try clear hk); (try clear hi)))
    go_ret
    exact ⟨by first | rfl | (simp [bY, bX] <;> rfl) | (simp [*, bY, bX] <;> rfl), by repeat (first | (with_reducible first | exact HB.out | apply aQ | apply aY | apply aT | refine ao ?_ xx.out) | exact HB.out)⟩
   ·rw [if_neg c7] at H
    have q' : (uy == sm) = false := beq_eq_false_iff_ne.mpr c7
    have Ms : (uy != sm) = true := bne_iff_ne.mpr c7
    obtain rfl := Option.some.inj H
    go_enter Try.func5, Try.ntmps5
    go_wp2_with (first | ((with_reducible refine bz (N := 1) rfl ?_); refine bT ?hg (N := 1) ?hd (cs := #[.int .i64 aE, .string aA, .slice bB ay.length bA, .slice br au.length bq, .int .i64 ew, .string eH, .slice iH dI.length iq, .slice iF dF.length iI, .int .i64 ev, .string eC, .slice iC dG.length iD, .slice il dJ.length io, .slice iw dz.length im, .slice iG dy.length iA, .slice iJ dX.length iu, .int .i64 fj]) (t := 42) ?hr ?_; (case hd => rfl); (case hg => rfl); (case hr => first | (go_simp; done) | (go_simp; rfl) | (obtain ⟨_, _, rfl⟩ := Kd.bm (ae.out (by assumption : ae (Kd.R _ _ _ _ _ _ _))); go_simp; done)); intro OH hg Qu av hb; have af := bn HB hb; have ag := ae.mk (av); have ah := bK HB hg; have am := bK HB hg; clear HB; have HB := af; have eS := ag; have PH := ah; have xx := am; clear af ag ah am; clear hb av hg; obtain ⟨Zh, ahf, ajq, afW, asM, asG, arH, aqh, aus, ars, avl, ams, av3, an4, alO, atQ, Zl, adA, abV, aeG, aqZ, atX, alo, ayj, axI, al6, av6, at2, awq, av_, ao9, ant⟩ := i' eS) | ((with_reducible refine dD (f := 16) rfl ?_); refine dC (some 8) rfl rfl Try.func16 (by kernel_rfl) rfl #[.agg #[.int .i64 aE, .string aA, .slice bB ay.length bA, .slice br au.length bq, .int .i64 ew, .string eH, .slice iH dI.length iq, .slice iF dF.length iI, .int .i64 ev, .string eC, .slice iC dG.length iD, .slice il dJ.length io, .slice iw dz.length im, .slice iG dy.length iA, .slice iJ dX.length iu, .int .i64 fj]] rfl MX ?_; (with_reducible refine (oA.calls k aE aA _ _ ay _ _ au ew eH _ _ dI _ _ dF ev eC _ _ dG _ _ dJ _ _ dz _ _ dy _ _ dX fj true _ ?aH ?aG ?bt ?bv ?cX ?cW ?fE ?fS ?fN ?fI ?fJ ?fF ?jW ?jR ?jV ?jP ?jQ ?jU A2.out).mono ?_); (case aH => exact CX (Kd.aC fU.out HB.out)); (case aG => exact gm.out); (case bt => exact CX (Kd.aC fm.out HB.out)); (case bv => exact f_.out); (case cX => exact CX (Kd.aC nT.out HB.out)); (case cW => exact n9.out); (case fE => exact CX (Kd.aC oh.out HB.out)); (case fS => exact n_.out); (case fN => exact CX (Kd.aC oR.out HB.out)); (case fI => exact oy.out); (case fJ => exact CX (Kd.aC oD.out HB.out)); (case fF => exact oQ.out); (case jW => exact CX (Kd.aC q6.out HB.out)); (case jR => exact rl.out); (case jV => exact CX (Kd.aC rb.out HB.out)); (case jP => exact rM.out); (case jQ => exact CX (Kd.aC qP.out HB.out)); (case jU => exact q8.out); rintro e w19 ⟨rfl, hb⟩; refine ⟨_, rfl, ?_⟩; have af := bw eS hb; have ag := bn HB hb; clear eS; clear HB; have eS := af; have HB := ag; clear af ag; (try clear hb); (try clear hb2); (try clear hk); (try clear hi); obtain ⟨s_, tc, wJ, yY, aiA, avT, awH, axY, apo, atg, anz, av8, ap7, amv, am1, apX, tb, ut, zk, xl, abA, awL, amS, auq, as0, apN, anB, at7, anY, amN, ard, an8⟩ := i' eS) | ((with_reducible refine dD (f := 17) rfl ?_); refine dC (some 20) rfl rfl Try.func17 (by kernel_rfl) rfl #[.agg #[.int .i64 aE, .string aA, .slice bB ay.length bA, .slice br au.length bq], .agg #[.int .i64 ew, .string eH, .slice iH dI.length iq, .slice iF dF.length iI], .agg #[.int .i64 ev, .string eC, .slice iC dG.length iD, .slice il dJ.length io], .agg #[.slice iw dz.length im, .slice iG dy.length iA, .slice iJ dX.length iu, .int .i64 fj]] rfl MX ?_; (with_reducible refine (j6.calls aE aA _ _ ay _ _ au ew eH _ _ dI _ _ dF ev eC _ _ dG _ _ dJ _ _ dz _ _ dy _ _ dX fj rg uy _ ?aH ?aG ?bt ?bv ?cX ?cW ?fE ?fS ?fN ?fI ?fJ ?fF ?jW ?jR ?jV ?jP ?jQ ?jU A4.out).mono ?_); (case aH => exact CX (Kd.aC fU.out HB.out)); (case aG => exact gm.out); (case bt => exact CX (Kd.aC fm.out HB.out)); (case bv => exact f_.out); (case cX => exact CX (Kd.aC nT.out HB.out)); (case cW => exact n9.out); (case fE => exact CX (Kd.aC oh.out HB.out)); (case fS => exact n_.out); (case fN => exact CX (Kd.aC oR.out HB.out)); (case fI => exact oy.out); (case fJ => exact CX (Kd.aC oD.out HB.out)); (case fF => exact oQ.out); (case jW => exact CX (Kd.aC q6.out HB.out)); (case jR => exact rl.out); (case jV => exact CX (Kd.aC rb.out HB.out)); (case jP => exact rM.out); (case jQ => exact CX (Kd.aC qP.out HB.out)); (case jU => exact q8.out); rintro e Ez ⟨rfl, hb⟩; refine ⟨_, rfl, ?_⟩; have af := bw eS hb; have ag := bn HB hb; clear eS; clear HB; have eS := af; have HB := ag; clear af ag; (try clear hb); (try clear hb2); (try clear hk); (try clear hi); obtain ⟨M1, Qa, Ox, QH, amc, anN, avG, axC, apU, asd, ayq, anF, atG, av9, au', axG, Lu, Se, Mu, QP, akQ, avq, amd, alV, ato, anl, asV, aob, alX, aoG, apr, akJ⟩ := i' eS) | ((with_reducible refine dD (f := 18) rfl ?_); refine dC (some 32) rfl rfl Try.func18 (by kernel_rfl) rfl #[.agg #[.int .i64 aE, .string aA, .slice bB ay.length bA, .slice br au.length bq], .agg #[.int .i64 ew, .string eH, .slice iH dI.length iq, .slice iF dF.length iI], .agg #[.int .i64 ev, .string eC, .slice iC dG.length iD, .slice il dJ.length io], .agg #[.slice iw dz.length im, .slice iG dy.length iA, .slice iJ dX.length iu, .int .i64 fj]] rfl MX ?_; (with_reducible refine (oS.calls k aE aA _ _ ay _ _ au ew eH _ _ dI _ _ dF ev eC _ _ dG _ _ dJ _ _ dz _ _ dy _ _ dX fj qT sm _ ?aH ?aG ?bt ?bv ?cX ?cW ?fE ?fS ?fN ?fI ?fJ ?fF ?jW ?jR ?jV ?jP ?jQ ?jU A5.out).mono ?_); (case aH => exact CX (Kd.aC fU.out HB.out)); (case aG => exact gm.out); (case bt => exact CX (Kd.aC fm.out HB.out)); (case bv => exact f_.out); (case cX => exact CX (Kd.aC nT.out HB.out)); (case cW => exact n9.out); (case fE => exact CX (Kd.aC oh.out HB.out)); (case fS => exact n_.out); (case fN => exact CX (Kd.aC oR.out HB.out)); (case fI => exact oy.out); (case fJ => exact CX (Kd.aC oD.out HB.out)); (case fF => exact oQ.out); (case jW => exact CX (Kd.aC q6.out HB.out)); (case jR => exact rl.out); (case jV => exact CX (Kd.aC rb.out HB.out)); (case jP => exact rM.out); (case jQ => exact CX (Kd.aC qP.out HB.out)); (case jU => exact q8.out); rintro e VP ⟨rfl, hb⟩; refine ⟨_, rfl, ?_⟩; have af := bw eS hb; have ag := bn HB hb; clear eS; clear HB; have eS := af; have HB := ag; clear af ag; (try clear hb); (try clear hb2); (try clear hk); (try clear hi)))
    go_ret
    exact ⟨by first | rfl | (simp [bY, bX] <;> rfl) | (simp [*, bY, bX] <;> rfl), by repeat (first | (with_reducible first | exact HB.out | apply aQ | apply aY | apply aT | refine ao ?_ xx.out) | exact HB.out)⟩
  ·rw [if_neg c6] at H
   have gJ : (rg == qT) = false := by simpa using c6
   (try (have pY : decide (rg = qT) = false := by simpa using c6))
   (try (have ajG : (rg == qT) = false := by simpa using c6))
   (try (have ao0 : ¬ (rg = qT) := by simpa using c6))
   clear c6
   obtain rfl := Option.some.inj H
   go_enter Try.func5, Try.ntmps5
   go_wp2_with (first | ((with_reducible refine bz (N := 1) rfl ?_); refine bT ?hg (N := 1) ?hd (cs := #[.int .i64 aE, .string aA, .slice bB ay.length bA, .slice br au.length bq, .int .i64 ew, .string eH, .slice iH dI.length iq, .slice iF dF.length iI, .int .i64 ev, .string eC, .slice iC dG.length iD, .slice il dJ.length io, .slice iw dz.length im, .slice iG dy.length iA, .slice iJ dX.length iu, .int .i64 fj]) (t := 42) ?hr ?_; (case hd => rfl); (case hg => rfl); (case hr => first | (go_simp; done) | (go_simp; rfl) | (obtain ⟨_, _, rfl⟩ := Kd.bm (ae.out (by assumption : ae (Kd.R _ _ _ _ _ _ _))); go_simp; done)); intro OH hg Uv av hb; have af := bn HB hb; have ag := ae.mk (av); have ah := bK HB hg; have am := bK HB hg; clear HB; have HB := af; have eS := ag; have PH := ah; have xx := am; clear af ag ah am; clear hb av hg; obtain ⟨IC, Ib, Qq, P3, aks, ZT, aa7, adP, ahW, Zm, adp, ZP, agF, ad8, ahh, ahR, Ht, K7, PY, Pg, adu, adM, ai4, aeb, ahw, ae2, agu, acQ, aic, abT, afd, ajx⟩ := i' eS) | ((with_reducible refine dD (f := 16) rfl ?_); refine dC (some 8) rfl rfl Try.func16 (by kernel_rfl) rfl #[.agg #[.int .i64 aE, .string aA, .slice bB ay.length bA, .slice br au.length bq, .int .i64 ew, .string eH, .slice iH dI.length iq, .slice iF dF.length iI, .int .i64 ev, .string eC, .slice iC dG.length iD, .slice il dJ.length io, .slice iw dz.length im, .slice iG dy.length iA, .slice iJ dX.length iu, .int .i64 fj]] rfl MX ?_; (with_reducible refine (oA.calls k aE aA _ _ ay _ _ au ew eH _ _ dI _ _ dF ev eC _ _ dG _ _ dJ _ _ dz _ _ dy _ _ dX fj true _ ?aH ?aG ?bt ?bv ?cX ?cW ?fE ?fS ?fN ?fI ?fJ ?fF ?jW ?jR ?jV ?jP ?jQ ?jU A2.out).mono ?_); (case aH => exact CX (Kd.aC fU.out HB.out)); (case aG => exact gm.out); (case bt => exact CX (Kd.aC fm.out HB.out)); (case bv => exact f_.out); (case cX => exact CX (Kd.aC nT.out HB.out)); (case cW => exact n9.out); (case fE => exact CX (Kd.aC oh.out HB.out)); (case fS => exact n_.out); (case fN => exact CX (Kd.aC oR.out HB.out)); (case fI => exact oy.out); (case fJ => exact CX (Kd.aC oD.out HB.out)); (case fF => exact oQ.out); (case jW => exact CX (Kd.aC q6.out HB.out)); (case jR => exact rl.out); (case jV => exact CX (Kd.aC rb.out HB.out)); (case jP => exact rM.out); (case jQ => exact CX (Kd.aC qP.out HB.out)); (case jU => exact q8.out); rintro e O3 ⟨rfl, hb⟩; refine ⟨_, rfl, ?_⟩; have af := bw eS hb; have ag := bn HB hb; clear eS; clear HB; have eS := af; have HB := ag; clear af ag; (try clear hb); (try clear hb2); (try clear hk); (try clear hi); obtain ⟨Ic, Kz, QE, Nr, Zk, akt, aaB, ZE, agO, ajd, ag9, ZJ, aht, aki, ahn, akB, J7, Jw, Ss, P9, agd, ahF, ac3, ZO, aci, ac5, ai_, ajA, aiD, ab3, aad, agj⟩ := i' eS) | ((with_reducible refine dD (f := 17) rfl ?_); refine dC (some 20) rfl rfl Try.func17 (by kernel_rfl) rfl #[.agg #[.int .i64 aE, .string aA, .slice bB ay.length bA, .slice br au.length bq], .agg #[.int .i64 ew, .string eH, .slice iH dI.length iq, .slice iF dF.length iI], .agg #[.int .i64 ev, .string eC, .slice iC dG.length iD, .slice il dJ.length io], .agg #[.slice iw dz.length im, .slice iG dy.length iA, .slice iJ dX.length iu, .int .i64 fj]] rfl MX ?_; (with_reducible refine (j6.calls aE aA _ _ ay _ _ au ew eH _ _ dI _ _ dF ev eC _ _ dG _ _ dJ _ _ dz _ _ dy _ _ dX fj rg uy _ ?aH ?aG ?bt ?bv ?cX ?cW ?fE ?fS ?fN ?fI ?fJ ?fF ?jW ?jR ?jV ?jP ?jQ ?jU A4.out).mono ?_); (case aH => exact CX (Kd.aC fU.out HB.out)); (case aG => exact gm.out); (case bt => exact CX (Kd.aC fm.out HB.out)); (case bv => exact f_.out); (case cX => exact CX (Kd.aC nT.out HB.out)); (case cW => exact n9.out); (case fE => exact CX (Kd.aC oh.out HB.out)); (case fS => exact n_.out); (case fN => exact CX (Kd.aC oR.out HB.out)); (case fI => exact oy.out); (case fJ => exact CX (Kd.aC oD.out HB.out)); (case fF => exact oQ.out); (case jW => exact CX (Kd.aC q6.out HB.out)); (case jR => exact rl.out); (case jV => exact CX (Kd.aC rb.out HB.out)); (case jP => exact rM.out); (case jQ => exact CX (Kd.aC qP.out HB.out)); (case jU => exact q8.out); rintro e uC ⟨rfl, hb⟩; refine ⟨_, rfl, ?_⟩; have af := bw eS hb; have ag := bn HB hb; clear eS; clear HB; have eS := af; have HB := ag; clear af ag; (try clear hb); (try clear hb2); (try clear hk); (try clear hi); obtain ⟨MO, Nt, Mz, P_, afk, aiU, ad5, afx, afa, aeS, ab_, aiX, ad4, ahj, ai9, ac8, Og, Ob, Rk, Mv, aek, aar, afA, afm, ad_, ahD, ahZ, aaT, ajC, abf, ahi, af_⟩ := i' eS) | ((with_reducible refine dD (f := 18) rfl ?_); refine dC (some 32) rfl rfl Try.func18 (by kernel_rfl) rfl #[.agg #[.int .i64 aE, .string aA, .slice bB ay.length bA, .slice br au.length bq], .agg #[.int .i64 ew, .string eH, .slice iH dI.length iq, .slice iF dF.length iI], .agg #[.int .i64 ev, .string eC, .slice iC dG.length iD, .slice il dJ.length io], .agg #[.slice iw dz.length im, .slice iG dy.length iA, .slice iJ dX.length iu, .int .i64 fj]] rfl MX ?_; (with_reducible refine (oS.calls k aE aA _ _ ay _ _ au ew eH _ _ dI _ _ dF ev eC _ _ dG _ _ dJ _ _ dz _ _ dy _ _ dX fj qT sm _ ?aH ?aG ?bt ?bv ?cX ?cW ?fE ?fS ?fN ?fI ?fJ ?fF ?jW ?jR ?jV ?jP ?jQ ?jU A5.out).mono ?_); (case aH => exact CX (Kd.aC fU.out HB.out)); (case aG => exact gm.out); (case bt => exact CX (Kd.aC fm.out HB.out)); (case bv => exact f_.out); (case cX => exact CX (Kd.aC nT.out HB.out)); (case cW => exact n9.out); (case fE => exact CX (Kd.aC oh.out HB.out)); (case fS => exact n_.out); (case fN => exact CX (Kd.aC oR.out HB.out)); (case fI => exact oy.out); (case fJ => exact CX (Kd.aC oD.out HB.out)); (case fF => exact oQ.out); (case jW => exact CX (Kd.aC q6.out HB.out)); (case jR => exact rl.out); (case jV => exact CX (Kd.aC rb.out HB.out)); (case jP => exact rM.out); (case jQ => exact CX (Kd.aC qP.out HB.out)); (case jU => exact q8.out); rintro e Kh ⟨rfl, hb⟩; refine ⟨_, rfl, ?_⟩; have af := bw eS hb; have ag := bn HB hb; clear eS; clear HB; have eS := af; have HB := ag; clear af ag; (try clear hb); (try clear hb2); (try clear hk); (try clear hi)))
   go_ret
   exact ⟨by first | rfl | (simp [bY, bX] <;> rfl) | (simp [*, bY, bX] <;> rfl), by repeat (first | (with_reducible first | exact HB.out | apply aQ | apply aY | apply aT | refine ao ?_ xx.out) | exact HB.out)⟩
 ·replace c3 := Bool.eq_false_iff.mpr c3
  subst c3
  have H1 : ((lQ.f).bind fun yk => (some yk)) = some r := by rw [if_neg (show ¬ (false = true) by decide)] at H; exact H
  clear H
  have H := H1
  clear H1
  replace H := Option.bind_eq_some_iff.mp H
  obtain ⟨yk, CJ, H⟩ := H
  have Mg := ae.mk CJ
  clear CJ
  obtain rfl := Option.some.inj H
  go_enter Try.func5, Try.ntmps5
  go_wp2_with (first | ((with_reducible refine bz (N := 1) rfl ?_); refine bT ?hg (N := 1) ?hd (cs := #[.int .i64 aE, .string aA, .slice bB ay.length bA, .slice br au.length bq, .int .i64 ew, .string eH, .slice iH dI.length iq, .slice iF dF.length iI, .int .i64 ev, .string eC, .slice iC dG.length iD, .slice il dJ.length io, .slice iw dz.length im, .slice iG dy.length iA, .slice iJ dX.length iu, .int .i64 fj]) (t := 42) ?hr ?_; (case hd => rfl); (case hg => rfl); (case hr => first | (go_simp; done) | (go_simp; rfl) | (obtain ⟨_, _, rfl⟩ := Kd.bm (ae.out (by assumption : ae (Kd.R _ _ _ _ _ _ _))); go_simp; done)); intro OH hg Cf av hb; have af := bn HB hb; have ag := ae.mk (av); have ah := bK HB hg; have am := bK HB hg; clear HB; have HB := af; have eS := ag; have PH := ah; have xx := am; clear af ag ah am; clear hb av hg; obtain ⟨vD, uY, u0, u6, aiM, agP, abR, abl, aeY, aeC, aa1, ajj, aju, ahE, ahK, aaU, vP, uT, vA, vT, af', adL, Zq, air, aej, akv, agc, Z6, agS, ahO, ajy, akA⟩ := i' eS) | ((with_reducible refine dD (f := 16) rfl ?_); refine dC (some 8) rfl rfl Try.func16 (by kernel_rfl) rfl #[.agg #[.int .i64 aE, .string aA, .slice bB ay.length bA, .slice br au.length bq, .int .i64 ew, .string eH, .slice iH dI.length iq, .slice iF dF.length iI, .int .i64 ev, .string eC, .slice iC dG.length iD, .slice il dJ.length io, .slice iw dz.length im, .slice iG dy.length iA, .slice iJ dX.length iu, .int .i64 fj]] rfl MX ?_; (with_reducible refine (oA.calls k aE aA _ _ ay _ _ au ew eH _ _ dI _ _ dF ev eC _ _ dG _ _ dJ _ _ dz _ _ dy _ _ dX fj false _ ?aH ?aG ?bt ?bv ?cX ?cW ?fE ?fS ?fN ?fI ?fJ ?fF ?jW ?jR ?jV ?jP ?jQ ?jU A2.out).mono ?_); (case aH => exact CX (Kd.aC fU.out HB.out)); (case aG => exact gm.out); (case bt => exact CX (Kd.aC fm.out HB.out)); (case bv => exact f_.out); (case cX => exact CX (Kd.aC nT.out HB.out)); (case cW => exact n9.out); (case fE => exact CX (Kd.aC oh.out HB.out)); (case fS => exact n_.out); (case fN => exact CX (Kd.aC oR.out HB.out)); (case fI => exact oy.out); (case fJ => exact CX (Kd.aC oD.out HB.out)); (case fF => exact oQ.out); (case jW => exact CX (Kd.aC q6.out HB.out)); (case jR => exact rl.out); (case jV => exact CX (Kd.aC rb.out HB.out)); (case jP => exact rM.out); (case jQ => exact CX (Kd.aC qP.out HB.out)); (case jU => exact q8.out); rintro e Ky ⟨rfl, hb⟩; refine ⟨_, rfl, ?_⟩; have af := bw eS hb; have ag := bn HB hb; clear eS; clear HB; have eS := af; have HB := ag; clear af ag; (try clear hb); (try clear hb2); (try clear hk); (try clear hi)) | ((with_reducible refine dD (f := 9) rfl ?_); refine dC (some 10) rfl rfl Try.func9 (by kernel_rfl) rfl #[] rfl MX ?_; (with_reducible refine (lQ.calls  yk _ Mg.out).mono ?_); rintro e w35 ⟨rfl, hb⟩; refine ⟨_, rfl, ?_⟩; have af := bw eS hb; have ag := bn HB hb; clear eS; clear HB; have eS := af; have HB := ag; clear af ag; (try clear hb); (try clear hb2); (try clear hk); (try clear hi)))
  go_ret
  exact ⟨by first | rfl | (simp [bY, bX] <;> rfl) | (simp [*, bY, bX] <;> rfl), by repeat (first | (with_reducible first | exact HB.out | apply aQ | apply aY | apply aT | refine ao ?_ xx.out) | exact HB.out)⟩
end Go.Proofs.Ytcfjdehpbckomaa.Q
