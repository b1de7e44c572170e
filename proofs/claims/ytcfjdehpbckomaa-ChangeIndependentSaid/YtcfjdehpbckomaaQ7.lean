
import Derived.Test.YtcfjdehpbckomaaQ0
import Derived.Test.YtcfjdehpbckomaaQ1
import Derived.Test.YtcfjdehpbckomaaQ4
import Derived.Test.YtcfjdehpbckomaaQ5
import Derived.Test.YtcfjdehpbckomaaQ6
namespace Go.Proofs.Ytcfjdehpbckomaa.Q
open Go.RowKit Go.Proofs.YtcfjdehpbckomaaW.dS Go.Proofs.YtcfjdehpbckomaaW.jm Go.Proofs.YtcfjdehpbckomaaW.mm
attribute [local go_sem] mU na nt mX m6 nu mP mW
set_option linter.unusedVariables false
set_option linter.unusedSimpArgs false
attribute [local go_sem high] aik
/-! ### treemergelaw31_awake: function 9 -/
def lQ.g  : Option (Bool) := (dx.f (⟨#[102]⟩ : ByteArray) (⟨#[97]⟩ : ByteArray)).bind fun tg => ((dx.f (⟨#[103]⟩ : ByteArray) (⟨#[97]⟩ : ByteArray)).bind fun uh => ((ib.f tg.1 tg.2.1 tg.2.2.1 tg.2.2.2 uh.1 uh.2.1 uh.2.2.1 uh.2.2.2 (([0, 1] : List Int)) (([0, 1] : List Int))).bind fun kG => ((dx.f (⟨#[102]⟩ : ByteArray) (⟨#[97]⟩ : ByteArray)).bind fun mg => ((dx.f (⟨#[102]⟩ : ByteArray) (⟨#[98]⟩ : ByteArray)).bind fun ml => ((ib.f mg.1 mg.2.1 mg.2.2.1 mg.2.2.2 ml.1 ml.2.1 ml.2.2.1 ml.2.2.2 (([0, 1] : List Int)) (([0, 2] : List Int))).bind fun dc => ((dx.f (⟨#[102]⟩ : ByteArray) (⟨#[97]⟩ : ByteArray)).bind fun iX => ((dx.f (⟨#[102]⟩ : ByteArray) (⟨#[98]⟩ : ByteArray)).bind fun iY => ((ib.f iX.1 iX.2.1 iX.2.2.1 iX.2.2.2 iY.1 iY.2.1 iY.2.2.1 iY.2.2.2 (([0, 1] : List Int)) (([0, 0] : List Int))).bind fun ov => ((mf.f (([(⟨3, 4⟩ : aw), (⟨1, 2⟩ : aw)] : List (aw))) (([(⟨1, 5⟩ : aw), (⟨3, 5⟩ : aw)] : List (aw)))).bind fun du => ((dx.f (⟨#[102]⟩ : ByteArray) (⟨#[97]⟩ : ByteArray)).bind fun eQ => ((dx.f (⟨#[103]⟩ : ByteArray) (⟨#[97]⟩ : ByteArray)).bind fun eT => ((dx.f (⟨#[102]⟩ : ByteArray) (⟨#[98]⟩ : ByteArray)).bind fun eO => ((j6.f eQ.1 eQ.2.1 eQ.2.2.1 eQ.2.2.2 eT.1 eT.2.1 eT.2.2.1 eT.2.2.2 eO.1 eO.2.1 eO.2.2.1 eO.2.2.2 (([0, 1] : List Int)) (([0, 1] : List Int)) (([0, 1] : List Int)) 2).bind fun gH => (if kG.2 = 0 then (if (kG.1.length : Int) = 1 then (if 0 < (kG.1.length : Int) then (if (((aq kG.1 0).f0) == 0 && (((aq kG.1 0).f1) == 4)) = true then (if dc.2 = 0 then (if (dc.1.length : Int) = 3 then (if 0 < (dc.1.length : Int) then (if (((aq dc.1 0).f0) == 0 && (((aq dc.1 0).f1) == 6)) = true then (if 1 < (dc.1.length : Int) then (if (((aq dc.1 1).f0) == 1 && (((aq dc.1 1).f1) == 2)) = true then (if 2 < (dc.1.length : Int) then (if (((aq dc.1 2).f0) == 2 && (((aq dc.1 2).f1) == 1)) = true then (if ov.2 = 15 then (if (du.length : Int) = 1 then (if 0 < (du.length : Int) then (if (rd du 0) = 1 then (if gH.1 = true then (some (gH.2 == 0)) else (some false)) else (some false)) else (none)) else (some false)) else (some false)) else (some false)) else (none)) else (some false)) else (none)) else (some false)) else (none)) else (some false)) else (some false)) else (some false)) else (none)) else (some false)) else (some false)))))))))))))))
set_option maxHeartbeats 8000000 in
set_option maxRecDepth 100000 in
theorem lQ.ai3  (w : World) (h : lQ.g = some true) :
  Calls Try.prog 9 #[] w fun e w' => e = .returned (.bool true) ∧ Below w.heap.size w w' := by
 have Kq := Try.underlying48
 have Ld := Try.underlying40
 have HB := ae.mk (Below.refl w.heap.size w)
 have H : ((dx.f (⟨#[102]⟩ : ByteArray) (⟨#[97]⟩ : ByteArray)).bind fun tg => ((dx.f (⟨#[103]⟩ : ByteArray) (⟨#[97]⟩ : ByteArray)).bind fun uh => ((ib.f tg.1 tg.2.1 tg.2.2.1 tg.2.2.2 uh.1 uh.2.1 uh.2.2.1 uh.2.2.2 (([0, 1] : List Int)) (([0, 1] : List Int))).bind fun kG => ((dx.f (⟨#[102]⟩ : ByteArray) (⟨#[97]⟩ : ByteArray)).bind fun mg => ((dx.f (⟨#[102]⟩ : ByteArray) (⟨#[98]⟩ : ByteArray)).bind fun ml => ((ib.f mg.1 mg.2.1 mg.2.2.1 mg.2.2.2 ml.1 ml.2.1 ml.2.2.1 ml.2.2.2 (([0, 1] : List Int)) (([0, 2] : List Int))).bind fun dc => ((dx.f (⟨#[102]⟩ : ByteArray) (⟨#[97]⟩ : ByteArray)).bind fun iX => ((dx.f (⟨#[102]⟩ : ByteArray) (⟨#[98]⟩ : ByteArray)).bind fun iY => ((ib.f iX.1 iX.2.1 iX.2.2.1 iX.2.2.2 iY.1 iY.2.1 iY.2.2.1 iY.2.2.2 (([0, 1] : List Int)) (([0, 0] : List Int))).bind fun ov => ((mf.f (([(⟨3, 4⟩ : aw), (⟨1, 2⟩ : aw)] : List (aw))) (([(⟨1, 5⟩ : aw), (⟨3, 5⟩ : aw)] : List (aw)))).bind fun du => ((dx.f (⟨#[102]⟩ : ByteArray) (⟨#[97]⟩ : ByteArray)).bind fun eQ => ((dx.f (⟨#[103]⟩ : ByteArray) (⟨#[97]⟩ : ByteArray)).bind fun eT => ((dx.f (⟨#[102]⟩ : ByteArray) (⟨#[98]⟩ : ByteArray)).bind fun eO => ((j6.f eQ.1 eQ.2.1 eQ.2.2.1 eQ.2.2.2 eT.1 eT.2.1 eT.2.2.1 eT.2.2.2 eO.1 eO.2.1 eO.2.2.1 eO.2.2.2 (([0, 1] : List Int)) (([0, 1] : List Int)) (([0, 1] : List Int)) 2).bind fun gH => (if kG.2 = 0 then (if (kG.1.length : Int) = 1 then (if 0 < (kG.1.length : Int) then (if (((aq kG.1 0).f0) == 0 && (((aq kG.1 0).f1) == 4)) = true then (if dc.2 = 0 then (if (dc.1.length : Int) = 3 then (if 0 < (dc.1.length : Int) then (if (((aq dc.1 0).f0) == 0 && (((aq dc.1 0).f1) == 6)) = true then (if 1 < (dc.1.length : Int) then (if (((aq dc.1 1).f0) == 1 && (((aq dc.1 1).f1) == 2)) = true then (if 2 < (dc.1.length : Int) then (if (((aq dc.1 2).f0) == 2 && (((aq dc.1 2).f1) == 1)) = true then (if ov.2 = 15 then (if (du.length : Int) = 1 then (if 0 < (du.length : Int) then (if (rd du 0) = 1 then (if gH.1 = true then (some (gH.2 == 0)) else (some false)) else (some false)) else (none)) else (some false)) else (some false)) else (some false)) else (none)) else (some false)) else (none)) else (some false)) else (none)) else (some false)) else (some false)) else (some false)) else (none)) else (some false)) else (some false)))))))))))))))) = some true := h
 clear h
 replace H := Option.bind_eq_some_iff.mp H
 obtain ⟨⟨Cn, Et, t127, t130⟩, rJ, H⟩ := H
 dsimp only at H
 have A1 := ae.mk rJ
 clear rJ
 replace H := Option.bind_eq_some_iff.mp H
 obtain ⟨⟨FN, DI, Fw, t138⟩, rE, H⟩ := H
 dsimp only at H
 have A2 := ae.mk rE
 clear rE
 obtain ⟨K6, Gi⟩ : ∃ y_ : List Int, y_ = (([0, 1] : List Int)) := ⟨_, rfl⟩
 replace H : ((ib.f Cn Et t127 t130 FN DI Fw t138 K6 (([0, 1] : List Int))).bind fun kG => ((dx.f (⟨#[102]⟩ : ByteArray) (⟨#[97]⟩ : ByteArray)).bind fun mg => ((dx.f (⟨#[102]⟩ : ByteArray) (⟨#[98]⟩ : ByteArray)).bind fun ml => ((ib.f mg.1 mg.2.1 mg.2.2.1 mg.2.2.2 ml.1 ml.2.1 ml.2.2.1 ml.2.2.2 (([0, 1] : List Int)) (([0, 2] : List Int))).bind fun dc => ((dx.f (⟨#[102]⟩ : ByteArray) (⟨#[97]⟩ : ByteArray)).bind fun iX => ((dx.f (⟨#[102]⟩ : ByteArray) (⟨#[98]⟩ : ByteArray)).bind fun iY => ((ib.f iX.1 iX.2.1 iX.2.2.1 iX.2.2.2 iY.1 iY.2.1 iY.2.2.1 iY.2.2.2 (([0, 1] : List Int)) (([0, 0] : List Int))).bind fun ov => ((mf.f (([(⟨3, 4⟩ : aw), (⟨1, 2⟩ : aw)] : List (aw))) (([(⟨1, 5⟩ : aw), (⟨3, 5⟩ : aw)] : List (aw)))).bind fun du => ((dx.f (⟨#[102]⟩ : ByteArray) (⟨#[97]⟩ : ByteArray)).bind fun eQ => ((dx.f (⟨#[103]⟩ : ByteArray) (⟨#[97]⟩ : ByteArray)).bind fun eT => ((dx.f (⟨#[102]⟩ : ByteArray) (⟨#[98]⟩ : ByteArray)).bind fun eO => ((j6.f eQ.1 eQ.2.1 eQ.2.2.1 eQ.2.2.2 eT.1 eT.2.1 eT.2.2.1 eT.2.2.2 eO.1 eO.2.1 eO.2.2.1 eO.2.2.2 (([0, 1] : List Int)) (([0, 1] : List Int)) (([0, 1] : List Int)) 2).bind fun gH => (if kG.2 = 0 then (if (kG.1.length : Int) = 1 then (if 0 < (kG.1.length : Int) then (if (((aq kG.1 0).f0) == 0 && (((aq kG.1 0).f1) == 4)) = true then (if dc.2 = 0 then (if (dc.1.length : Int) = 3 then (if 0 < (dc.1.length : Int) then (if (((aq dc.1 0).f0) == 0 && (((aq dc.1 0).f1) == 6)) = true then (if 1 < (dc.1.length : Int) then (if (((aq dc.1 1).f0) == 1 && (((aq dc.1 1).f1) == 2)) = true then (if 2 < (dc.1.length : Int) then (if (((aq dc.1 2).f0) == 2 && (((aq dc.1 2).f1) == 1)) = true then (if ov.2 = 15 then (if (du.length : Int) = 1 then (if 0 < (du.length : Int) then (if (rd du 0) = 1 then (if gH.1 = true then (some (gH.2 == 0)) else (some false)) else (some false)) else (none)) else (some false)) else (some false)) else (some false)) else (none)) else (some false)) else (none)) else (some false)) else (none)) else (some false)) else (some false)) else (some false)) else (none)) else (some false)) else (some false)))))))))))))) = some true := by first | (rw [Gi]; with_reducible exact H) | (have ca := (Option.bind_some _ _).symm.trans H; rw [Gi]; with_reducible exact ca) | (have ca := (Option.bind_some _ _).symm.trans H; with_reducible exact ca) | with_reducible exact H | (rw [Gi]; exact H) | exact H
 have UH := ae.mk Gi
 clear Gi
 obtain ⟨LW, GB⟩ : ∃ y_ : List Int, y_ = (([0, 1] : List Int)) := ⟨_, rfl⟩
 replace H : ((ib.f Cn Et t127 t130 FN DI Fw t138 K6 LW).bind fun kG => ((dx.f (⟨#[102]⟩ : ByteArray) (⟨#[97]⟩ : ByteArray)).bind fun mg => ((dx.f (⟨#[102]⟩ : ByteArray) (⟨#[98]⟩ : ByteArray)).bind fun ml => ((ib.f mg.1 mg.2.1 mg.2.2.1 mg.2.2.2 ml.1 ml.2.1 ml.2.2.1 ml.2.2.2 (([0, 1] : List Int)) (([0, 2] : List Int))).bind fun dc => ((dx.f (⟨#[102]⟩ : ByteArray) (⟨#[97]⟩ : ByteArray)).bind fun iX => ((dx.f (⟨#[102]⟩ : ByteArray) (⟨#[98]⟩ : ByteArray)).bind fun iY => ((ib.f iX.1 iX.2.1 iX.2.2.1 iX.2.2.2 iY.1 iY.2.1 iY.2.2.1 iY.2.2.2 (([0, 1] : List Int)) (([0, 0] : List Int))).bind fun ov => ((mf.f (([(⟨3, 4⟩ : aw), (⟨1, 2⟩ : aw)] : List (aw))) (([(⟨1, 5⟩ : aw), (⟨3, 5⟩ : aw)] : List (aw)))).bind fun du => ((dx.f (⟨#[102]⟩ : ByteArray) (⟨#[97]⟩ : ByteArray)).bind fun eQ => ((dx.f (⟨#[103]⟩ : ByteArray) (⟨#[97]⟩ : ByteArray)).bind fun eT => ((dx.f (⟨#[102]⟩ : ByteArray) (⟨#[98]⟩ : ByteArray)).bind fun eO => ((j6.f eQ.1 eQ.2.1 eQ.2.2.1 eQ.2.2.2 eT.1 eT.2.1 eT.2.2.1 eT.2.2.2 eO.1 eO.2.1 eO.2.2.1 eO.2.2.2 (([0, 1] : List Int)) (([0, 1] : List Int)) (([0, 1] : List Int)) 2).bind fun gH => (if kG.2 = 0 then (if (kG.1.length : Int) = 1 then (if 0 < (kG.1.length : Int) then (if (((aq kG.1 0).f0) == 0 && (((aq kG.1 0).f1) == 4)) = true then (if dc.2 = 0 then (if (dc.1.length : Int) = 3 then (if 0 < (dc.1.length : Int) then (if (((aq dc.1 0).f0) == 0 && (((aq dc.1 0).f1) == 6)) = true then (if 1 < (dc.1.length : Int) then (if (((aq dc.1 1).f0) == 1 && (((aq dc.1 1).f1) == 2)) = true then (if 2 < (dc.1.length : Int) then (if (((aq dc.1 2).f0) == 2 && (((aq dc.1 2).f1) == 1)) = true then (if ov.2 = 15 then (if (du.length : Int) = 1 then (if 0 < (du.length : Int) then (if (rd du 0) = 1 then (if gH.1 = true then (some (gH.2 == 0)) else (some false)) else (some false)) else (none)) else (some false)) else (some false)) else (some false)) else (none)) else (some false)) else (none)) else (some false)) else (none)) else (some false)) else (some false)) else (some false)) else (none)) else (some false)) else (some false)))))))))))))) = some true := by first | (rw [GB]; with_reducible exact H) | (have ca := (Option.bind_some _ _).symm.trans H; rw [GB]; with_reducible exact ca) | (have ca := (Option.bind_some _ _).symm.trans H; with_reducible exact ca) | with_reducible exact H | (rw [GB]; exact H) | exact H
 have UW := ae.mk GB
 clear GB
 replace H := Option.bind_eq_some_iff.mp H
 obtain ⟨⟨dL, oU⟩, Vz, H⟩ := H
 dsimp only at H
 have A3 := ae.mk Vz
 clear Vz
 replace H := Option.bind_eq_some_iff.mp H
 obtain ⟨⟨DU, t152, CQ, t156⟩, rx, H⟩ := H
 dsimp only at H
 have A4 := ae.mk rx
 clear rx
 replace H := Option.bind_eq_some_iff.mp H
 obtain ⟨⟨t159, t160, Fe, t164⟩, lW, H⟩ := H
 dsimp only at H
 have A5 := ae.mk lW
 clear lW
 obtain ⟨Kj, DE⟩ : ∃ y_ : List Int, y_ = (([0, 1] : List Int)) := ⟨_, rfl⟩
 replace H : ((ib.f DU t152 CQ t156 t159 t160 Fe t164 Kj (([0, 2] : List Int))).bind fun dc => ((dx.f (⟨#[102]⟩ : ByteArray) (⟨#[97]⟩ : ByteArray)).bind fun iX => ((dx.f (⟨#[102]⟩ : ByteArray) (⟨#[98]⟩ : ByteArray)).bind fun iY => ((ib.f iX.1 iX.2.1 iX.2.2.1 iX.2.2.2 iY.1 iY.2.1 iY.2.2.1 iY.2.2.2 (([0, 1] : List Int)) (([0, 0] : List Int))).bind fun ov => ((mf.f (([(⟨3, 4⟩ : aw), (⟨1, 2⟩ : aw)] : List (aw))) (([(⟨1, 5⟩ : aw), (⟨3, 5⟩ : aw)] : List (aw)))).bind fun du => ((dx.f (⟨#[102]⟩ : ByteArray) (⟨#[97]⟩ : ByteArray)).bind fun eQ => ((dx.f (⟨#[103]⟩ : ByteArray) (⟨#[97]⟩ : ByteArray)).bind fun eT => ((dx.f (⟨#[102]⟩ : ByteArray) (⟨#[98]⟩ : ByteArray)).bind fun eO => ((j6.f eQ.1 eQ.2.1 eQ.2.2.1 eQ.2.2.2 eT.1 eT.2.1 eT.2.2.1 eT.2.2.2 eO.1 eO.2.1 eO.2.2.1 eO.2.2.2 (([0, 1] : List Int)) (([0, 1] : List Int)) (([0, 1] : List Int)) 2).bind fun gH => (if oU = 0 then (if (dL.length : Int) = 1 then (if 0 < (dL.length : Int) then (if (((aq dL 0).f0) == 0 && (((aq dL 0).f1) == 4)) = true then (if dc.2 = 0 then (if (dc.1.length : Int) = 3 then (if 0 < (dc.1.length : Int) then (if (((aq dc.1 0).f0) == 0 && (((aq dc.1 0).f1) == 6)) = true then (if 1 < (dc.1.length : Int) then (if (((aq dc.1 1).f0) == 1 && (((aq dc.1 1).f1) == 2)) = true then (if 2 < (dc.1.length : Int) then (if (((aq dc.1 2).f0) == 2 && (((aq dc.1 2).f1) == 1)) = true then (if ov.2 = 15 then (if (du.length : Int) = 1 then (if 0 < (du.length : Int) then (if (rd du 0) = 1 then (if gH.1 = true then (some (gH.2 == 0)) else (some false)) else (some false)) else (none)) else (some false)) else (some false)) else (some false)) else (none)) else (some false)) else (none)) else (some false)) else (none)) else (some false)) else (some false)) else (some false)) else (none)) else (some false)) else (some false))))))))))) = some true := by first | (rw [DE]; with_reducible exact H) | (have ca := (Option.bind_some _ _).symm.trans H; rw [DE]; with_reducible exact ca) | (have ca := (Option.bind_some _ _).symm.trans H; with_reducible exact ca) | with_reducible exact H | (rw [DE]; exact H) | exact H
 have VM := ae.mk DE
 clear DE
 obtain ⟨rZ, ET⟩ : ∃ y_ : List Int, y_ = (([0, 2] : List Int)) := ⟨_, rfl⟩
 replace H : ((ib.f DU t152 CQ t156 t159 t160 Fe t164 Kj rZ).bind fun dc => ((dx.f (⟨#[102]⟩ : ByteArray) (⟨#[97]⟩ : ByteArray)).bind fun iX => ((dx.f (⟨#[102]⟩ : ByteArray) (⟨#[98]⟩ : ByteArray)).bind fun iY => ((ib.f iX.1 iX.2.1 iX.2.2.1 iX.2.2.2 iY.1 iY.2.1 iY.2.2.1 iY.2.2.2 (([0, 1] : List Int)) (([0, 0] : List Int))).bind fun ov => ((mf.f (([(⟨3, 4⟩ : aw), (⟨1, 2⟩ : aw)] : List (aw))) (([(⟨1, 5⟩ : aw), (⟨3, 5⟩ : aw)] : List (aw)))).bind fun du => ((dx.f (⟨#[102]⟩ : ByteArray) (⟨#[97]⟩ : ByteArray)).bind fun eQ => ((dx.f (⟨#[103]⟩ : ByteArray) (⟨#[97]⟩ : ByteArray)).bind fun eT => ((dx.f (⟨#[102]⟩ : ByteArray) (⟨#[98]⟩ : ByteArray)).bind fun eO => ((j6.f eQ.1 eQ.2.1 eQ.2.2.1 eQ.2.2.2 eT.1 eT.2.1 eT.2.2.1 eT.2.2.2 eO.1 eO.2.1 eO.2.2.1 eO.2.2.2 (([0, 1] : List Int)) (([0, 1] : List Int)) (([0, 1] : List Int)) 2).bind fun gH => (if oU = 0 then (if (dL.length : Int) = 1 then (if 0 < (dL.length : Int) then (if (((aq dL 0).f0) == 0 && (((aq dL 0).f1) == 4)) = true then (if dc.2 = 0 then (if (dc.1.length : Int) = 3 then (if 0 < (dc.1.length : Int) then (if (((aq dc.1 0).f0) == 0 && (((aq dc.1 0).f1) == 6)) = true then (if 1 < (dc.1.length : Int) then (if (((aq dc.1 1).f0) == 1 && (((aq dc.1 1).f1) == 2)) = true then (if 2 < (dc.1.length : Int) then (if (((aq dc.1 2).f0) == 2 && (((aq dc.1 2).f1) == 1)) = true then (if ov.2 = 15 then (if (du.length : Int) = 1 then (if 0 < (du.length : Int) then (if (rd du 0) = 1 then (if gH.1 = true then (some (gH.2 == 0)) else (some false)) else (some false)) else (none)) else (some false)) else (some false)) else (some false)) else (none)) else (some false)) else (none)) else (some false)) else (none)) else (some false)) else (some false)) else (some false)) else (none)) else (some false)) else (some false))))))))))) = some true := by first | (rw [ET]; with_reducible exact H) | (have ca := (Option.bind_some _ _).symm.trans H; rw [ET]; with_reducible exact ca) | (have ca := (Option.bind_some _ _).symm.trans H; with_reducible exact ca) | with_reducible exact H | (rw [ET]; exact H) | exact H
 have U5 := ae.mk ET
 clear ET
 replace H := Option.bind_eq_some_iff.mp H
 obtain ⟨⟨t173, pL⟩, pB, H⟩ := H
 dsimp only at H
 have A6 := ae.mk pB
 clear pB
 replace H := Option.bind_eq_some_iff.mp H
 obtain ⟨⟨F0, DD, Fx, t182⟩, nc, H⟩ := H
 dsimp only at H
 have A7 := ae.mk nc
 clear nc
 replace H := Option.bind_eq_some_iff.mp H
 obtain ⟨⟨El, CB, GH, CI⟩, mM, H⟩ := H
 dsimp only at H
 have A8 := ae.mk mM
 clear mM
 obtain ⟨KU, Fh⟩ : ∃ y_ : List Int, y_ = (([0, 1] : List Int)) := ⟨_, rfl⟩
 replace H : ((ib.f F0 DD Fx t182 El CB GH CI KU (([0, 0] : List Int))).bind fun ov => ((mf.f (([(⟨3, 4⟩ : aw), (⟨1, 2⟩ : aw)] : List (aw))) (([(⟨1, 5⟩ : aw), (⟨3, 5⟩ : aw)] : List (aw)))).bind fun du => ((dx.f (⟨#[102]⟩ : ByteArray) (⟨#[97]⟩ : ByteArray)).bind fun eQ => ((dx.f (⟨#[103]⟩ : ByteArray) (⟨#[97]⟩ : ByteArray)).bind fun eT => ((dx.f (⟨#[102]⟩ : ByteArray) (⟨#[98]⟩ : ByteArray)).bind fun eO => ((j6.f eQ.1 eQ.2.1 eQ.2.2.1 eQ.2.2.2 eT.1 eT.2.1 eT.2.2.1 eT.2.2.2 eO.1 eO.2.1 eO.2.2.1 eO.2.2.2 (([0, 1] : List Int)) (([0, 1] : List Int)) (([0, 1] : List Int)) 2).bind fun gH => (if oU = 0 then (if (dL.length : Int) = 1 then (if 0 < (dL.length : Int) then (if (((aq dL 0).f0) == 0 && (((aq dL 0).f1) == 4)) = true then (if pL = 0 then (if (t173.length : Int) = 3 then (if 0 < (t173.length : Int) then (if (((aq t173 0).f0) == 0 && (((aq t173 0).f1) == 6)) = true then (if 1 < (t173.length : Int) then (if (((aq t173 1).f0) == 1 && (((aq t173 1).f1) == 2)) = true then (if 2 < (t173.length : Int) then (if (((aq t173 2).f0) == 2 && (((aq t173 2).f1) == 1)) = true then (if ov.2 = 15 then (if (du.length : Int) = 1 then (if 0 < (du.length : Int) then (if (rd du 0) = 1 then (if gH.1 = true then (some (gH.2 == 0)) else (some false)) else (some false)) else (none)) else (some false)) else (some false)) else (some false)) else (none)) else (some false)) else (none)) else (some false)) else (none)) else (some false)) else (some false)) else (some false)) else (none)) else (some false)) else (some false)))))))) = some true := by first | (rw [Fh]; with_reducible exact H) | (have ca := (Option.bind_some _ _).symm.trans H; rw [Fh]; with_reducible exact ca) | (have ca := (Option.bind_some _ _).symm.trans H; with_reducible exact ca) | with_reducible exact H | (rw [Fh]; exact H) | exact H
 have T4 := ae.mk Fh
 clear Fh
 obtain ⟨LM, Ha⟩ : ∃ y_ : List Int, y_ = (([0, 0] : List Int)) := ⟨_, rfl⟩
 replace H : ((ib.f F0 DD Fx t182 El CB GH CI KU LM).bind fun ov => ((mf.f (([(⟨3, 4⟩ : aw), (⟨1, 2⟩ : aw)] : List (aw))) (([(⟨1, 5⟩ : aw), (⟨3, 5⟩ : aw)] : List (aw)))).bind fun du => ((dx.f (⟨#[102]⟩ : ByteArray) (⟨#[97]⟩ : ByteArray)).bind fun eQ => ((dx.f (⟨#[103]⟩ : ByteArray) (⟨#[97]⟩ : ByteArray)).bind fun eT => ((dx.f (⟨#[102]⟩ : ByteArray) (⟨#[98]⟩ : ByteArray)).bind fun eO => ((j6.f eQ.1 eQ.2.1 eQ.2.2.1 eQ.2.2.2 eT.1 eT.2.1 eT.2.2.1 eT.2.2.2 eO.1 eO.2.1 eO.2.2.1 eO.2.2.2 (([0, 1] : List Int)) (([0, 1] : List Int)) (([0, 1] : List Int)) 2).bind fun gH => (if oU = 0 then (if (dL.length : Int) = 1 then (if 0 < (dL.length : Int) then (if (((aq dL 0).f0) == 0 && (((aq dL 0).f1) == 4)) = true then (if pL = 0 then (if (t173.length : Int) = 3 then (if 0 < (t173.length : Int) then (if (((aq t173 0).f0) == 0 && (((aq t173 0).f1) == 6)) = true then (if 1 < (t173.length : Int) then (if (((aq t173 1).f0) == 1 && (((aq t173 1).f1) == 2)) = true then (if 2 < (t173.length : Int) then (if (((aq t173 2).f0) == 2 && (((aq t173 2).f1) == 1)) = true then (if ov.2 = 15 then (if (du.length : Int) = 1 then (if 0 < (du.length : Int) then (if (rd du 0) = 1 then (if gH.1 = true then (some (gH.2 == 0)) else (some false)) else (some false)) else (none)) else (some false)) else (some false)) else (some false)) else (none)) else (some false)) else (none)) else (some false)) else (none)) else (some false)) else (some false)) else (some false)) else (none)) else (some false)) else (some false)))))))) = some true := by first | (rw [Ha]; with_reducible exact H) | (have ca := (Option.bind_some _ _).symm.trans H; rw [Ha]; with_reducible exact ca) | (have ca := (Option.bind_some _ _).symm.trans H; with_reducible exact ca) | with_reducible exact H | (rw [Ha]; exact H) | exact H
 have Wz := ae.mk Ha
 clear Ha
 replace H := Option.bind_eq_some_iff.mp H
 obtain ⟨⟨akC, rS⟩, vH, H⟩ := H
 dsimp only at H
 have A9 := ae.mk vH
 clear vH
 obtain ⟨qk, Gy⟩ : ∃ y_ : List (aw), y_ = (([(⟨3, 4⟩ : aw), (⟨1, 2⟩ : aw)] : List (aw))) := ⟨_, rfl⟩
 replace H : ((mf.f qk (([(⟨1, 5⟩ : aw), (⟨3, 5⟩ : aw)] : List (aw)))).bind fun du => ((dx.f (⟨#[102]⟩ : ByteArray) (⟨#[97]⟩ : ByteArray)).bind fun eQ => ((dx.f (⟨#[103]⟩ : ByteArray) (⟨#[97]⟩ : ByteArray)).bind fun eT => ((dx.f (⟨#[102]⟩ : ByteArray) (⟨#[98]⟩ : ByteArray)).bind fun eO => ((j6.f eQ.1 eQ.2.1 eQ.2.2.1 eQ.2.2.2 eT.1 eT.2.1 eT.2.2.1 eT.2.2.2 eO.1 eO.2.1 eO.2.2.1 eO.2.2.2 (([0, 1] : List Int)) (([0, 1] : List Int)) (([0, 1] : List Int)) 2).bind fun gH => (if oU = 0 then (if (dL.length : Int) = 1 then (if 0 < (dL.length : Int) then (if (((aq dL 0).f0) == 0 && (((aq dL 0).f1) == 4)) = true then (if pL = 0 then (if (t173.length : Int) = 3 then (if 0 < (t173.length : Int) then (if (((aq t173 0).f0) == 0 && (((aq t173 0).f1) == 6)) = true then (if 1 < (t173.length : Int) then (if (((aq t173 1).f0) == 1 && (((aq t173 1).f1) == 2)) = true then (if 2 < (t173.length : Int) then (if (((aq t173 2).f0) == 2 && (((aq t173 2).f1) == 1)) = true then (if rS = 15 then (if (du.length : Int) = 1 then (if 0 < (du.length : Int) then (if (rd du 0) = 1 then (if gH.1 = true then (some (gH.2 == 0)) else (some false)) else (some false)) else (none)) else (some false)) else (some false)) else (some false)) else (none)) else (some false)) else (none)) else (some false)) else (none)) else (some false)) else (some false)) else (some false)) else (none)) else (some false)) else (some false))))))) = some true := by first | (rw [Gy]; with_reducible exact H) | (have ca := (Option.bind_some _ _).symm.trans H; rw [Gy]; with_reducible exact ca) | (have ca := (Option.bind_some _ _).symm.trans H; with_reducible exact ca) | with_reducible exact H | (rw [Gy]; exact H) | exact H
 have Xf := ae.mk Gy
 clear Gy
 obtain ⟨OL, G_⟩ : ∃ y_ : List (aw), y_ = (([(⟨1, 5⟩ : aw), (⟨3, 5⟩ : aw)] : List (aw))) := ⟨_, rfl⟩
 replace H : ((mf.f qk OL).bind fun du => ((dx.f (⟨#[102]⟩ : ByteArray) (⟨#[97]⟩ : ByteArray)).bind fun eQ => ((dx.f (⟨#[103]⟩ : ByteArray) (⟨#[97]⟩ : ByteArray)).bind fun eT => ((dx.f (⟨#[102]⟩ : ByteArray) (⟨#[98]⟩ : ByteArray)).bind fun eO => ((j6.f eQ.1 eQ.2.1 eQ.2.2.1 eQ.2.2.2 eT.1 eT.2.1 eT.2.2.1 eT.2.2.2 eO.1 eO.2.1 eO.2.2.1 eO.2.2.2 (([0, 1] : List Int)) (([0, 1] : List Int)) (([0, 1] : List Int)) 2).bind fun gH => (if oU = 0 then (if (dL.length : Int) = 1 then (if 0 < (dL.length : Int) then (if (((aq dL 0).f0) == 0 && (((aq dL 0).f1) == 4)) = true then (if pL = 0 then (if (t173.length : Int) = 3 then (if 0 < (t173.length : Int) then (if (((aq t173 0).f0) == 0 && (((aq t173 0).f1) == 6)) = true then (if 1 < (t173.length : Int) then (if (((aq t173 1).f0) == 1 && (((aq t173 1).f1) == 2)) = true then (if 2 < (t173.length : Int) then (if (((aq t173 2).f0) == 2 && (((aq t173 2).f1) == 1)) = true then (if rS = 15 then (if (du.length : Int) = 1 then (if 0 < (du.length : Int) then (if (rd du 0) = 1 then (if gH.1 = true then (some (gH.2 == 0)) else (some false)) else (some false)) else (none)) else (some false)) else (some false)) else (some false)) else (none)) else (some false)) else (none)) else (some false)) else (none)) else (some false)) else (some false)) else (some false)) else (none)) else (some false)) else (some false))))))) = some true := by first | (rw [G_]; with_reducible exact H) | (have ca := (Option.bind_some _ _).symm.trans H; rw [G_]; with_reducible exact ca) | (have ca := (Option.bind_some _ _).symm.trans H; with_reducible exact ca) | with_reducible exact H | (rw [G_]; exact H) | exact H
 have Tg := ae.mk G_
 clear G_
 replace H := Option.bind_eq_some_iff.mp H
 obtain ⟨du, GY, H⟩ := H
 have rJ := ae.mk GY
 clear GY
 replace H := Option.bind_eq_some_iff.mp H
 obtain ⟨⟨t212, t213, AF, AW⟩, rj, H⟩ := H
 dsimp only at H
 have pl := ae.mk rj
 clear rj
 replace H := Option.bind_eq_some_iff.mp H
 obtain ⟨⟨BL, Cb, t222, Bn⟩, Fz, H⟩ := H
 dsimp only at H
 have un := ae.mk Fz
 clear Fz
 replace H := Option.bind_eq_some_iff.mp H
 obtain ⟨⟨t228, t229, Bp, t233⟩, Ya, H⟩ := H
 dsimp only at H
 have Ax := ae.mk Ya
 clear Ya
 obtain ⟨FA, Eh⟩ : ∃ y_ : List Int, y_ = (([0, 1] : List Int)) := ⟨_, rfl⟩
 replace H : ((j6.f t212 t213 AF AW BL Cb t222 Bn t228 t229 Bp t233 FA (([0, 1] : List Int)) (([0, 1] : List Int)) 2).bind fun gH => (if oU = 0 then (if (dL.length : Int) = 1 then (if 0 < (dL.length : Int) then (if (((aq dL 0).f0) == 0 && (((aq dL 0).f1) == 4)) = true then (if pL = 0 then (if (t173.length : Int) = 3 then (if 0 < (t173.length : Int) then (if (((aq t173 0).f0) == 0 && (((aq t173 0).f1) == 6)) = true then (if 1 < (t173.length : Int) then (if (((aq t173 1).f0) == 1 && (((aq t173 1).f1) == 2)) = true then (if 2 < (t173.length : Int) then (if (((aq t173 2).f0) == 2 && (((aq t173 2).f1) == 1)) = true then (if rS = 15 then (if (du.length : Int) = 1 then (if 0 < (du.length : Int) then (if (rd du 0) = 1 then (if gH.1 = true then (some (gH.2 == 0)) else (some false)) else (some false)) else (none)) else (some false)) else (some false)) else (some false)) else (none)) else (some false)) else (none)) else (some false)) else (none)) else (some false)) else (some false)) else (some false)) else (none)) else (some false)) else (some false))) = some true := by first | (rw [Eh]; with_reducible exact H) | (have ca := (Option.bind_some _ _).symm.trans H; rw [Eh]; with_reducible exact ca) | (have ca := (Option.bind_some _ _).symm.trans H; with_reducible exact ca) | with_reducible exact H | (rw [Eh]; exact H) | exact H
 have WM := ae.mk Eh
 clear Eh
 obtain ⟨J4, Gg⟩ : ∃ y_ : List Int, y_ = (([0, 1] : List Int)) := ⟨_, rfl⟩
 replace H : ((j6.f t212 t213 AF AW BL Cb t222 Bn t228 t229 Bp t233 FA J4 (([0, 1] : List Int)) 2).bind fun gH => (if oU = 0 then (if (dL.length : Int) = 1 then (if 0 < (dL.length : Int) then (if (((aq dL 0).f0) == 0 && (((aq dL 0).f1) == 4)) = true then (if pL = 0 then (if (t173.length : Int) = 3 then (if 0 < (t173.length : Int) then (if (((aq t173 0).f0) == 0 && (((aq t173 0).f1) == 6)) = true then (if 1 < (t173.length : Int) then (if (((aq t173 1).f0) == 1 && (((aq t173 1).f1) == 2)) = true then (if 2 < (t173.length : Int) then (if (((aq t173 2).f0) == 2 && (((aq t173 2).f1) == 1)) = true then (if rS = 15 then (if (du.length : Int) = 1 then (if 0 < (du.length : Int) then (if (rd du 0) = 1 then (if gH.1 = true then (some (gH.2 == 0)) else (some false)) else (some false)) else (none)) else (some false)) else (some false)) else (some false)) else (none)) else (some false)) else (none)) else (some false)) else (none)) else (some false)) else (some false)) else (some false)) else (none)) else (some false)) else (some false))) = some true := by first | (rw [Gg]; with_reducible exact H) | (have ca := (Option.bind_some _ _).symm.trans H; rw [Gg]; with_reducible exact ca) | (have ca := (Option.bind_some _ _).symm.trans H; with_reducible exact ca) | with_reducible exact H | (rw [Gg]; exact H) | exact H
 have YD := ae.mk Gg
 clear Gg
 obtain ⟨RU, Cx⟩ : ∃ y_ : List Int, y_ = (([0, 1] : List Int)) := ⟨_, rfl⟩
 replace H : ((j6.f t212 t213 AF AW BL Cb t222 Bn t228 t229 Bp t233 FA J4 RU 2).bind fun gH => (if oU = 0 then (if (dL.length : Int) = 1 then (if 0 < (dL.length : Int) then (if (((aq dL 0).f0) == 0 && (((aq dL 0).f1) == 4)) = true then (if pL = 0 then (if (t173.length : Int) = 3 then (if 0 < (t173.length : Int) then (if (((aq t173 0).f0) == 0 && (((aq t173 0).f1) == 6)) = true then (if 1 < (t173.length : Int) then (if (((aq t173 1).f0) == 1 && (((aq t173 1).f1) == 2)) = true then (if 2 < (t173.length : Int) then (if (((aq t173 2).f0) == 2 && (((aq t173 2).f1) == 1)) = true then (if rS = 15 then (if (du.length : Int) = 1 then (if 0 < (du.length : Int) then (if (rd du 0) = 1 then (if gH.1 = true then (some (gH.2 == 0)) else (some false)) else (some false)) else (none)) else (some false)) else (some false)) else (some false)) else (none)) else (some false)) else (none)) else (some false)) else (none)) else (some false)) else (some false)) else (some false)) else (none)) else (some false)) else (some false))) = some true := by first | (rw [Cx]; with_reducible exact H) | (have ca := (Option.bind_some _ _).symm.trans H; rw [Cx]; with_reducible exact ca) | (have ca := (Option.bind_some _ _).symm.trans H; with_reducible exact ca) | with_reducible exact H | (rw [Cx]; exact H) | exact H
 have SR := ae.mk Cx
 clear Cx
 replace H := Option.bind_eq_some_iff.mp H
 obtain ⟨⟨aan, UT⟩, SG, H⟩ := H
 dsimp only at H
 have AQ := ae.mk SG
 clear SG
 by_cases kH : oU = 0
 ·rw [if_pos kH] at H
  have IZ : (oU == 0) = true := beq_iff_eq.mpr kH
  have ab' : (oU != 0) = false := bne_eq_false_iff_eq.mpr kH
  clear kH
  by_cases en : (dL.length : Int) = 1
  ·rw [if_pos en] at H
   have sy : ((dL.length : Int) == 1) = true := beq_iff_eq.mpr en
   have Gd : ((dL.length : Int) != 1) = false := bne_eq_false_iff_eq.mpr en
   clear en
   by_cases ip : 0 < (dL.length : Int)
   ·rw [if_pos ip] at H
    have zO : decide (0 < (dL.length : Int)) = true := decide_eq_true ip
    have aun : decide (0 < dL.length) = true := decide_eq_true (by omega)
    clear ip
    by_cases fY : (((aq dL 0).f0) == 0 && (((aq dL 0).f1) == 4)) = true
    ·rw [if_pos fY] at H
     have CZ : (((aq dL 0).f0) == 0 && (((aq dL 0).f1) == 4)) = true := fY
     (try (have GP : decide (((aq dL 0).f0) = 0 && (((aq dL 0).f1) == 4)) = true := by simpa using fY))
     (try (have af3 : (((aq dL 0).f0) == 0 && (((aq dL 0).f1) == 4)) = true := by simpa using fY))
     clear fY
     by_cases kI : pL = 0
     ·rw [if_pos kI] at H
      have Lw : (pL == 0) = true := beq_iff_eq.mpr kI
      have ahv : (pL != 0) = false := bne_eq_false_iff_eq.mpr kI
      clear kI
      by_cases nD : (t173.length : Int) = 3
      ·rw [if_pos nD] at H
       have Ye : ((t173.length : Int) == 3) = true := beq_iff_eq.mpr nD
       have Wi : ((t173.length : Int) != 3) = false := bne_eq_false_iff_eq.mpr nD
       clear nD
       by_cases kS : 0 < (t173.length : Int)
       ·rw [if_pos kS] at H
        have abj : decide (0 < (t173.length : Int)) = true := decide_eq_true kS
        have ac4 : decide (0 < t173.length) = true := decide_eq_true (by omega)
        clear kS
        by_cases gQ : (((aq t173 0).f0) == 0 && (((aq t173 0).f1) == 6)) = true
        ·rw [if_pos gQ] at H
         have ui : (((aq t173 0).f0) == 0 && (((aq t173 0).f1) == 6)) = true := gQ
         (try (have Lk : decide (((aq t173 0).f0) = 0 && (((aq t173 0).f1) == 6)) = true := by simpa using gQ))
         (try (have acW : (((aq t173 0).f0) == 0 && (((aq t173 0).f1) == 6)) = true := by simpa using gQ))
         clear gQ
         by_cases mL : 1 < (t173.length : Int)
         ·rw [if_pos mL] at H
          have K4 : decide (1 < (t173.length : Int)) = true := decide_eq_true mL
          have at8 : decide (1 < t173.length) = true := decide_eq_true (by omega)
          clear mL
          by_cases lP : (((aq t173 1).f0) == 1 && (((aq t173 1).f1) == 2)) = true
          ·rw [if_pos lP] at H
           have He : (((aq t173 1).f0) == 1 && (((aq t173 1).f1) == 2)) = true := lP
           (try (have ai8 : decide (((aq t173 1).f0) = 1 && (((aq t173 1).f1) == 2)) = true := by simpa using lP))
           (try (have ace : (((aq t173 1).f0) == 1 && (((aq t173 1).f1) == 2)) = true := by simpa using lP))
           clear lP
           by_cases lN : 2 < (t173.length : Int)
           ·rw [if_pos lN] at H
            have sI : decide (2 < (t173.length : Int)) = true := decide_eq_true lN
            have Bq : decide (2 < t173.length) = true := decide_eq_true (by omega)
            clear lN
            by_cases jN : (((aq t173 2).f0) == 2 && (((aq t173 2).f1) == 1)) = true
            ·rw [if_pos jN] at H
             have BI : (((aq t173 2).f0) == 2 && (((aq t173 2).f1) == 1)) = true := jN
             (try (have Zu : decide (((aq t173 2).f0) = 2 && (((aq t173 2).f1) == 1)) = true := by simpa using jN))
             (try (have adT : (((aq t173 2).f0) == 2 && (((aq t173 2).f1) == 1)) = true := by simpa using jN))
             clear jN
             by_cases oo : rS = 15
             ·rw [if_pos oo] at H
              have acU : (rS == 15) = true := beq_iff_eq.mpr oo
              have af6 : (rS != 15) = false := bne_eq_false_iff_eq.mpr oo
              clear oo
              by_cases zy : (du.length : Int) = 1
              ·rw [if_pos zy] at H
               have ajY : ((du.length : Int) == 1) = true := beq_iff_eq.mpr zy
               have aj4 : ((du.length : Int) != 1) = false := bne_eq_false_iff_eq.mpr zy
               clear zy
               by_cases mG : 0 < (du.length : Int)
               ·rw [if_pos mG] at H
                have anv : decide (0 < (du.length : Int)) = true := decide_eq_true mG
                have am7 : decide (0 < du.length) = true := decide_eq_true (by omega)
                clear mG
                by_cases mr : (rd du 0) = 1
                ·rw [if_pos mr] at H
                 have akg : ((rd du 0) == 1) = true := beq_iff_eq.mpr mr
                 have aen : ((rd du 0) != 1) = false := bne_eq_false_iff_eq.mpr mr
                 clear mr
                 by_cases rN : aan = true
                 ·subst rN
                  have H1 : (some (UT == 0)) = some true := by rw [if_pos rfl] at H; exact H
                  clear H
                  have H := H1
                  clear H1
                  have HE_ := Option.some.inj H
                  go_enter Try.func9, Try.ntmps9
                  go_wp2_with (first | ((with_reducible refine dD (f := 22) rfl ?_); refine dC (some 11) rfl rfl Try.func22 (by kernel_rfl) rfl #[.string (⟨#[102]⟩ : ByteArray), .string (⟨#[97]⟩ : ByteArray)] rfl MX ?_; (with_reducible refine (dx.calls (⟨#[102]⟩ : ByteArray) (⟨#[97]⟩ : ByteArray) Cn Et t127 t130 _ A1.out).mono ?_); rintro e Cf ⟨axz, v131, rfl, aR, dg, hb⟩; refine ⟨_, rfl, ?_⟩; have af := ae.mk (Kd.eB aR (cG (BX HB.out))); have ag := ae.mk (Kd.eB dg (cG (BX HB.out))); have ah := bn HB hb; clear HB; have cu := af; have cE := ag; have HB := ah; clear af ag ah; (try clear hb); (try clear hb2); (try clear hk); (try clear hi); (try clear aR); (try clear dg)) | ((with_reducible refine dD (f := 22) rfl ?_); refine dC (some 12) rfl rfl Try.func22 (by kernel_rfl) rfl #[.string (⟨#[103]⟩ : ByteArray), .string (⟨#[97]⟩ : ByteArray)] rfl MX ?_; (with_reducible refine (dx.calls (⟨#[103]⟩ : ByteArray) (⟨#[97]⟩ : ByteArray) FN DI Fw t138 _ A2.out).mono ?_); rintro e w33 ⟨asf, v139, rfl, aR, dg, hb⟩; refine ⟨_, rfl, ?_⟩; have af := ae.mk (Kd.b7 (RX cu.out) (Kd.aV aR) hb); have ag := ae.mk (Kd.cm (Kd.cY (Kd.cY (Kd.gM (RX cE.out) hb) (Kd.aV aR)) (Kd.aV dg)) (fun _ h_ => h_.1)); have ah := ae.mk (Kd.eB (Kd.bh aR (Kd.bg (RX cu.out))) (cG (BX HB.out))); have am := ae.mk (Kd.eB (Kd.bh (Kd.bh dg (Kd.bg (RX cu.out))) (Kd.bg (RX cE.out))) (cG (BX HB.out))); have aJ := bn HB hb; clear cu; clear cE; clear HB; have cu := af; have cE := ag; have cB := ah; have cJ := am; have HB := aJ; clear af ag ah am aJ; (try clear hb); (try clear hb2); (try clear hk); (try clear hi); (try clear aR); (try clear dg)) | ((with_reducible refine bz (N := 13) rfl ?_); (try (refine gN (by rfl) ?_; dsimp only)); refine Kd.pI (Kd.int .i64) _ 3 ?hg (N := 13) ?hd (xs := ([0, 1] : List Int)) (inner := [.int .i64 0, .int .i64 1]) (ok := fun _ => True) (fh := fun _ => True) ?hr ?hp (fun _ hk => hk) trivial (Below.refl _ _) (Nat.le_refl _) (by simp) ?_; (case hd => rfl); (case hg => rfl); (case hr => first | (go_simp; done) | (go_simp; rfl) | (obtain ⟨_, _, rfl⟩ := Kd.bm (ae.out (by assumption : ae (Kd.R _ _ _ _ _ _ _))); go_simp; done)); (case hp => exact (bU.one (show Kd.M (Kd.int .i64) _ _ _ 0 [.int .i64 0] from rfl) (bU.one (show Kd.M (Kd.int .i64) _ _ _ 1 [.int .i64 1] from rfl) (bU.none _ _)))); intro at6 Ky ED hb kX kN; clear kX kN; (first | rw [← UH.out] at ED | (simp only [Int.reduceToNat] at ED; rw [← UH.out] at ED)); have af := ax cu hb; have ag := ax cE hb; have ah := ax cB hb; have am := ax cJ hb; have aJ := ae.mk (Kd.eB ED (cG (BX HB.out))); have aW := bn HB hb; clear cu; clear cE; clear cB; clear cJ; clear HB; have cu := af; have cE := ag; have cB := ah; have cJ := am; have cL := aJ; have HB := aW; clear af ag ah am aJ aW; clear hb ED) | ((with_reducible refine bz (N := 14) rfl ?_); (try (refine gN (by rfl) ?_; dsimp only)); refine Kd.pI (Kd.int .i64) _ 3 ?hg (N := 14) ?hd (xs := ([0, 1] : List Int)) (inner := [.int .i64 0, .int .i64 1]) (ok := fun _ => True) (fh := fun _ => True) ?hr ?hp (fun _ hk => hk) trivial (Below.refl _ _) (Nat.le_refl _) (by simp) ?_; (case hd => rfl); (case hg => rfl); (case hr => first | (go_simp; done) | (go_simp; rfl) | (obtain ⟨_, _, rfl⟩ := Kd.bm (ae.out (by assumption : ae (Kd.R _ _ _ _ _ _ _))); go_simp; done)); (case hp => exact (bU.one (show Kd.M (Kd.int .i64) _ _ _ 0 [.int .i64 0] from rfl) (bU.one (show Kd.M (Kd.int .i64) _ _ _ 1 [.int .i64 1] from rfl) (bU.none _ _)))); intro v145 w36 zW hb kX kN; clear kX kN; (first | rw [← UW.out] at zW | (simp only [Int.reduceToNat] at zW; rw [← UW.out] at zW)); have af := ax cu hb; have ag := ax cE hb; have ah := ax cB hb; have am := ax cJ hb; have aJ := ae.mk (Kd.b7 (RX cL.out) (Kd.aV zW) hb); have aW := ae.mk (Kd.eB (Kd.bh zW (Kd.bg (RX cL.out))) (cG (BX HB.out))); have be := bn HB hb; clear cu; clear cE; clear cB; clear cJ; clear cL; clear HB; have cu := af; have cE := ag; have cB := ah; have cJ := am; have cL := aJ; have cU := aW; have HB := be; clear af ag ah am aJ aW be; clear hb zW; obtain ⟨D9, CR, yB⟩ := Kd.bm cu.out; subst yB; obtain ⟨ajX, abg, afr⟩ := Kd.bm cE.out; subst afr; obtain ⟨aby, ady, aeo⟩ := Kd.bm cB.out; subst aeo; obtain ⟨WE, Xr, Nh⟩ := Kd.bm cJ.out; subst Nh; obtain ⟨Vq, W0, Mh⟩ := Kd.bm cL.out; subst Mh; obtain ⟨H_, Jc, zt⟩ := Kd.bm cU.out; subst zt) | ((with_reducible refine dD (f := 10) rfl ?_); refine dC (some 15) rfl rfl Try.func10 (by kernel_rfl) rfl #[.agg #[.int .i64 Cn, .string Et, .slice D9 t127.length CR, .slice ajX t130.length abg], .agg #[.int .i64 FN, .string DI, .slice aby Fw.length ady, .slice WE t138.length Xr], .slice Vq K6.length W0, .slice H_ LW.length Jc] rfl MX ?_; (with_reducible refine (ib.calls Cn Et _ _ t127 _ _ t130 FN DI _ _ Fw _ _ t138 _ _ K6 _ _ LW dL oU _ ?aH ?aG ?bt ?bv ?cX ?cW ?fE ?fS ?fN ?fI ?fJ ?fF A3.out).mono ?_); (case aH => exact CX ((Kd.b_ cu.out).2.2)); (case aG => exact (Kd.b_ cu.out).2.1); (case bt => exact CX ((Kd.b_ cE.out).2.2)); (case bv => exact (Kd.b_ cE.out).2.1); (case cX => exact CX ((Kd.b_ cB.out).2.2)); (case cW => exact (Kd.b_ cB.out).2.1); (case fE => exact CX ((Kd.b_ cJ.out).2.2)); (case fS => exact (Kd.b_ cJ.out).2.1); (case fN => exact CX ((Kd.b_ cL.out).2.2)); (case fI => exact (Kd.b_ cL.out).2.1); (case fJ => exact CX ((Kd.b_ cU.out).2.2)); (case fF => exact (Kd.b_ cU.out).2.1); rintro e w44 ⟨v148, rfl, aR, hb⟩; refine ⟨_, rfl, ?_⟩; have af := ax cu hb; have ag := ax cE hb; have ah := ax cB hb; have am := ax cJ hb; have aJ := ax cL hb; have aW := ax cU hb; have be := ae.mk (Kd.eB aR (cG (BX HB.out))); have bJ := bn HB hb; clear cu; clear cE; clear cB; clear cJ; clear cL; clear cU; clear HB; have cu := af; have cE := ag; have cB := ah; have cJ := am; have cL := aJ; have cU := aW; have dt := be; have HB := bJ; clear af ag ah am aJ aW be bJ; (try clear hb); (try clear hb2); (try clear hk); (try clear hi); (try clear aR)) | ((with_reducible refine dD (f := 22) rfl ?_); refine dC (some 19) rfl rfl Try.func22 (by kernel_rfl) rfl #[.string (⟨#[102]⟩ : ByteArray), .string (⟨#[97]⟩ : ByteArray)] rfl MX ?_; (with_reducible refine (dx.calls (⟨#[102]⟩ : ByteArray) (⟨#[97]⟩ : ByteArray) DU t152 CQ t156 _ A4.out).mono ?_); rintro e UK ⟨v154, v157, rfl, aR, dg, hb⟩; refine ⟨_, rfl, ?_⟩; have af := ae.mk (Kd.b7 (RX cu.out) (Kd.aV aR) hb); have ag := ae.mk (Kd.cm (Kd.cY (Kd.cY (Kd.gM (RX cE.out) hb) (Kd.aV aR)) (Kd.aV dg)) (fun _ h_ => h_.1)); have ah := ae.mk (Kd.b7 (RX cB.out) (Kd.aV aR) hb); have am := ae.mk (Kd.cm (Kd.cY (Kd.cY (Kd.gM (RX cJ.out) hb) (Kd.aV aR)) (Kd.aV dg)) (fun _ h_ => h_.1)); have aJ := ax cL hb; have aW := ax cU hb; have be := ax dt hb; have bJ := ae.mk (Kd.eB (Kd.bh (Kd.bh aR (Kd.bg (RX cu.out))) (Kd.bg (RX cB.out))) (cG (BX HB.out))); have bZ := ae.mk (Kd.eB (Kd.bh (Kd.bh (Kd.bh (Kd.bh dg (Kd.bg (RX cu.out))) (Kd.bg (RX cE.out))) (Kd.bg (RX cB.out))) (Kd.bg (RX cJ.out))) (cG (BX HB.out))); have b0 := bn HB hb; clear cu; clear cE; clear cB; clear cJ; clear cL; clear cU; clear dt; clear HB; have cu := af; have cE := ag; have cB := ah; have cJ := am; have cL := aJ; have cU := aW; have dt := be; have cZ := bJ; have dn := bZ; have HB := b0; clear af ag ah am aJ aW be bJ bZ b0; (try clear hb); (try clear hb2); (try clear hk); (try clear hi); (try clear aR); (try clear dg)) | ((with_reducible refine dD (f := 22) rfl ?_); refine dC (some 20) rfl rfl Try.func22 (by kernel_rfl) rfl #[.string (⟨#[102]⟩ : ByteArray), .string (⟨#[98]⟩ : ByteArray)] rfl MX ?_; (with_reducible refine (dx.calls (⟨#[102]⟩ : ByteArray) (⟨#[98]⟩ : ByteArray) t159 t160 Fe t164 _ A5.out).mono ?_); rintro e w46 ⟨v162, as5, rfl, aR, dg, hb⟩; refine ⟨_, rfl, ?_⟩; have af := ae.mk (Kd.b7 (RX cu.out) (Kd.aV aR) hb); have ag := ae.mk (Kd.cm (Kd.cY (Kd.cY (Kd.gM (RX cE.out) hb) (Kd.aV aR)) (Kd.aV dg)) (fun _ h_ => h_.1)); have ah := ae.mk (Kd.b7 (RX cB.out) (Kd.aV aR) hb); have am := ae.mk (Kd.cm (Kd.cY (Kd.cY (Kd.gM (RX cJ.out) hb) (Kd.aV aR)) (Kd.aV dg)) (fun _ h_ => h_.1)); have aJ := ax cL hb; have aW := ax cU hb; have be := ax dt hb; have bJ := ae.mk (Kd.b7 (RX cZ.out) (Kd.aV aR) hb); have bZ := ae.mk (Kd.cm (Kd.cY (Kd.cY (Kd.gM (RX dn.out) hb) (Kd.aV aR)) (Kd.aV dg)) (fun _ h_ => h_.1)); have b0 := ae.mk (Kd.eB (Kd.bh (Kd.bh (Kd.bh aR (Kd.bg (RX cu.out))) (Kd.bg (RX cB.out))) (Kd.bg (RX cZ.out))) (cG (BX HB.out))); have cy := ae.mk (Kd.eB (Kd.bh (Kd.bh (Kd.bh (Kd.bh (Kd.bh (Kd.bh dg (Kd.bg (RX cu.out))) (Kd.bg (RX cE.out))) (Kd.bg (RX cB.out))) (Kd.bg (RX cJ.out))) (Kd.bg (RX cZ.out))) (Kd.bg (RX dn.out))) (cG (BX HB.out))); have cA := bn HB hb; clear cu; clear cE; clear cB; clear cJ; clear cL; clear cU; clear dt; clear cZ; clear dn; clear HB; have cu := af; have cE := ag; have cB := ah; have cJ := am; have cL := aJ; have cU := aW; have dt := be; have cZ := bJ; have dn := bZ; have dm := b0; have dQ := cy; have HB := cA; clear af ag ah am aJ aW be bJ bZ b0 cy cA; (try clear hb); (try clear hb2); (try clear hk); (try clear hi); (try clear aR); (try clear dg)) | ((with_reducible refine bz (N := 21) rfl ?_); (try (refine gN (by rfl) ?_; dsimp only)); refine Kd.pI (Kd.int .i64) _ 3 ?hg (N := 21) ?hd (xs := ([0, 1] : List Int)) (inner := [.int .i64 0, .int .i64 1]) (ok := fun _ => True) (fh := fun _ => True) ?hr ?hp (fun _ hk => hk) trivial (Below.refl _ _) (Nat.le_refl _) (by simp) ?_; (case hd => rfl); (case hg => rfl); (case hr => first | (go_simp; done) | (go_simp; rfl) | (obtain ⟨_, _, rfl⟩ := Kd.bm (ae.out (by assumption : ae (Kd.R _ _ _ _ _ _ _))); go_simp; done)); (case hp => exact (bU.one (show Kd.M (Kd.int .i64) _ _ _ 0 [.int .i64 0] from rfl) (bU.one (show Kd.M (Kd.int .i64) _ _ _ 1 [.int .i64 1] from rfl) (bU.none _ _)))); intro v168 w47 yI hb kX kN; clear kX kN; (first | rw [← VM.out] at yI | (simp only [Int.reduceToNat] at yI; rw [← VM.out] at yI)); have af := ax cu hb; have ag := ax cE hb; have ah := ax cB hb; have am := ax cJ hb; have aJ := ae.mk (Kd.b7 (RX cL.out) (Kd.aV yI) hb); have aW := ae.mk (Kd.b7 (RX cU.out) (Kd.aV yI) hb); have be := ax dt hb; have bJ := ax cZ hb; have bZ := ax dn hb; have b0 := ax dm hb; have cy := ax dQ hb; have cA := ae.mk (Kd.eB (Kd.bh (Kd.bh yI (Kd.bg (RX cL.out))) (Kd.bg (RX cU.out))) (cG (BX HB.out))); have cF := bn HB hb; clear cu; clear cE; clear cB; clear cJ; clear cL; clear cU; clear dt; clear cZ; clear dn; clear dm; clear dQ; clear HB; have cu := af; have cE := ag; have cB := ah; have cJ := am; have cL := aJ; have cU := aW; have dt := be; have cZ := bJ; have dn := bZ; have dm := b0; have dQ := cy; have dU := cA; have HB := cF; clear af ag ah am aJ aW be bJ bZ b0 cy cA cF; clear hb yI) | ((with_reducible refine bz (N := 22) rfl ?_); (try (refine gN (by rfl) ?_; dsimp only)); refine Kd.pI (Kd.int .i64) _ 3 ?hg (N := 22) ?hd (xs := ([0, 2] : List Int)) (inner := [.int .i64 0, .int .i64 2]) (ok := fun _ => True) (fh := fun _ => True) ?hr ?hp (fun _ hk => hk) trivial (Below.refl _ _) (Nat.le_refl _) (by simp) ?_; (case hd => rfl); (case hg => rfl); (case hr => first | (go_simp; done) | (go_simp; rfl) | (obtain ⟨_, _, rfl⟩ := Kd.bm (ae.out (by assumption : ae (Kd.R _ _ _ _ _ _ _))); go_simp; done)); (case hp => exact (bU.one (show Kd.M (Kd.int .i64) _ _ _ 0 [.int .i64 0] from rfl) (bU.one (show Kd.M (Kd.int .i64) _ _ _ 2 [.int .i64 2] from rfl) (bU.none _ _)))); intro v171 w49 vy hb kX kN; clear kX kN; (first | rw [← U5.out] at vy | (simp only [Int.reduceToNat] at vy; rw [← U5.out] at vy)); have af := ax cu hb; have ag := ax cE hb; have ah := ax cB hb; have am := ax cJ hb; have aJ := ae.mk (Kd.b7 (RX cL.out) (Kd.aV vy) hb); have aW := ae.mk (Kd.b7 (RX cU.out) (Kd.aV vy) hb); have be := ax dt hb; have bJ := ax cZ hb; have bZ := ax dn hb; have b0 := ax dm hb; have cy := ax dQ hb; have cA := ae.mk (Kd.b7 (RX dU.out) (Kd.aV vy) hb); have cF := ae.mk (Kd.eB (Kd.bh (Kd.bh (Kd.bh vy (Kd.bg (RX cL.out))) (Kd.bg (RX cU.out))) (Kd.bg (RX dU.out))) (cG (BX HB.out))); have db := bn HB hb; clear cu; clear cE; clear cB; clear cJ; clear cL; clear cU; clear dt; clear cZ; clear dn; clear dm; clear dQ; clear dU; clear HB; have cu := af; have cE := ag; have cB := ah; have cJ := am; have cL := aJ; have cU := aW; have dt := be; have cZ := bJ; have dn := bZ; have dm := b0; have dQ := cy; have dU := cA; have eb := cF; have HB := db; clear af ag ah am aJ aW be bJ bZ b0 cy cA cF db; clear hb vy; obtain ⟨akr, ad9, acZ⟩ := Kd.bm cZ.out; subst acZ; obtain ⟨aaP, abr, aeh⟩ := Kd.bm dn.out; subst aeh; obtain ⟨aiJ, ZU, adR⟩ := Kd.bm dm.out; subst adR; obtain ⟨T7, YR, Nn⟩ := Kd.bm dQ.out; subst Nn; obtain ⟨adr, ajP, ajb⟩ := Kd.bm dU.out; subst ajb; obtain ⟨Z0, agA, acG⟩ := Kd.bm eb.out; subst acG) | ((with_reducible refine dD (f := 10) rfl ?_); refine dC (some 23) rfl rfl Try.func10 (by kernel_rfl) rfl #[.agg #[.int .i64 DU, .string t152, .slice akr CQ.length ad9, .slice aaP t156.length abr], .agg #[.int .i64 t159, .string t160, .slice aiJ Fe.length ZU, .slice T7 t164.length YR], .slice adr Kj.length ajP, .slice Z0 rZ.length agA] rfl MX ?_; (with_reducible refine (ib.calls DU t152 _ _ CQ _ _ t156 t159 t160 _ _ Fe _ _ t164 _ _ Kj _ _ rZ t173 pL _ ?aH ?aG ?bt ?bv ?cX ?cW ?fE ?fS ?fN ?fI ?fJ ?fF A6.out).mono ?_); (case aH => exact CX ((Kd.b_ cZ.out).2.2)); (case aG => exact (Kd.b_ cZ.out).2.1); (case bt => exact CX ((Kd.b_ dn.out).2.2)); (case bv => exact (Kd.b_ dn.out).2.1); (case cX => exact CX ((Kd.b_ dm.out).2.2)); (case cW => exact (Kd.b_ dm.out).2.1); (case fE => exact CX ((Kd.b_ dQ.out).2.2)); (case fS => exact (Kd.b_ dQ.out).2.1); (case fN => exact CX ((Kd.b_ dU.out).2.2)); (case fI => exact (Kd.b_ dU.out).2.1); (case fJ => exact CX ((Kd.b_ eb.out).2.2)); (case fF => exact (Kd.b_ eb.out).2.1); rintro e w57 ⟨auc, rfl, aR, hb⟩; refine ⟨_, rfl, ?_⟩; have af := ax cu hb; have ag := ax cE hb; have ah := ax cB hb; have am := ax cJ hb; have aJ := ax cL hb; have aW := ax cU hb; have be := ae.mk (Kd.b7 (RX dt.out) (Kd.aV aR) hb); have bJ := ax cZ hb; have bZ := ax dn hb; have b0 := ax dm hb; have cy := ax dQ hb; have cA := ax dU hb; have cF := ax eb hb; have db := ae.mk (Kd.eB (Kd.bh aR (Kd.bg (RX dt.out))) (cG (BX HB.out))); have dR := bn HB hb; clear cu; clear cE; clear cB; clear cJ; clear cL; clear cU; clear dt; clear cZ; clear dn; clear dm; clear dQ; clear dU; clear eb; clear HB; have cu := af; have cE := ag; have cB := ah; have cJ := am; have cL := aJ; have cU := aW; have dt := be; have cZ := bJ; have dn := bZ; have dm := b0; have dQ := cy; have dU := cA; have eb := cF; have eI := db; have HB := dR; clear af ag ah am aJ aW be bJ bZ b0 cy cA cF db dR; (try clear hb); (try clear hb2); (try clear hk); (try clear hi); (try clear aR)) | ((with_reducible refine dD (f := 22) rfl ?_); refine dC (some 27) rfl rfl Try.func22 (by kernel_rfl) rfl #[.string (⟨#[102]⟩ : ByteArray), .string (⟨#[97]⟩ : ByteArray)] rfl MX ?_; (with_reducible refine (dx.calls (⟨#[102]⟩ : ByteArray) (⟨#[97]⟩ : ByteArray) F0 DD Fx t182 _ A7.out).mono ?_); rintro e w58 ⟨ax8, v183, rfl, aR, dg, hb⟩; refine ⟨_, rfl, ?_⟩; have af := ae.mk (Kd.b7 (RX cu.out) (Kd.aV aR) hb); have ag := ae.mk (Kd.cm (Kd.cY (Kd.cY (Kd.gM (RX cE.out) hb) (Kd.aV aR)) (Kd.aV dg)) (fun _ h_ => h_.1)); have ah := ae.mk (Kd.b7 (RX cB.out) (Kd.aV aR) hb); have am := ae.mk (Kd.cm (Kd.cY (Kd.cY (Kd.gM (RX cJ.out) hb) (Kd.aV aR)) (Kd.aV dg)) (fun _ h_ => h_.1)); have aJ := ax cL hb; have aW := ax cU hb; have be := ax dt hb; have bJ := ae.mk (Kd.b7 (RX cZ.out) (Kd.aV aR) hb); have bZ := ae.mk (Kd.cm (Kd.cY (Kd.cY (Kd.gM (RX dn.out) hb) (Kd.aV aR)) (Kd.aV dg)) (fun _ h_ => h_.1)); have b0 := ae.mk (Kd.b7 (RX dm.out) (Kd.aV aR) hb); have cy := ae.mk (Kd.cm (Kd.cY (Kd.cY (Kd.gM (RX dQ.out) hb) (Kd.aV aR)) (Kd.aV dg)) (fun _ h_ => h_.1)); have cA := ax dU hb; have cF := ax eb hb; have db := ax eI hb; have dR := ae.mk (Kd.eB (Kd.bh (Kd.bh (Kd.bh (Kd.bh aR (Kd.bg (RX cu.out))) (Kd.bg (RX cB.out))) (Kd.bg (RX cZ.out))) (Kd.bg (RX dm.out))) (cG (BX HB.out))); have eh := ae.mk (Kd.eB (Kd.bh (Kd.bh (Kd.bh (Kd.bh (Kd.bh (Kd.bh (Kd.bh (Kd.bh dg (Kd.bg (RX cu.out))) (Kd.bg (RX cE.out))) (Kd.bg (RX cB.out))) (Kd.bg (RX cJ.out))) (Kd.bg (RX cZ.out))) (Kd.bg (RX dn.out))) (Kd.bg (RX dm.out))) (Kd.bg (RX dQ.out))) (cG (BX HB.out))); have ef := bn HB hb; clear cu; clear cE; clear cB; clear cJ; clear cL; clear cU; clear dt; clear cZ; clear dn; clear dm; clear dQ; clear dU; clear eb; clear eI; clear HB; have cu := af; have cE := ag; have cB := ah; have cJ := am; have cL := aJ; have cU := aW; have dt := be; have cZ := bJ; have dn := bZ; have dm := b0; have dQ := cy; have dU := cA; have eb := cF; have eI := db; have eE := dR; have eR := eh; have HB := ef; clear af ag ah am aJ aW be bJ bZ b0 cy cA cF db dR eh ef; (try clear hb); (try clear hb2); (try clear hk); (try clear hi); (try clear aR); (try clear dg)) | ((with_reducible refine dD (f := 22) rfl ?_); refine dC (some 28) rfl rfl Try.func22 (by kernel_rfl) rfl #[.string (⟨#[102]⟩ : ByteArray), .string (⟨#[98]⟩ : ByteArray)] rfl MX ?_; (with_reducible refine (dx.calls (⟨#[102]⟩ : ByteArray) (⟨#[98]⟩ : ByteArray) El CB GH CI _ A8.out).mono ?_); rintro e w59 ⟨aqB, ao_, rfl, aR, dg, hb⟩; refine ⟨_, rfl, ?_⟩; have af := ae.mk (Kd.b7 (RX cu.out) (Kd.aV aR) hb); have ag := ae.mk (Kd.cm (Kd.cY (Kd.cY (Kd.gM (RX cE.out) hb) (Kd.aV aR)) (Kd.aV dg)) (fun _ h_ => h_.1)); have ah := ae.mk (Kd.b7 (RX cB.out) (Kd.aV aR) hb); have am := ae.mk (Kd.cm (Kd.cY (Kd.cY (Kd.gM (RX cJ.out) hb) (Kd.aV aR)) (Kd.aV dg)) (fun _ h_ => h_.1)); have aJ := ax cL hb; have aW := ax cU hb; have be := ax dt hb; have bJ := ae.mk (Kd.b7 (RX cZ.out) (Kd.aV aR) hb); have bZ := ae.mk (Kd.cm (Kd.cY (Kd.cY (Kd.gM (RX dn.out) hb) (Kd.aV aR)) (Kd.aV dg)) (fun _ h_ => h_.1)); have b0 := ae.mk (Kd.b7 (RX dm.out) (Kd.aV aR) hb); have cy := ae.mk (Kd.cm (Kd.cY (Kd.cY (Kd.gM (RX dQ.out) hb) (Kd.aV aR)) (Kd.aV dg)) (fun _ h_ => h_.1)); have cA := ax dU hb; have cF := ax eb hb; have db := ax eI hb; have dR := ae.mk (Kd.b7 (RX eE.out) (Kd.aV aR) hb); have eh := ae.mk (Kd.cm (Kd.cY (Kd.cY (Kd.gM (RX eR.out) hb) (Kd.aV aR)) (Kd.aV dg)) (fun _ h_ => h_.1)); have ef := ae.mk (Kd.eB (Kd.bh (Kd.bh (Kd.bh (Kd.bh (Kd.bh aR (Kd.bg (RX cu.out))) (Kd.bg (RX cB.out))) (Kd.bg (RX cZ.out))) (Kd.bg (RX dm.out))) (Kd.bg (RX eE.out))) (cG (BX HB.out))); have ex := ae.mk (Kd.eB (Kd.bh (Kd.bh (Kd.bh (Kd.bh (Kd.bh (Kd.bh (Kd.bh (Kd.bh (Kd.bh (Kd.bh dg (Kd.bg (RX cu.out))) (Kd.bg (RX cE.out))) (Kd.bg (RX cB.out))) (Kd.bg (RX cJ.out))) (Kd.bg (RX cZ.out))) (Kd.bg (RX dn.out))) (Kd.bg (RX dm.out))) (Kd.bg (RX dQ.out))) (Kd.bg (RX eE.out))) (Kd.bg (RX eR.out))) (cG (BX HB.out))); have ey := bn HB hb; clear cu; clear cE; clear cB; clear cJ; clear cL; clear cU; clear dt; clear cZ; clear dn; clear dm; clear dQ; clear dU; clear eb; clear eI; clear eE; clear eR; clear HB; have cu := af; have cE := ag; have cB := ah; have cJ := am; have cL := aJ; have cU := aW; have dt := be; have cZ := bJ; have dn := bZ; have dm := b0; have dQ := cy; have dU := cA; have eb := cF; have eI := db; have eE := dR; have eR := eh; have eU := ef; have fk := ex; have HB := ey; clear af ag ah am aJ aW be bJ bZ b0 cy cA cF db dR eh ef ex ey; (try clear hb); (try clear hb2); (try clear hk); (try clear hi); (try clear aR); (try clear dg)) | ((with_reducible refine bz (N := 29) rfl ?_); (try (refine gN (by rfl) ?_; dsimp only)); refine Kd.pI (Kd.int .i64) _ 3 ?hg (N := 29) ?hd (xs := ([0, 1] : List Int)) (inner := [.int .i64 0, .int .i64 1]) (ok := fun _ => True) (fh := fun _ => True) ?hr ?hp (fun _ hk => hk) trivial (Below.refl _ _) (Nat.le_refl _) (by simp) ?_; (case hd => rfl); (case hg => rfl); (case hr => first | (go_simp; done) | (go_simp; rfl) | (obtain ⟨_, _, rfl⟩ := Kd.bm (ae.out (by assumption : ae (Kd.R _ _ _ _ _ _ _))); go_simp; done)); (case hp => exact (bU.one (show Kd.M (Kd.int .i64) _ _ _ 0 [.int .i64 0] from rfl) (bU.one (show Kd.M (Kd.int .i64) _ _ _ 1 [.int .i64 1] from rfl) (bU.none _ _)))); intro v194 w60 ua hb kX kN; clear kX kN; (first | rw [← T4.out] at ua | (simp only [Int.reduceToNat] at ua; rw [← T4.out] at ua)); have af := ax cu hb; have ag := ax cE hb; have ah := ax cB hb; have am := ax cJ hb; have aJ := ae.mk (Kd.b7 (RX cL.out) (Kd.aV ua) hb); have aW := ae.mk (Kd.b7 (RX cU.out) (Kd.aV ua) hb); have be := ax dt hb; have bJ := ax cZ hb; have bZ := ax dn hb; have b0 := ax dm hb; have cy := ax dQ hb; have cA := ae.mk (Kd.b7 (RX dU.out) (Kd.aV ua) hb); have cF := ae.mk (Kd.b7 (RX eb.out) (Kd.aV ua) hb); have db := ax eI hb; have dR := ax eE hb; have eh := ax eR hb; have ef := ax eU hb; have ex := ax fk hb; have ey := ae.mk (Kd.eB (Kd.bh (Kd.bh (Kd.bh (Kd.bh ua (Kd.bg (RX cL.out))) (Kd.bg (RX cU.out))) (Kd.bg (RX dU.out))) (Kd.bg (RX eb.out))) (cG (BX HB.out))); have eZ := bn HB hb; clear cu; clear cE; clear cB; clear cJ; clear cL; clear cU; clear dt; clear cZ; clear dn; clear dm; clear dQ; clear dU; clear eb; clear eI; clear eE; clear eR; clear eU; clear fk; clear HB; have cu := af; have cE := ag; have cB := ah; have cJ := am; have cL := aJ; have cU := aW; have dt := be; have cZ := bJ; have dn := bZ; have dm := b0; have dQ := cy; have dU := cA; have eb := cF; have eI := db; have eE := dR; have eR := eh; have eU := ef; have fk := ex; have fu := ey; have HB := eZ; clear af ag ah am aJ aW be bJ bZ b0 cy cA cF db dR eh ef ex ey eZ; clear hb ua) | ((with_reducible refine bz (N := 30) rfl ?_); (try (refine gN (by rfl) ?_; dsimp only)); refine Kd.pI (Kd.int .i64) _ 3 ?hg (N := 30) ?hd (xs := ([0, 0] : List Int)) (inner := [.int .i64 0, .int .i64 0]) (ok := fun _ => True) (fh := fun _ => True) ?hr ?hp (fun _ hk => hk) trivial (Below.refl _ _) (Nat.le_refl _) (by simp) ?_; (case hd => rfl); (case hg => rfl); (case hr => first | (go_simp; done) | (go_simp; rfl) | (obtain ⟨_, _, rfl⟩ := Kd.bm (ae.out (by assumption : ae (Kd.R _ _ _ _ _ _ _))); go_simp; done)); (case hp => exact (bU.one (show Kd.M (Kd.int .i64) _ _ _ 0 [.int .i64 0] from rfl) (bU.one (show Kd.M (Kd.int .i64) _ _ _ 0 [.int .i64 0] from rfl) (bU.none _ _)))); intro aos w62 sC hb kX kN; clear kX kN; (first | rw [← Wz.out] at sC | (simp only [Int.reduceToNat] at sC; rw [← Wz.out] at sC)); have af := ax cu hb; have ag := ax cE hb; have ah := ax cB hb; have am := ax cJ hb; have aJ := ae.mk (Kd.b7 (RX cL.out) (Kd.aV sC) hb); have aW := ae.mk (Kd.b7 (RX cU.out) (Kd.aV sC) hb); have be := ax dt hb; have bJ := ax cZ hb; have bZ := ax dn hb; have b0 := ax dm hb; have cy := ax dQ hb; have cA := ae.mk (Kd.b7 (RX dU.out) (Kd.aV sC) hb); have cF := ae.mk (Kd.b7 (RX eb.out) (Kd.aV sC) hb); have db := ax eI hb; have dR := ax eE hb; have eh := ax eR hb; have ef := ax eU hb; have ex := ax fk hb; have ey := ae.mk (Kd.b7 (RX fu.out) (Kd.aV sC) hb); have eZ := ae.mk (Kd.eB (Kd.bh (Kd.bh (Kd.bh (Kd.bh (Kd.bh sC (Kd.bg (RX cL.out))) (Kd.bg (RX cU.out))) (Kd.bg (RX dU.out))) (Kd.bg (RX eb.out))) (Kd.bg (RX fu.out))) (cG (BX HB.out))); have ft := bn HB hb; clear cu; clear cE; clear cB; clear cJ; clear cL; clear cU; clear dt; clear cZ; clear dn; clear dm; clear dQ; clear dU; clear eb; clear eI; clear eE; clear eR; clear eU; clear fk; clear fu; clear HB; have cu := af; have cE := ag; have cB := ah; have cJ := am; have cL := aJ; have cU := aW; have dt := be; have cZ := bJ; have dn := bZ; have dm := b0; have dQ := cy; have dU := cA; have eb := cF; have eI := db; have eE := dR; have eR := eh; have eU := ef; have fk := ex; have fu := ey; have gc := eZ; have HB := ft; clear af ag ah am aJ aW be bJ bZ b0 cy cA cF db dR eh ef ex ey eZ ft; clear hb sC; obtain ⟨aho, agC, ajU⟩ := Kd.bm eE.out; subst ajU; obtain ⟨ac1, agH, aaD⟩ := Kd.bm eR.out; subst aaD; obtain ⟨S8, WH, Nx⟩ := Kd.bm eU.out; subst Nx; obtain ⟨ah', aij, aei⟩ := Kd.bm fk.out; subst aei; obtain ⟨aeO, adD, ac7⟩ := Kd.bm fu.out; subst ac7; obtain ⟨aj_, ZM, aif⟩ := Kd.bm gc.out; subst aif) | ((with_reducible refine dD (f := 10) rfl ?_); refine dC (some 31) rfl rfl Try.func10 (by kernel_rfl) rfl #[.agg #[.int .i64 F0, .string DD, .slice aho Fx.length agC, .slice ac1 t182.length agH], .agg #[.int .i64 El, .string CB, .slice S8 GH.length WH, .slice ah' CI.length aij], .slice aeO KU.length adD, .slice aj_ LM.length ZM] rfl MX ?_; (with_reducible refine (ib.calls F0 DD _ _ Fx _ _ t182 El CB _ _ GH _ _ CI _ _ KU _ _ LM akC rS _ ?aH ?aG ?bt ?bv ?cX ?cW ?fE ?fS ?fN ?fI ?fJ ?fF A9.out).mono ?_); (case aH => exact CX ((Kd.b_ eE.out).2.2)); (case aG => exact (Kd.b_ eE.out).2.1); (case bt => exact CX ((Kd.b_ eR.out).2.2)); (case bv => exact (Kd.b_ eR.out).2.1); (case cX => exact CX ((Kd.b_ eU.out).2.2)); (case cW => exact (Kd.b_ eU.out).2.1); (case fE => exact CX ((Kd.b_ fk.out).2.2)); (case fS => exact (Kd.b_ fk.out).2.1); (case fN => exact CX ((Kd.b_ fu.out).2.2)); (case fI => exact (Kd.b_ fu.out).2.1); (case fJ => exact CX ((Kd.b_ gc.out).2.2)); (case fF => exact (Kd.b_ gc.out).2.1); rintro e w70 ⟨ar', rfl, aR, hb⟩; refine ⟨_, rfl, ?_⟩; have af := ax cu hb; have ag := ax cE hb; have ah := ax cB hb; have am := ax cJ hb; have aJ := ax cL hb; have aW := ax cU hb; have be := ae.mk (Kd.b7 (RX dt.out) (Kd.aV aR) hb); have bJ := ax cZ hb; have bZ := ax dn hb; have b0 := ax dm hb; have cy := ax dQ hb; have cA := ax dU hb; have cF := ax eb hb; have db := ae.mk (Kd.b7 (RX eI.out) (Kd.aV aR) hb); have dR := ax eE hb; have eh := ax eR hb; have ef := ax eU hb; have ex := ax fk hb; have ey := ax fu hb; have eZ := ax gc hb; have ft := ae.mk (Kd.eB (Kd.bh (Kd.bh aR (Kd.bg (RX dt.out))) (Kd.bg (RX eI.out))) (cG (BX HB.out))); have fV := bn HB hb; clear cu; clear cE; clear cB; clear cJ; clear cL; clear cU; clear dt; clear cZ; clear dn; clear dm; clear dQ; clear dU; clear eb; clear eI; clear eE; clear eR; clear eU; clear fk; clear fu; clear gc; clear HB; have cu := af; have cE := ag; have cB := ah; have cJ := am; have cL := aJ; have cU := aW; have dt := be; have cZ := bJ; have dn := bZ; have dm := b0; have dQ := cy; have dU := cA; have eb := cF; have eI := db; have eE := dR; have eR := eh; have eU := ef; have fk := ex; have fu := ey; have gc := eZ; have ii := ft; have HB := fV; clear af ag ah am aJ aW be bJ bZ b0 cy cA cF db dR eh ef ex ey eZ ft fV; (try clear hb); (try clear hb2); (try clear hk); (try clear hi); (try clear aR)) | ((with_reducible refine bz (N := 36) rfl ?_); (try (refine gN (by rfl) ?_; dsimp only)); refine Kd.pI dT _ 48 ?hg (N := 36) ?hd (xs := ([(⟨3, 4⟩ : aw), (⟨1, 2⟩ : aw)] : List (aw))) (inner := [.int .i64 3, .int .i64 4, .int .i64 1, .int .i64 2]) (ok := fun _ => True) (fh := fun _ => True) ?hr ?hp (fun _ hk => hk) trivial (Below.refl _ _) (Nat.le_refl _) (by simp) ?_; (case hd => rfl); (case hg => rfl); (case hr => first | (go_simp; done) | (go_simp; rfl) | (obtain ⟨_, _, rfl⟩ := Kd.bm (ae.out (by assumption : ae (Kd.R _ _ _ _ _ _ _))); go_simp; done)); (case hp => exact (bU.c2 (show Kd.M dT _ _ _ (⟨3, 4⟩ : aw) [.int .i64 3, .int .i64 4] from (i5 _ _ _ (⟨3, 4⟩ : aw) )) (bU.c2 (show Kd.M dT _ _ _ (⟨1, 2⟩ : aw) [.int .i64 1, .int .i64 2] from (i5 _ _ _ (⟨1, 2⟩ : aw) )) (bU.none _ _)))); intro alk w71 vq hb kX kN; clear kX kN; (first | rw [← Xf.out] at vq | (simp only [Int.reduceToNat] at vq; rw [← Xf.out] at vq)); have af := ax cu hb; have ag := ax cE hb; have ah := ax cB hb; have am := ax cJ hb; have aJ := ax cL hb; have aW := ax cU hb; have be := ae.mk (Kd.b7 (RX dt.out) (Kd.aV vq) hb); have bJ := ax cZ hb; have bZ := ax dn hb; have b0 := ax dm hb; have cy := ax dQ hb; have cA := ax dU hb; have cF := ax eb hb; have db := ae.mk (Kd.b7 (RX eI.out) (Kd.aV vq) hb); have dR := ax eE hb; have eh := ax eR hb; have ef := ax eU hb; have ex := ax fk hb; have ey := ax fu hb; have eZ := ax gc hb; have ft := ae.mk (Kd.b7 (RX ii.out) (Kd.aV vq) hb); have fV := ae.mk (Kd.eB (Kd.bh (Kd.bh (Kd.bh vq (Kd.bg (RX dt.out))) (Kd.bg (RX eI.out))) (Kd.bg (RX ii.out))) (cG (BX HB.out))); have hZ := bn HB hb; clear cu; clear cE; clear cB; clear cJ; clear cL; clear cU; clear dt; clear cZ; clear dn; clear dm; clear dQ; clear dU; clear eb; clear eI; clear eE; clear eR; clear eU; clear fk; clear fu; clear gc; clear ii; clear HB; have cu := af; have cE := ag; have cB := ah; have cJ := am; have cL := aJ; have cU := aW; have dt := be; have cZ := bJ; have dn := bZ; have dm := b0; have dQ := cy; have dU := cA; have eb := cF; have eI := db; have eE := dR; have eR := eh; have eU := ef; have fk := ex; have fu := ey; have gc := eZ; have ii := ft; have iB := fV; have HB := hZ; clear af ag ah am aJ aW be bJ bZ b0 cy cA cF db dR eh ef ex ey eZ ft fV hZ; clear hb vq) | ((with_reducible refine bz (N := 39) rfl ?_); (try (refine gN (by rfl) ?_; dsimp only)); refine Kd.pI dT _ 48 ?hg (N := 39) ?hd (xs := ([(⟨1, 5⟩ : aw), (⟨3, 5⟩ : aw)] : List (aw))) (inner := [.int .i64 1, .int .i64 5, .int .i64 3, .int .i64 5]) (ok := fun _ => True) (fh := fun _ => True) ?hr ?hp (fun _ hk => hk) trivial (Below.refl _ _) (Nat.le_refl _) (by simp) ?_; (case hd => rfl); (case hg => rfl); (case hr => first | (go_simp; done) | (go_simp; rfl) | (obtain ⟨_, _, rfl⟩ := Kd.bm (ae.out (by assumption : ae (Kd.R _ _ _ _ _ _ _))); go_simp; done)); (case hp => exact (bU.c2 (show Kd.M dT _ _ _ (⟨1, 5⟩ : aw) [.int .i64 1, .int .i64 5] from (i5 _ _ _ (⟨1, 5⟩ : aw) )) (bU.c2 (show Kd.M dT _ _ _ (⟨3, 5⟩ : aw) [.int .i64 3, .int .i64 5] from (i5 _ _ _ (⟨3, 5⟩ : aw) )) (bU.none _ _)))); intro aqj w73 t_ hb kX kN; clear kX kN; (first | rw [← Tg.out] at t_ | (simp only [Int.reduceToNat] at t_; rw [← Tg.out] at t_)); have af := ax cu hb; have ag := ax cE hb; have ah := ax cB hb; have am := ax cJ hb; have aJ := ax cL hb; have aW := ax cU hb; have be := ae.mk (Kd.b7 (RX dt.out) (Kd.aV t_) hb); have bJ := ax cZ hb; have bZ := ax dn hb; have b0 := ax dm hb; have cy := ax dQ hb; have cA := ax dU hb; have cF := ax eb hb; have db := ae.mk (Kd.b7 (RX eI.out) (Kd.aV t_) hb); have dR := ax eE hb; have eh := ax eR hb; have ef := ax eU hb; have ex := ax fk hb; have ey := ax fu hb; have eZ := ax gc hb; have ft := ae.mk (Kd.b7 (RX ii.out) (Kd.aV t_) hb); have fV := ae.mk (Kd.b7 (RX iB.out) (Kd.aV t_) hb); have hZ := ae.mk (Kd.eB (Kd.bh (Kd.bh (Kd.bh (Kd.bh t_ (Kd.bg (RX dt.out))) (Kd.bg (RX eI.out))) (Kd.bg (RX ii.out))) (Kd.bg (RX iB.out))) (cG (BX HB.out))); have jL := bn HB hb; clear cu; clear cE; clear cB; clear cJ; clear cL; clear cU; clear dt; clear cZ; clear dn; clear dm; clear dQ; clear dU; clear eb; clear eI; clear eE; clear eR; clear eU; clear fk; clear fu; clear gc; clear ii; clear iB; clear HB; have cu := af; have cE := ag; have cB := ah; have cJ := am; have cL := aJ; have cU := aW; have dt := be; have cZ := bJ; have dn := bZ; have dm := b0; have dQ := cy; have dU := cA; have eb := cF; have eI := db; have eE := dR; have eR := eh; have eU := ef; have fk := ex; have fu := ey; have gc := eZ; have ii := ft; have iB := fV; have jg := hZ; have HB := jL; clear af ag ah am aJ aW be bJ bZ b0 cy cA cF db dR eh ef ex ey eZ ft fV hZ jL; clear hb t_; obtain ⟨Ou, Ph, Qh⟩ := Kd.bm iB.out; subst Qh; obtain ⟨FX, CA, Sg⟩ := Kd.bm jg.out; subst Sg) | ((with_reducible refine dD (f := 14) rfl ?_); refine dC (some 40) rfl rfl Try.func14 (by kernel_rfl) rfl #[.slice Ou qk.length Ph, .slice FX OL.length CA] rfl MX ?_; (with_reducible refine (mf.calls _ _ qk _ _ OL du _ ?aH ?aG ?bt ?bv rJ.out).mono ?_); (case aH => exact CX ((Kd.b_ iB.out).2.2)); (case aG => exact (Kd.b_ iB.out).2.1); (case bt => exact CX ((Kd.b_ jg.out).2.2)); (case bv => exact (Kd.b_ jg.out).2.1); rintro e w77 ⟨v210, rfl, aR, hb⟩; refine ⟨_, rfl, ?_⟩; have af := ax cu hb; have ag := ax cE hb; have ah := ax cB hb; have am := ax cJ hb; have aJ := ae.mk (Kd.b7 (RX cL.out) (Kd.aV aR) hb); have aW := ae.mk (Kd.b7 (RX cU.out) (Kd.aV aR) hb); have be := ax dt hb; have bJ := ax cZ hb; have bZ := ax dn hb; have b0 := ax dm hb; have cy := ax dQ hb; have cA := ae.mk (Kd.b7 (RX dU.out) (Kd.aV aR) hb); have cF := ae.mk (Kd.b7 (RX eb.out) (Kd.aV aR) hb); have db := ax eI hb; have dR := ax eE hb; have eh := ax eR hb; have ef := ax eU hb; have ex := ax fk hb; have ey := ae.mk (Kd.b7 (RX fu.out) (Kd.aV aR) hb); have eZ := ae.mk (Kd.b7 (RX gc.out) (Kd.aV aR) hb); have ft := ax ii hb; have fV := ax iB hb; have hZ := ax jg hb; have jL := ae.mk (Kd.eB (Kd.bh (Kd.bh (Kd.bh (Kd.bh (Kd.bh (Kd.bh aR (Kd.bg (RX cL.out))) (Kd.bg (RX cU.out))) (Kd.bg (RX dU.out))) (Kd.bg (RX eb.out))) (Kd.bg (RX fu.out))) (Kd.bg (RX gc.out))) (cG (BX HB.out))); have kz := bn HB hb; clear cu; clear cE; clear cB; clear cJ; clear cL; clear cU; clear dt; clear cZ; clear dn; clear dm; clear dQ; clear dU; clear eb; clear eI; clear eE; clear eR; clear eU; clear fk; clear fu; clear gc; clear ii; clear iB; clear jg; clear HB; have cu := af; have cE := ag; have cB := ah; have cJ := am; have cL := aJ; have cU := aW; have dt := be; have cZ := bJ; have dn := bZ; have dm := b0; have dQ := cy; have dU := cA; have eb := cF; have eI := db; have eE := dR; have eR := eh; have eU := ef; have fk := ex; have fu := ey; have gc := eZ; have ii := ft; have iB := fV; have jg := hZ; have jM := jL; have HB := kz; clear af ag ah am aJ aW be bJ bZ b0 cy cA cF db dR eh ef ex ey eZ ft fV hZ jL kz; (try clear hb); (try clear hb2); (try clear hk); (try clear hi); (try clear aR)) | ((with_reducible refine dD (f := 22) rfl ?_); refine dC (some 42) rfl rfl Try.func22 (by kernel_rfl) rfl #[.string (⟨#[102]⟩ : ByteArray), .string (⟨#[97]⟩ : ByteArray)] rfl MX ?_; (with_reducible refine (dx.calls (⟨#[102]⟩ : ByteArray) (⟨#[97]⟩ : ByteArray) t212 t213 AF AW _ pl.out).mono ?_); rintro e w78 ⟨awT, v218, rfl, aR, dg, hb⟩; refine ⟨_, rfl, ?_⟩; have af := ae.mk (Kd.b7 (RX cu.out) (Kd.aV aR) hb); have ag := ae.mk (Kd.cm (Kd.cY (Kd.cY (Kd.gM (RX cE.out) hb) (Kd.aV aR)) (Kd.aV dg)) (fun _ h_ => h_.1)); have ah := ae.mk (Kd.b7 (RX cB.out) (Kd.aV aR) hb); have am := ae.mk (Kd.cm (Kd.cY (Kd.cY (Kd.gM (RX cJ.out) hb) (Kd.aV aR)) (Kd.aV dg)) (fun _ h_ => h_.1)); have aJ := ax cL hb; have aW := ax cU hb; have be := ax dt hb; have bJ := ae.mk (Kd.b7 (RX cZ.out) (Kd.aV aR) hb); have bZ := ae.mk (Kd.cm (Kd.cY (Kd.cY (Kd.gM (RX dn.out) hb) (Kd.aV aR)) (Kd.aV dg)) (fun _ h_ => h_.1)); have b0 := ae.mk (Kd.b7 (RX dm.out) (Kd.aV aR) hb); have cy := ae.mk (Kd.cm (Kd.cY (Kd.cY (Kd.gM (RX dQ.out) hb) (Kd.aV aR)) (Kd.aV dg)) (fun _ h_ => h_.1)); have cA := ax dU hb; have cF := ax eb hb; have db := ax eI hb; have dR := ae.mk (Kd.b7 (RX eE.out) (Kd.aV aR) hb); have eh := ae.mk (Kd.cm (Kd.cY (Kd.cY (Kd.gM (RX eR.out) hb) (Kd.aV aR)) (Kd.aV dg)) (fun _ h_ => h_.1)); have ef := ae.mk (Kd.b7 (RX eU.out) (Kd.aV aR) hb); have ex := ae.mk (Kd.cm (Kd.cY (Kd.cY (Kd.gM (RX fk.out) hb) (Kd.aV aR)) (Kd.aV dg)) (fun _ h_ => h_.1)); have ey := ax fu hb; have eZ := ax gc hb; have ft := ax ii hb; have fV := ax iB hb; have hZ := ax jg hb; have jL := ax jM hb; have kz := ae.mk (Kd.eB (Kd.bh (Kd.bh (Kd.bh (Kd.bh (Kd.bh (Kd.bh aR (Kd.bg (RX cu.out))) (Kd.bg (RX cB.out))) (Kd.bg (RX cZ.out))) (Kd.bg (RX dm.out))) (Kd.bg (RX eE.out))) (Kd.bg (RX eU.out))) (cG (BX HB.out))); have lK := ae.mk (Kd.eB (Kd.bh (Kd.bh (Kd.bh (Kd.bh (Kd.bh (Kd.bh (Kd.bh (Kd.bh (Kd.bh (Kd.bh (Kd.bh (Kd.bh dg (Kd.bg (RX cu.out))) (Kd.bg (RX cE.out))) (Kd.bg (RX cB.out))) (Kd.bg (RX cJ.out))) (Kd.bg (RX cZ.out))) (Kd.bg (RX dn.out))) (Kd.bg (RX dm.out))) (Kd.bg (RX dQ.out))) (Kd.bg (RX eE.out))) (Kd.bg (RX eR.out))) (Kd.bg (RX eU.out))) (Kd.bg (RX fk.out))) (cG (BX HB.out))); have lU := bn HB hb; clear cu; clear cE; clear cB; clear cJ; clear cL; clear cU; clear dt; clear cZ; clear dn; clear dm; clear dQ; clear dU; clear eb; clear eI; clear eE; clear eR; clear eU; clear fk; clear fu; clear gc; clear ii; clear iB; clear jg; clear jM; clear HB; have cu := af; have cE := ag; have cB := ah; have cJ := am; have cL := aJ; have cU := aW; have dt := be; have cZ := bJ; have dn := bZ; have dm := b0; have dQ := cy; have dU := cA; have eb := cF; have eI := db; have eE := dR; have eR := eh; have eU := ef; have fk := ex; have fu := ey; have gc := eZ; have ii := ft; have iB := fV; have jg := hZ; have jM := jL; have jX := kz; have kZ := lK; have HB := lU; clear af ag ah am aJ aW be bJ bZ b0 cy cA cF db dR eh ef ex ey eZ ft fV hZ jL kz lK lU; (try clear hb); (try clear hb2); (try clear hk); (try clear hi); (try clear aR); (try clear dg)) | ((with_reducible refine dD (f := 22) rfl ?_); refine dC (some 43) rfl rfl Try.func22 (by kernel_rfl) rfl #[.string (⟨#[103]⟩ : ByteArray), .string (⟨#[97]⟩ : ByteArray)] rfl MX ?_; (with_reducible refine (dx.calls (⟨#[103]⟩ : ByteArray) (⟨#[97]⟩ : ByteArray) BL Cb t222 Bn _ un.out).mono ?_); rintro e w79 ⟨apJ, v226, rfl, aR, dg, hb⟩; refine ⟨_, rfl, ?_⟩; have af := ae.mk (Kd.b7 (RX cu.out) (Kd.aV aR) hb); have ag := ae.mk (Kd.cm (Kd.cY (Kd.cY (Kd.gM (RX cE.out) hb) (Kd.aV aR)) (Kd.aV dg)) (fun _ h_ => h_.1)); have ah := ae.mk (Kd.b7 (RX cB.out) (Kd.aV aR) hb); have am := ae.mk (Kd.cm (Kd.cY (Kd.cY (Kd.gM (RX cJ.out) hb) (Kd.aV aR)) (Kd.aV dg)) (fun _ h_ => h_.1)); have aJ := ax cL hb; have aW := ax cU hb; have be := ax dt hb; have bJ := ae.mk (Kd.b7 (RX cZ.out) (Kd.aV aR) hb); have bZ := ae.mk (Kd.cm (Kd.cY (Kd.cY (Kd.gM (RX dn.out) hb) (Kd.aV aR)) (Kd.aV dg)) (fun _ h_ => h_.1)); have b0 := ae.mk (Kd.b7 (RX dm.out) (Kd.aV aR) hb); have cy := ae.mk (Kd.cm (Kd.cY (Kd.cY (Kd.gM (RX dQ.out) hb) (Kd.aV aR)) (Kd.aV dg)) (fun _ h_ => h_.1)); have cA := ax dU hb; have cF := ax eb hb; have db := ax eI hb; have dR := ae.mk (Kd.b7 (RX eE.out) (Kd.aV aR) hb); have eh := ae.mk (Kd.cm (Kd.cY (Kd.cY (Kd.gM (RX eR.out) hb) (Kd.aV aR)) (Kd.aV dg)) (fun _ h_ => h_.1)); have ef := ae.mk (Kd.b7 (RX eU.out) (Kd.aV aR) hb); have ex := ae.mk (Kd.cm (Kd.cY (Kd.cY (Kd.gM (RX fk.out) hb) (Kd.aV aR)) (Kd.aV dg)) (fun _ h_ => h_.1)); have ey := ax fu hb; have eZ := ax gc hb; have ft := ax ii hb; have fV := ax iB hb; have hZ := ax jg hb; have jL := ax jM hb; have kz := ae.mk (Kd.b7 (RX jX.out) (Kd.aV aR) hb); have lK := ae.mk (Kd.cm (Kd.cY (Kd.cY (Kd.gM (RX kZ.out) hb) (Kd.aV aR)) (Kd.aV dg)) (fun _ h_ => h_.1)); have lU := ae.mk (Kd.eB (Kd.bh (Kd.bh (Kd.bh (Kd.bh (Kd.bh (Kd.bh (Kd.bh aR (Kd.bg (RX cu.out))) (Kd.bg (RX cB.out))) (Kd.bg (RX cZ.out))) (Kd.bg (RX dm.out))) (Kd.bg (RX eE.out))) (Kd.bg (RX eU.out))) (Kd.bg (RX jX.out))) (cG (BX HB.out))); have nw := ae.mk (Kd.eB (Kd.bh (Kd.bh (Kd.bh (Kd.bh (Kd.bh (Kd.bh (Kd.bh (Kd.bh (Kd.bh (Kd.bh (Kd.bh (Kd.bh (Kd.bh (Kd.bh dg (Kd.bg (RX cu.out))) (Kd.bg (RX cE.out))) (Kd.bg (RX cB.out))) (Kd.bg (RX cJ.out))) (Kd.bg (RX cZ.out))) (Kd.bg (RX dn.out))) (Kd.bg (RX dm.out))) (Kd.bg (RX dQ.out))) (Kd.bg (RX eE.out))) (Kd.bg (RX eR.out))) (Kd.bg (RX eU.out))) (Kd.bg (RX fk.out))) (Kd.bg (RX jX.out))) (Kd.bg (RX kZ.out))) (cG (BX HB.out))); have nq := bn HB hb; clear cu; clear cE; clear cB; clear cJ; clear cL; clear cU; clear dt; clear cZ; clear dn; clear dm; clear dQ; clear dU; clear eb; clear eI; clear eE; clear eR; clear eU; clear fk; clear fu; clear gc; clear ii; clear iB; clear jg; clear jM; clear jX; clear kZ; clear HB; have cu := af; have cE := ag; have cB := ah; have cJ := am; have cL := aJ; have cU := aW; have dt := be; have cZ := bJ; have dn := bZ; have dm := b0; have dQ := cy; have dU := cA; have eb := cF; have eI := db; have eE := dR; have eR := eh; have eU := ef; have fk := ex; have fu := ey; have gc := eZ; have ii := ft; have iB := fV; have jg := hZ; have jM := jL; have jX := kz; have kZ := lK; have l8 := lU; have mD := nw; have HB := nq; clear af ag ah am aJ aW be bJ bZ b0 cy cA cF db dR eh ef ex ey eZ ft fV hZ jL kz lK lU nw nq; (try clear hb); (try clear hb2); (try clear hk); (try clear hi); (try clear aR); (try clear dg)) | ((with_reducible refine dD (f := 22) rfl ?_); refine dC (some 44) rfl rfl Try.func22 (by kernel_rfl) rfl #[.string (⟨#[102]⟩ : ByteArray), .string (⟨#[98]⟩ : ByteArray)] rfl MX ?_; (with_reducible refine (dx.calls (⟨#[102]⟩ : ByteArray) (⟨#[98]⟩ : ByteArray) t228 t229 Bp t233 _ Ax.out).mono ?_); rintro e w80 ⟨apd, v234, rfl, aR, dg, hb⟩; refine ⟨_, rfl, ?_⟩; have af := ae.mk (Kd.b7 (RX cu.out) (Kd.aV aR) hb); have ag := ae.mk (Kd.cm (Kd.cY (Kd.cY (Kd.gM (RX cE.out) hb) (Kd.aV aR)) (Kd.aV dg)) (fun _ h_ => h_.1)); have ah := ae.mk (Kd.b7 (RX cB.out) (Kd.aV aR) hb); have am := ae.mk (Kd.cm (Kd.cY (Kd.cY (Kd.gM (RX cJ.out) hb) (Kd.aV aR)) (Kd.aV dg)) (fun _ h_ => h_.1)); have aJ := ax cL hb; have aW := ax cU hb; have be := ax dt hb; have bJ := ae.mk (Kd.b7 (RX cZ.out) (Kd.aV aR) hb); have bZ := ae.mk (Kd.cm (Kd.cY (Kd.cY (Kd.gM (RX dn.out) hb) (Kd.aV aR)) (Kd.aV dg)) (fun _ h_ => h_.1)); have b0 := ae.mk (Kd.b7 (RX dm.out) (Kd.aV aR) hb); have cy := ae.mk (Kd.cm (Kd.cY (Kd.cY (Kd.gM (RX dQ.out) hb) (Kd.aV aR)) (Kd.aV dg)) (fun _ h_ => h_.1)); have cA := ax dU hb; have cF := ax eb hb; have db := ax eI hb; have dR := ae.mk (Kd.b7 (RX eE.out) (Kd.aV aR) hb); have eh := ae.mk (Kd.cm (Kd.cY (Kd.cY (Kd.gM (RX eR.out) hb) (Kd.aV aR)) (Kd.aV dg)) (fun _ h_ => h_.1)); have ef := ae.mk (Kd.b7 (RX eU.out) (Kd.aV aR) hb); have ex := ae.mk (Kd.cm (Kd.cY (Kd.cY (Kd.gM (RX fk.out) hb) (Kd.aV aR)) (Kd.aV dg)) (fun _ h_ => h_.1)); have ey := ax fu hb; have eZ := ax gc hb; have ft := ax ii hb; have fV := ax iB hb; have hZ := ax jg hb; have jL := ax jM hb; have kz := ae.mk (Kd.b7 (RX jX.out) (Kd.aV aR) hb); have lK := ae.mk (Kd.cm (Kd.cY (Kd.cY (Kd.gM (RX kZ.out) hb) (Kd.aV aR)) (Kd.aV dg)) (fun _ h_ => h_.1)); have lU := ae.mk (Kd.b7 (RX l8.out) (Kd.aV aR) hb); have nw := ae.mk (Kd.cm (Kd.cY (Kd.cY (Kd.gM (RX mD.out) hb) (Kd.aV aR)) (Kd.aV dg)) (fun _ h_ => h_.1)); have nq := ae.mk (Kd.eB (Kd.bh (Kd.bh (Kd.bh (Kd.bh (Kd.bh (Kd.bh (Kd.bh (Kd.bh aR (Kd.bg (RX cu.out))) (Kd.bg (RX cB.out))) (Kd.bg (RX cZ.out))) (Kd.bg (RX dm.out))) (Kd.bg (RX eE.out))) (Kd.bg (RX eU.out))) (Kd.bg (RX jX.out))) (Kd.bg (RX l8.out))) (cG (BX HB.out))); have pm := ae.mk (Kd.eB (Kd.bh (Kd.bh (Kd.bh (Kd.bh (Kd.bh (Kd.bh (Kd.bh (Kd.bh (Kd.bh (Kd.bh (Kd.bh (Kd.bh (Kd.bh (Kd.bh (Kd.bh (Kd.bh dg (Kd.bg (RX cu.out))) (Kd.bg (RX cE.out))) (Kd.bg (RX cB.out))) (Kd.bg (RX cJ.out))) (Kd.bg (RX cZ.out))) (Kd.bg (RX dn.out))) (Kd.bg (RX dm.out))) (Kd.bg (RX dQ.out))) (Kd.bg (RX eE.out))) (Kd.bg (RX eR.out))) (Kd.bg (RX eU.out))) (Kd.bg (RX fk.out))) (Kd.bg (RX jX.out))) (Kd.bg (RX kZ.out))) (Kd.bg (RX l8.out))) (Kd.bg (RX mD.out))) (cG (BX HB.out))); have pp := bn HB hb; clear cu; clear cE; clear cB; clear cJ; clear cL; clear cU; clear dt; clear cZ; clear dn; clear dm; clear dQ; clear dU; clear eb; clear eI; clear eE; clear eR; clear eU; clear fk; clear fu; clear gc; clear ii; clear iB; clear jg; clear jM; clear jX; clear kZ; clear l8; clear mD; clear HB; have cu := af; have cE := ag; have cB := ah; have cJ := am; have cL := aJ; have cU := aW; have dt := be; have cZ := bJ; have dn := bZ; have dm := b0; have dQ := cy; have dU := cA; have eb := cF; have eI := db; have eE := dR; have eR := eh; have eU := ef; have fk := ex; have fu := ey; have gc := eZ; have ii := ft; have iB := fV; have jg := hZ; have jM := jL; have jX := kz; have kZ := lK; have l8 := lU; have mD := nw; have oH := nq; have o0 := pm; have HB := pp; clear af ag ah am aJ aW be bJ bZ b0 cy cA cF db dR eh ef ex ey eZ ft fV hZ jL kz lK lU nw nq pm pp; (try clear hb); (try clear hb2); (try clear hk); (try clear hi); (try clear aR); (try clear dg)) | ((with_reducible refine bz (N := 45) rfl ?_); (try (refine gN (by rfl) ?_; dsimp only)); refine Kd.pI (Kd.int .i64) _ 3 ?hg (N := 45) ?hd (xs := ([0, 1] : List Int)) (inner := [.int .i64 0, .int .i64 1]) (ok := fun _ => True) (fh := fun _ => True) ?hr ?hp (fun _ hk => hk) trivial (Below.refl _ _) (Nat.le_refl _) (by simp) ?_; (case hd => rfl); (case hg => rfl); (case hr => first | (go_simp; done) | (go_simp; rfl) | (obtain ⟨_, _, rfl⟩ := Kd.bm (ae.out (by assumption : ae (Kd.R _ _ _ _ _ _ _))); go_simp; done)); (case hp => exact (bU.one (show Kd.M (Kd.int .i64) _ _ _ 0 [.int .i64 0] from rfl) (bU.one (show Kd.M (Kd.int .i64) _ _ _ 1 [.int .i64 1] from rfl) (bU.none _ _)))); intro ar7 w81 qA hb kX kN; clear kX kN; (first | rw [← WM.out] at qA | (simp only [Int.reduceToNat] at qA; rw [← WM.out] at qA)); have af := ax cu hb; have ag := ax cE hb; have ah := ax cB hb; have am := ax cJ hb; have aJ := ae.mk (Kd.b7 (RX cL.out) (Kd.aV qA) hb); have aW := ae.mk (Kd.b7 (RX cU.out) (Kd.aV qA) hb); have be := ax dt hb; have bJ := ax cZ hb; have bZ := ax dn hb; have b0 := ax dm hb; have cy := ax dQ hb; have cA := ae.mk (Kd.b7 (RX dU.out) (Kd.aV qA) hb); have cF := ae.mk (Kd.b7 (RX eb.out) (Kd.aV qA) hb); have db := ax eI hb; have dR := ax eE hb; have eh := ax eR hb; have ef := ax eU hb; have ex := ax fk hb; have ey := ae.mk (Kd.b7 (RX fu.out) (Kd.aV qA) hb); have eZ := ae.mk (Kd.b7 (RX gc.out) (Kd.aV qA) hb); have ft := ax ii hb; have fV := ax iB hb; have hZ := ax jg hb; have jL := ae.mk (Kd.b7 (RX jM.out) (Kd.aV qA) hb); have kz := ax jX hb; have lK := ax kZ hb; have lU := ax l8 hb; have nw := ax mD hb; have nq := ax oH hb; have pm := ax o0 hb; have pp := ae.mk (Kd.eB (Kd.bh (Kd.bh (Kd.bh (Kd.bh (Kd.bh (Kd.bh (Kd.bh qA (Kd.bg (RX cL.out))) (Kd.bg (RX cU.out))) (Kd.bg (RX dU.out))) (Kd.bg (RX eb.out))) (Kd.bg (RX fu.out))) (Kd.bg (RX gc.out))) (Kd.bg (RX jM.out))) (cG (BX HB.out))); have q9 := bn HB hb; clear cu; clear cE; clear cB; clear cJ; clear cL; clear cU; clear dt; clear cZ; clear dn; clear dm; clear dQ; clear dU; clear eb; clear eI; clear eE; clear eR; clear eU; clear fk; clear fu; clear gc; clear ii; clear iB; clear jg; clear jM; clear jX; clear kZ; clear l8; clear mD; clear oH; clear o0; clear HB; have cu := af; have cE := ag; have cB := ah; have cJ := am; have cL := aJ; have cU := aW; have dt := be; have cZ := bJ; have dn := bZ; have dm := b0; have dQ := cy; have dU := cA; have eb := cF; have eI := db; have eE := dR; have eR := eh; have eU := ef; have fk := ex; have fu := ey; have gc := eZ; have ii := ft; have iB := fV; have jg := hZ; have jM := jL; have jX := kz; have kZ := lK; have l8 := lU; have mD := nw; have oH := nq; have o0 := pm; have pi := pp; have HB := q9; clear af ag ah am aJ aW be bJ bZ b0 cy cA cF db dR eh ef ex ey eZ ft fV hZ jL kz lK lU nw nq pm pp q9; clear hb qA) | ((with_reducible refine bz (N := 46) rfl ?_); (try (refine gN (by rfl) ?_; dsimp only)); refine Kd.pI (Kd.int .i64) _ 3 ?hg (N := 46) ?hd (xs := ([0, 1] : List Int)) (inner := [.int .i64 0, .int .i64 1]) (ok := fun _ => True) (fh := fun _ => True) ?hr ?hp (fun _ hk => hk) trivial (Below.refl _ _) (Nat.le_refl _) (by simp) ?_; (case hd => rfl); (case hg => rfl); (case hr => first | (go_simp; done) | (go_simp; rfl) | (obtain ⟨_, _, rfl⟩ := Kd.bm (ae.out (by assumption : ae (Kd.R _ _ _ _ _ _ _))); go_simp; done)); (case hp => exact (bU.one (show Kd.M (Kd.int .i64) _ _ _ 0 [.int .i64 0] from rfl) (bU.one (show Kd.M (Kd.int .i64) _ _ _ 1 [.int .i64 1] from rfl) (bU.none _ _)))); intro aoo w83 pG hb kX kN; clear kX kN; (first | rw [← YD.out] at pG | (simp only [Int.reduceToNat] at pG; rw [← YD.out] at pG)); have af := ax cu hb; have ag := ax cE hb; have ah := ax cB hb; have am := ax cJ hb; have aJ := ae.mk (Kd.b7 (RX cL.out) (Kd.aV pG) hb); have aW := ae.mk (Kd.b7 (RX cU.out) (Kd.aV pG) hb); have be := ax dt hb; have bJ := ax cZ hb; have bZ := ax dn hb; have b0 := ax dm hb; have cy := ax dQ hb; have cA := ae.mk (Kd.b7 (RX dU.out) (Kd.aV pG) hb); have cF := ae.mk (Kd.b7 (RX eb.out) (Kd.aV pG) hb); have db := ax eI hb; have dR := ax eE hb; have eh := ax eR hb; have ef := ax eU hb; have ex := ax fk hb; have ey := ae.mk (Kd.b7 (RX fu.out) (Kd.aV pG) hb); have eZ := ae.mk (Kd.b7 (RX gc.out) (Kd.aV pG) hb); have ft := ax ii hb; have fV := ax iB hb; have hZ := ax jg hb; have jL := ae.mk (Kd.b7 (RX jM.out) (Kd.aV pG) hb); have kz := ax jX hb; have lK := ax kZ hb; have lU := ax l8 hb; have nw := ax mD hb; have nq := ax oH hb; have pm := ax o0 hb; have pp := ae.mk (Kd.b7 (RX pi.out) (Kd.aV pG) hb); have q9 := ae.mk (Kd.eB (Kd.bh (Kd.bh (Kd.bh (Kd.bh (Kd.bh (Kd.bh (Kd.bh (Kd.bh pG (Kd.bg (RX cL.out))) (Kd.bg (RX cU.out))) (Kd.bg (RX dU.out))) (Kd.bg (RX eb.out))) (Kd.bg (RX fu.out))) (Kd.bg (RX gc.out))) (Kd.bg (RX jM.out))) (Kd.bg (RX pi.out))) (cG (BX HB.out))); have vO := bn HB hb; clear cu; clear cE; clear cB; clear cJ; clear cL; clear cU; clear dt; clear cZ; clear dn; clear dm; clear dQ; clear dU; clear eb; clear eI; clear eE; clear eR; clear eU; clear fk; clear fu; clear gc; clear ii; clear iB; clear jg; clear jM; clear jX; clear kZ; clear l8; clear mD; clear oH; clear o0; clear pi; clear HB; have cu := af; have cE := ag; have cB := ah; have cJ := am; have cL := aJ; have cU := aW; have dt := be; have cZ := bJ; have dn := bZ; have dm := b0; have dQ := cy; have dU := cA; have eb := cF; have eI := db; have eE := dR; have eR := eh; have eU := ef; have fk := ex; have fu := ey; have gc := eZ; have ii := ft; have iB := fV; have jg := hZ; have jM := jL; have jX := kz; have kZ := lK; have l8 := lU; have mD := nw; have oH := nq; have o0 := pm; have pi := pp; have se := q9; have HB := vO; clear af ag ah am aJ aW be bJ bZ b0 cy cA cF db dR eh ef ex ey eZ ft fV hZ jL kz lK lU nw nq pm pp q9 vO; clear hb pG) | ((with_reducible refine bz (N := 47) rfl ?_); (try (refine gN (by rfl) ?_; dsimp only)); refine Kd.pI (Kd.int .i64) _ 3 ?hg (N := 47) ?hd (xs := ([0, 1] : List Int)) (inner := [.int .i64 0, .int .i64 1]) (ok := fun _ => True) (fh := fun _ => True) ?hr ?hp (fun _ hk => hk) trivial (Below.refl _ _) (Nat.le_refl _) (by simp) ?_; (case hd => rfl); (case hg => rfl); (case hr => first | (go_simp; done) | (go_simp; rfl) | (obtain ⟨_, _, rfl⟩ := Kd.bm (ae.out (by assumption : ae (Kd.R _ _ _ _ _ _ _))); go_simp; done)); (case hp => exact (bU.one (show Kd.M (Kd.int .i64) _ _ _ 0 [.int .i64 0] from rfl) (bU.one (show Kd.M (Kd.int .i64) _ _ _ 1 [.int .i64 1] from rfl) (bU.none _ _)))); intro arW w85 pg hb kX kN; clear kX kN; (first | rw [← SR.out] at pg | (simp only [Int.reduceToNat] at pg; rw [← SR.out] at pg)); have af := ax cu hb; have ag := ax cE hb; have ah := ax cB hb; have am := ax cJ hb; have aJ := ae.mk (Kd.b7 (RX cL.out) (Kd.aV pg) hb); have aW := ae.mk (Kd.b7 (RX cU.out) (Kd.aV pg) hb); have be := ax dt hb; have bJ := ax cZ hb; have bZ := ax dn hb; have b0 := ax dm hb; have cy := ax dQ hb; have cA := ae.mk (Kd.b7 (RX dU.out) (Kd.aV pg) hb); have cF := ae.mk (Kd.b7 (RX eb.out) (Kd.aV pg) hb); have db := ax eI hb; have dR := ax eE hb; have eh := ax eR hb; have ef := ax eU hb; have ex := ax fk hb; have ey := ae.mk (Kd.b7 (RX fu.out) (Kd.aV pg) hb); have eZ := ae.mk (Kd.b7 (RX gc.out) (Kd.aV pg) hb); have ft := ax ii hb; have fV := ax iB hb; have hZ := ax jg hb; have jL := ae.mk (Kd.b7 (RX jM.out) (Kd.aV pg) hb); have kz := ax jX hb; have lK := ax kZ hb; have lU := ax l8 hb; have nw := ax mD hb; have nq := ax oH hb; have pm := ax o0 hb; have pp := ae.mk (Kd.b7 (RX pi.out) (Kd.aV pg) hb); have q9 := ae.mk (Kd.b7 (RX se.out) (Kd.aV pg) hb); have vO := ae.mk (Kd.eB (Kd.bh (Kd.bh (Kd.bh (Kd.bh (Kd.bh (Kd.bh (Kd.bh (Kd.bh (Kd.bh pg (Kd.bg (RX cL.out))) (Kd.bg (RX cU.out))) (Kd.bg (RX dU.out))) (Kd.bg (RX eb.out))) (Kd.bg (RX fu.out))) (Kd.bg (RX gc.out))) (Kd.bg (RX jM.out))) (Kd.bg (RX pi.out))) (Kd.bg (RX se.out))) (cG (BX HB.out))); have C7 := bn HB hb; clear cu; clear cE; clear cB; clear cJ; clear cL; clear cU; clear dt; clear cZ; clear dn; clear dm; clear dQ; clear dU; clear eb; clear eI; clear eE; clear eR; clear eU; clear fk; clear fu; clear gc; clear ii; clear iB; clear jg; clear jM; clear jX; clear kZ; clear l8; clear mD; clear oH; clear o0; clear pi; clear se; clear HB; have cu := af; have cE := ag; have cB := ah; have cJ := am; have cL := aJ; have cU := aW; have dt := be; have cZ := bJ; have dn := bZ; have dm := b0; have dQ := cy; have dU := cA; have eb := cF; have eI := db; have eE := dR; have eR := eh; have eU := ef; have fk := ex; have fu := ey; have gc := eZ; have ii := ft; have iB := fV; have jg := hZ; have jM := jL; have jX := kz; have kZ := lK; have l8 := lU; have mD := nw; have oH := nq; have o0 := pm; have pi := pp; have se := q9; have AO := vO; have HB := C7; clear af ag ah am aJ aW be bJ bZ b0 cy cA cF db dR eh ef ex ey eZ ft fV hZ jL kz lK lU nw nq pm pp q9 vO C7; clear hb pg; obtain ⟨Vn, Yg, N5⟩ := Kd.bm AO.out; subst N5; obtain ⟨S3, UF, Oe⟩ := Kd.bm se.out; subst Oe; obtain ⟨aaX, aiw, afu⟩ := Kd.bm pi.out; subst afu; obtain ⟨HV, KI, yt⟩ := Kd.bm jX.out; subst yt; obtain ⟨Wv, Vi, Ma⟩ := Kd.bm kZ.out; subst Ma; obtain ⟨aec, ajM, adU⟩ := Kd.bm l8.out; subst adU; obtain ⟨ZL, ahG, Zv⟩ := Kd.bm mD.out; subst Zv; obtain ⟨aeF, agR, aaN⟩ := Kd.bm oH.out; subst aaN; obtain ⟨acs, aaR, aiW⟩ := Kd.bm o0.out; subst aiW) | ((with_reducible refine dD (f := 17) rfl ?_); refine dC (some 49) rfl rfl Try.func17 (by kernel_rfl) rfl #[.agg #[.int .i64 t212, .string t213, .slice HV AF.length KI, .slice Wv AW.length Vi], .agg #[.int .i64 BL, .string Cb, .slice aec t222.length ajM, .slice ZL Bn.length ahG], .agg #[.int .i64 t228, .string t229, .slice aeF Bp.length agR, .slice acs t233.length aaR], .agg #[.slice aaX FA.length aiw, .slice S3 J4.length UF, .slice Vn RU.length Yg, .int .i64 2]] rfl MX ?_; (with_reducible refine (j6.calls t212 t213 _ _ AF _ _ AW BL Cb _ _ t222 _ _ Bn t228 t229 _ _ Bp _ _ t233 _ _ FA _ _ J4 _ _ RU 2 true UT _ ?aH ?aG ?bt ?bv ?cX ?cW ?fE ?fS ?fN ?fI ?fJ ?fF ?jW ?jR ?jV ?jP ?jQ ?jU AQ.out).mono ?_); (case aH => exact CX ((Kd.b_ jX.out).2.2)); (case aG => exact (Kd.b_ jX.out).2.1); (case bt => exact CX ((Kd.b_ kZ.out).2.2)); (case bv => exact (Kd.b_ kZ.out).2.1); (case cX => exact CX ((Kd.b_ l8.out).2.2)); (case cW => exact (Kd.b_ l8.out).2.1); (case fE => exact CX ((Kd.b_ mD.out).2.2)); (case fS => exact (Kd.b_ mD.out).2.1); (case fN => exact CX ((Kd.b_ oH.out).2.2)); (case fI => exact (Kd.b_ oH.out).2.1); (case fJ => exact CX ((Kd.b_ o0.out).2.2)); (case fF => exact (Kd.b_ o0.out).2.1); (case jW => exact CX ((Kd.b_ pi.out).2.2)); (case jR => exact (Kd.b_ pi.out).2.1); (case jV => exact CX ((Kd.b_ se.out).2.2)); (case jP => exact (Kd.b_ se.out).2.1); (case jQ => exact CX ((Kd.b_ AO.out).2.2)); (case jU => exact (Kd.b_ AO.out).2.1); rintro e w96 ⟨rfl, hb⟩; refine ⟨_, rfl, ?_⟩; have af := ax cu hb; have ag := ax cE hb; have ah := ax cB hb; have am := ax cJ hb; have aJ := ax cL hb; have aW := ax cU hb; have be := ax dt hb; have bJ := ax cZ hb; have bZ := ax dn hb; have b0 := ax dm hb; have cy := ax dQ hb; have cA := ax dU hb; have cF := ax eb hb; have db := ax eI hb; have dR := ax eE hb; have eh := ax eR hb; have ef := ax eU hb; have ex := ax fk hb; have ey := ax fu hb; have eZ := ax gc hb; have ft := ax ii hb; have fV := ax iB hb; have hZ := ax jg hb; have jL := ax jM hb; have kz := ax jX hb; have lK := ax kZ hb; have lU := ax l8 hb; have nw := ax mD hb; have nq := ax oH hb; have pm := ax o0 hb; have pp := ax pi hb; have q9 := ax se hb; have vO := ax AO hb; have C7 := bn HB hb; clear cu; clear cE; clear cB; clear cJ; clear cL; clear cU; clear dt; clear cZ; clear dn; clear dm; clear dQ; clear dU; clear eb; clear eI; clear eE; clear eR; clear eU; clear fk; clear fu; clear gc; clear ii; clear iB; clear jg; clear jM; clear jX; clear kZ; clear l8; clear mD; clear oH; clear o0; clear pi; clear se; clear AO; clear HB; have cu := af; have cE := ag; have cB := ah; have cJ := am; have cL := aJ; have cU := aW; have dt := be; have cZ := bJ; have dn := bZ; have dm := b0; have dQ := cy; have dU := cA; have eb := cF; have eI := db; have eE := dR; have eR := eh; have eU := ef; have fk := ex; have fu := ey; have gc := eZ; have ii := ft; have iB := fV; have jg := hZ; have jM := jL; have jX := kz; have kZ := lK; have l8 := lU; have mD := nw; have oH := nq; have o0 := pm; have pi := pp; have se := q9; have AO := vO; have HB := C7; clear af ag ah am aJ aW be bJ bZ b0 cy cA cF db dR eh ef ex ey eZ ft fV hZ jL kz lK lU nw nq pm pp q9 vO C7; (try clear hb); (try clear hb2); (try clear hk); (try clear hi); obtain ⟨afG, ah1, Pq⟩ := Kd.bm dt.out; subst Pq; have Pt : 0 ≤ (0 : Int) := (by omega); have N9 : 0 < (dL.length : Int) := of_decide_eq_true AX; obtain ⟨axv, Y', Mc, NF⟩ := iZ (Kd.b_ dt.out).2.2 0 Pt N9; cases Y'; have anh : (0 < dL.length) = True := eq_true (by omega); (try rw [show ((0 : Int)).toNat = 0 from rfl] at Mc); (try rw [show 0 * 2 = 0 from rfl] at Mc); (try rw [Addr.add_zero'] at Mc); (try rw [show ((0 : Int)).toNat = 0 from rfl] at NF); (try rw [show 0 * 2 = 0 from rfl] at NF); (try rw [Addr.add_zero'] at NF); replace Pt := eq_true Pt; replace N9 := eq_true N9; obtain ⟨aoM, ani, abY⟩ := Kd.bm eI.out; subst abY; have NH : 0 ≤ (0 : Int) := (by omega); have R6 : 0 < (t173.length : Int) := of_decide_eq_true AX; obtain ⟨XN, agy, Lg, Lz⟩ := iZ (Kd.b_ eI.out).2.2 0 NH R6; cases agy; have awQ : (0 < t173.length) = True := eq_true (by omega); (try rw [show ((0 : Int)).toNat = 0 from rfl] at Lg); (try rw [show 0 * 2 = 0 from rfl] at Lg); (try rw [Addr.add_zero'] at Lg); (try rw [show ((0 : Int)).toNat = 0 from rfl] at Lz); (try rw [show 0 * 2 = 0 from rfl] at Lz); (try rw [Addr.add_zero'] at Lz); replace NH := eq_true NH; replace R6 := eq_true R6; have Sk : 0 ≤ (1 : Int) := (by omega); have M_ : 1 < (t173.length : Int) := of_decide_eq_true AX; obtain ⟨ajr, aaW, Oa, RM⟩ := iZ (Kd.b_ eI.out).2.2 1 Sk M_; obtain rfl : XN = ajr := (by injection aaW); (try simp only [show (1 : Int).toNat = 1 from rfl, Nat.reduceMul, Nat.reduceEqDiff, Go.Addr.add, ↓reduceIte] at Oa); (try simp only [show (1 : Int).toNat = 1 from rfl, Nat.reduceMul, Nat.reduceEqDiff, Go.Addr.add, ↓reduceIte] at RM); have aoW : (1 < t173.length) = True := eq_true (by omega); (try rw [show ((1 : Int)).toNat = 1 from rfl] at Oa); (try rw [show 1 * 2 = 2 from rfl] at Oa); (try rw [show ((1 : Int)).toNat = 1 from rfl] at RM); (try rw [show 1 * 2 = 2 from rfl] at RM); replace Sk := eq_true Sk; replace M_ := eq_true M_; have OA : 0 ≤ (2 : Int) := (by omega); have MT : 2 < (t173.length : Int) := of_decide_eq_true AX; obtain ⟨ag8, abX, OR, Nu⟩ := iZ (Kd.b_ eI.out).2.2 2 OA MT; obtain rfl : XN = ag8 := (by injection abX); (try simp only [show (2 : Int).toNat = 2 from rfl, Nat.reduceMul, Nat.reduceEqDiff, Go.Addr.add, ↓reduceIte] at OR); (try simp only [show (2 : Int).toNat = 2 from rfl, Nat.reduceMul, Nat.reduceEqDiff, Go.Addr.add, ↓reduceIte] at Nu); have aqH : (2 < t173.length) = True := eq_true (by omega); (try rw [show ((2 : Int)).toNat = 2 from rfl] at OR); (try rw [show 2 * 2 = 4 from rfl] at OR); (try rw [show ((2 : Int)).toNat = 2 from rfl] at Nu); (try rw [show 2 * 2 = 4 from rfl] at Nu); replace OA := eq_true OA; replace MT := eq_true MT; obtain ⟨aqL, ap3, af0⟩ := Kd.bm jM.out; subst af0; have M0 : 0 ≤ (0 : Int) := (by omega); have LH : 0 < (du.length : Int) := of_decide_eq_true AX; obtain ⟨ap8, afU, Uy⟩ := Kd.dB (Kd.b_ jM.out).2.2 0 M0 LH; cases afU; have aqz : (0 < du.length) = True := eq_true (by omega); (try rw [show ((0 : Int)).toNat = 0 from rfl] at Uy); (try rw [Addr.add_zero'] at Uy); replace M0 := eq_true M0; replace LH := eq_true LH))
                  go_ret
                  exact ⟨by first | rfl | (simp [bY, bX] <;> rfl) | (simp [*, bY, bX] <;> rfl), BX HB.out⟩
                 ·replace rN := Bool.eq_false_iff.mpr rN
                  subst rN
                  have H1 : (some false) = some true := by rw [if_neg (show ¬ (false = true) by decide)] at H; exact H
                  clear H
                  have H := H1
                  clear H1
                  exact absurd H (by simp)
                ·rw [if_neg mr] at H
                 have akg : ((rd du 0) == 1) = false := beq_eq_false_iff_ne.mpr mr
                 have aen : ((rd du 0) != 1) = true := bne_iff_ne.mpr mr
                 exact absurd H (by simp)
               ·rw [if_neg mG] at H
                exact absurd H (by simp)
              ·rw [if_neg zy] at H
               have ajY : ((du.length : Int) == 1) = false := beq_eq_false_iff_ne.mpr zy
               have aj4 : ((du.length : Int) != 1) = true := bne_iff_ne.mpr zy
               exact absurd H (by simp)
             ·rw [if_neg oo] at H
              have acU : (rS == 15) = false := beq_eq_false_iff_ne.mpr oo
              have af6 : (rS != 15) = true := bne_iff_ne.mpr oo
              exact absurd H (by simp)
            ·rw [if_neg jN] at H
             have BI : (((aq t173 2).f0) == 2 && (((aq t173 2).f1) == 1)) = false := by simpa using jN
             (try (have Zu : decide (((aq t173 2).f0) = 2 && (((aq t173 2).f1) == 1)) = false := by simpa using jN))
             (try (have adT : (((aq t173 2).f0) == 2 && (((aq t173 2).f1) == 1)) = false := by simpa using jN))
             (try (have alw : ¬ (((aq t173 2).f0) = 2 && (((aq t173 2).f1) == 1)) := by simpa using jN))
             clear jN
             exact absurd H (by simp)
           ·rw [if_neg lN] at H
            exact absurd H (by simp)
          ·rw [if_neg lP] at H
           have He : (((aq t173 1).f0) == 1 && (((aq t173 1).f1) == 2)) = false := by simpa using lP
           (try (have ai8 : decide (((aq t173 1).f0) = 1 && (((aq t173 1).f1) == 2)) = false := by simpa using lP))
           (try (have ace : (((aq t173 1).f0) == 1 && (((aq t173 1).f1) == 2)) = false := by simpa using lP))
           (try (have alu : ¬ (((aq t173 1).f0) = 1 && (((aq t173 1).f1) == 2)) := by simpa using lP))
           clear lP
           exact absurd H (by simp)
         ·rw [if_neg mL] at H
          exact absurd H (by simp)
        ·rw [if_neg gQ] at H
         have ui : (((aq t173 0).f0) == 0 && (((aq t173 0).f1) == 6)) = false := by simpa using gQ
         (try (have Lk : decide (((aq t173 0).f0) = 0 && (((aq t173 0).f1) == 6)) = false := by simpa using gQ))
         (try (have acW : (((aq t173 0).f0) == 0 && (((aq t173 0).f1) == 6)) = false := by simpa using gQ))
         (try (have am' : ¬ (((aq t173 0).f0) = 0 && (((aq t173 0).f1) == 6)) := by simpa using gQ))
         clear gQ
         exact absurd H (by simp)
       ·rw [if_neg kS] at H
        exact absurd H (by simp)
      ·rw [if_neg nD] at H
       have Ye : ((t173.length : Int) == 3) = false := beq_eq_false_iff_ne.mpr nD
       have Wi : ((t173.length : Int) != 3) = true := bne_iff_ne.mpr nD
       exact absurd H (by simp)
     ·rw [if_neg kI] at H
      have Lw : (pL == 0) = false := beq_eq_false_iff_ne.mpr kI
      have ahv : (pL != 0) = true := bne_iff_ne.mpr kI
      exact absurd H (by simp)
    ·rw [if_neg fY] at H
     have CZ : (((aq dL 0).f0) == 0 && (((aq dL 0).f1) == 4)) = false := by simpa using fY
     (try (have GP : decide (((aq dL 0).f0) = 0 && (((aq dL 0).f1) == 4)) = false := by simpa using fY))
     (try (have af3 : (((aq dL 0).f0) == 0 && (((aq dL 0).f1) == 4)) = false := by simpa using fY))
     (try (have asi : ¬ (((aq dL 0).f0) = 0 && (((aq dL 0).f1) == 4)) := by simpa using fY))
     clear fY
     exact absurd H (by simp)
   ·rw [if_neg ip] at H
    exact absurd H (by simp)
  ·rw [if_neg en] at H
   have sy : ((dL.length : Int) == 1) = false := beq_eq_false_iff_ne.mpr en
   have Gd : ((dL.length : Int) != 1) = true := bne_iff_ne.mpr en
   exact absurd H (by simp)
 ·rw [if_neg kH] at H
  have IZ : (oU == 0) = false := beq_eq_false_iff_ne.mpr kH
  have ab' : (oU != 0) = true := bne_iff_ne.mpr kH
  exact absurd H (by simp)
def lQ.f : Option Bool := if lQ.g = some true then some true else none
theorem lQ.calls (r : Bool) (w : World) (h : lQ.f = some r) :
  Calls Try.prog 9 #[] w fun e w' => e = .returned (.bool r) ∧ Below w.heap.size w w' := by
 unfold lQ.f at h
 split at h
 ·rename_i c
  obtain rfl := Option.some.inj h
  exact lQ.ai3 w c
 ·cases h
mutual
def d9.j0 : Nat → Int → Int → Bool → Int → ByteArray → List ByteArray → List (aX) → Option (Int)
 | 0, _, _, _, _, _, _, _ => none
 | k + 1, x1, x2, x21, Sr, OC, RY, u' => if x21 = true then (some (-1)) else (d9.l0 k x2 (wrap64 (x1 - 1)) 0 Sr OC RY u')
def d9.l0 : Nat → Int → Int → Int → Int → ByteArray → List ByteArray → List (aX) → Option (Int)
 | 0, _, _, _, _, _, _, _ => none
 | k + 1, x2, x7, x8, Sr, OC, RY, u' => if x8 < (u'.length : Int) then (if 0 ≤ x8 then ((d9.f k ((dp u' x8).f0) ((dp u' x8).f1) ((dp u' x8).f2) ((dp u' x8).f3) x7 (wrap64 (x2 - 1))).bind fun tL => (if tL < 0 then (some (-1)) else (d9.l0 k x2 tL (wrap64 (x8 + 1)) Sr OC RY u'))) else (none)) else (some x7)
def d9.f : Nat → Int → ByteArray → List ByteArray → List (aX) → Int → Int → Option (Int)
 | 0, _, _, _, _, _, _ => none
 | k + 1, aE, aA, ay, au, a1, a2 => if a1 < 1 then (d9.j0 k a1 a2 true aE aA ay au) else (if a2 < 1 then (d9.j0 k a1 a2 true aE aA ay au) else (d9.j0 k a1 a2 (decide ((au.length : Int) > a1)) aE aA ay au))
end
theorem d9.fp : ∀ k, (∀ y0 y1 y2 y3 y4 y5, aI (d9.f k y0 y1 y2 y3 y4 y5) (d9.f (k + 1) y0 y1 y2 y3 y4 y5)) ∧ (∀ y0 y1 y2 y3 y4 y5 y6, aI (d9.j0 k y0 y1 y2 y3 y4 y5 y6) (d9.j0 (k + 1) y0 y1 y2 y3 y4 y5 y6)) ∧ (∀ y0 y1 y2 y3 y4 y5 y6, aI (d9.l0 k y0 y1 y2 y3 y4 y5 y6) (d9.l0 (k + 1) y0 y1 y2 y3 y4 y5 y6))
 | 0 => ⟨fun _ _ _ _ _ _ r h => by simp [d9.f] at h, fun _ _ _ _ _ _ _ r h => by simp [d9.j0] at h, fun _ _ _ _ _ _ _ r h => by simp [d9.l0] at h⟩
 | k + 1 => by
  obtain ⟨dq, ih1, ih2⟩ := d9.fp k
  refine ⟨?_, ?_, ?_⟩ <;> intros <;> (first | unfold d9.f | unfold d9.j0 | unfold d9.l0) <;> repeat' first
   | (with_reducible exact dq _ _ _ _ _ _)
   | (with_reducible exact ih1 _ _ _ _ _ _ _)
   | (with_reducible exact ih2 _ _ _ _ _ _ _)
   | (with_reducible exact aI.refl _)
   | (with_reducible exact aI.none _)
   | (with_reducible refine aI.ite ?_ ?_)
   | (with_reducible refine aI.bind ?_ (fun _ => ?_))
   | exact dq _ _ _ _ _ _
   | exact ih1 _ _ _ _ _ _ _
   | exact ih2 _ _ _ _ _ _ _
   | exact aI.none _
   | refine aI.ite ?_ ?_
   | refine aI.bind ?_ (fun _ => ?_)
theorem d9.mono : ∀ a0 a1 a2 a3 a4 a5 k, aI (d9.f k a0 a1 a2 a3 a4 a5) (d9.f (k + 1) a0 a1 a2 a3 a4 a5) := by
 intro a0 a1 a2 a3 a4 a5 k
 obtain ⟨dq, ih1, ih2⟩ := d9.fp k
 exact dq a0 a1 a2 a3 a4 a5
set_option maxHeartbeats 8000000 in
set_option maxRecDepth 100000 in
theorem d9.calls (k : Nat) : ∀ (aE : Int) (aA : ByteArray) (bB : Option Addr) (bA : Nat) (ay : List ByteArray) (br : Option Addr) (bq : Nat) (au : List (aX)) (a1 : Int) (a2 : Int) (r : Int) (w : World) (fZ : Kd.C Kd.string w bB ay.length ay) (gg : ay.length ≤ bA) (fC : Kd.C k25 w br au.length au) (fL : au.length ≤ bq) (h : d9.f k aE aA ay au a1 a2 = some r),
  Calls Try.prog 76 #[.agg #[.int .i64 aE, .string aA, .slice bB ay.length bA, .slice br au.length bq], .int .i64 a1, .int .i64 a2] w fun e w' => e = .returned (.int .i64 r) ∧ Below w.heap.size w w' := by
 induction k using Nat.strongRecOn with
 | _ k ih =>
 intro aE aA bB bA ay br bq au a1 a2 r w fZ gg fC fL h
 cases k with
 | zero => exact absurd h (by simp [d9.f])
 | succ k =>
 simp only [d9.f] at h
 have nR := Try.underlying25
 have fU := ae.mk fZ
 have gm := ae.mk gg
 clear fZ gg
 have fm := ae.mk fC
 have f_ := ae.mk fL
 clear fC fL
 have HB := ae.mk (Below.refl w.heap.size w)
 have H : (if a1 < 1 then (d9.j0 k a1 a2 true aE aA ay au) else (if a2 < 1 then (d9.j0 k a1 a2 true aE aA ay au) else (d9.j0 k a1 a2 (decide ((au.length : Int) > a1)) aE aA ay au))) = some r := h
 clear h
 have tj := ae.mk H
 clear H
 go_enter Try.func76, Try.ntmps76
 go_upto_region 1 with (first | ((with_reducible refine bz (N := 3) rfl ?_); (try (refine gN (by rfl) ?_; dsimp only)); refine bT ?hg (N := 3) ?hd (cs := #[.int .i64 aE, .string aA, .slice bB ay.length bA, .slice br au.length bq]) (t := 25) ?hr ?_; (case hd => rfl); (case hg => rfl); (case hr => first | (go_simp; done) | (go_simp; rfl) | (obtain ⟨_, _, rfl⟩ := Kd.bm (ae.out (by assumption : ae (Kd.R _ _ _ _ _ _ _))); go_simp; done)); intro SH hg w5 av hb; have af := bn HB hb; have ag := ae.mk (av); have ah := bK HB hg; have am := bK HB hg; clear HB; have HB := af; have mS := ag; have aoJ := ah; have vp := am; clear af ag ah am; clear hb av hg))
 (try simp only [Act.put, List.setIfInBounds_toArray, List.set_cons_zero, List.set_cons_succ])
 go_cut [21] (fun v21 wc => ∃ (kq : Nat) (KB : Bool), v21 = .bool KB ∧ ae (d9.j0 kq a1 a2 KB aE aA ay au = some r) ∧ ae (kq ≤ k) ∧ ae (wc.heap[SH]? = some (.cells #[.int .i64 aE, .string aA, (.slice bB ay.length bA), (.slice br au.length bq)] 25 (0, 0))) ∧ ae (Below w.heap.size w wc))
 case first =>
  have H := tj.out
  clear tj
  by_cases c6 : a1 < 1
  ·rw [if_pos c6] at H
   have gJ : decide (a1 < 1) = true := decide_eq_true c6
   clear c6
   (first | rw [gJ] | (simp only [gY, gX]; rw [gJ]) | skip)
   have H' := ae.mk H
   clear H
   go_wp2
   go_meet
   case rel => exact ⟨_, (true), SX, H', ⟨by first | omega | exact Nat.le_refl _⟩, ⟨by (with_reducible repeat (first | refine bf ?_ _ | refine bd ?_ | refine aU ?_ _)); exact mS.out⟩, ⟨by repeat (first | (with_reducible first | exact HB.out | apply aQ | apply aY | apply aT | refine ao ?_ vp.out) | exact HB.out)⟩⟩
  ·rw [if_neg c6] at H
   have gJ : decide (a1 < 1) = false := decide_eq_false c6
   clear c6
   (first | rw [gJ] | (simp only [gY, gX]; rw [gJ]) | skip)
   by_cases c7 : a2 < 1
   ·rw [if_pos c7] at H
    have q' : decide (a2 < 1) = true := decide_eq_true c7
    clear c7
    have H' := ae.mk H
    clear H
    go_wp2
    go_meet
    case rel => exact ⟨_, (true), SX, H', ⟨by first | omega | exact Nat.le_refl _⟩, ⟨by (with_reducible repeat (first | refine bf ?_ _ | refine bd ?_ | refine aU ?_ _)); exact mS.out⟩, ⟨by repeat (first | (with_reducible first | exact HB.out | apply aQ | apply aY | apply aT | refine ao ?_ vp.out) | exact HB.out)⟩⟩
   ·rw [if_neg c7] at H
    have q' : decide (a2 < 1) = false := decide_eq_false c7
    clear c7
    have H' := ae.mk H
    clear H
    obtain ⟨VK, S0, W9, Tk, YX, Xv, Vy, WU⟩ := d8 mS
    go_wp2
    go_meet
    case rel => exact ⟨_, (decide ((au.length : Int) > a1)), SX, H', ⟨by first | omega | exact Nat.le_refl _⟩, ⟨by (with_reducible repeat (first | refine bf ?_ _ | refine bd ?_ | refine aU ?_ _)); exact mS.out⟩, ⟨by repeat (first | (with_reducible first | exact HB.out | apply aQ | apply aY | apply aT | refine ao ?_ vp.out) | exact HB.out)⟩⟩
 case rest =>
  clear tj
  try clear p2
  try clear c6
  try clear gJ
  try clear c7
  try clear q'
  try clear VK
  try clear S0
  try clear W9
  try clear Tk
  try clear YX
  try clear Xv
  try clear Vy
  try clear WU
  obtain ⟨kq, KB, rfl, HA, qU, mS, HB⟩ := hcut
  cases kq with
  | zero => exact absurd HA.out (by simp [d9.j0])
  | succ pe =>
   have H := HA.out
   clear HA
   simp only [d9.j0] at H
   by_cases c9 : KB = true
   ·subst c9
    have H1 : (some (-1)) = some r := by rw [if_pos rfl] at H; exact H
    clear H
    have H := H1
    clear H1
    obtain rfl := Option.some.inj H
    go_wp2
    go_ret
    exact ⟨by first | rfl | (simp [bY, bX] <;> rfl) | (simp [*, bY, bX] <;> rfl), by repeat (first | (with_reducible first | exact HB.out | apply aQ | apply aY | apply aT | refine ao ?_ vp.out) | exact HB.out)⟩
   ·replace c9 := Bool.eq_false_iff.mpr c9
    subst c9
    have H1 : (d9.l0 pe a2 (wrap64 (a1 - 1)) 0 aE aA ay au) = some r := by rw [if_neg (show ¬ (false = true) by decide)] at H; exact H
    clear H
    have H := H1
    clear H1
    have H' := ae.mk H
    clear H
    go_wp2
    go_loopg [7, 8] pe (fun kq v7 v8 w' => ∃ (fA : Int) (ik : Int), v7 = .int .i64 fA ∧ v8 = .int .i64 ik ∧ ae (d9.l0 kq a2 fA ik aE aA ay au = some r) ∧ ae (kq ≤ pe) ∧ ae (w'.heap[SH]? = some (.cells #[.int .i64 aE, .string aA, (.slice bB ay.length bA), (.slice br au.length bq)] 25 (0, 0))) ∧ ae (Below w.heap.size w w'))
    case atStart => exact ⟨(wrap64 (a1 - 1)), (0), SX, SX, H', ⟨Nat.le_refl _⟩, ⟨by (with_reducible repeat (first | refine bf ?_ _ | refine bd ?_ | refine aU ?_ _)); exact mS.out⟩, ⟨by repeat (first | (with_reducible first | exact HB.out | apply aQ | apply aY | apply aT | refine ao ?_ vp.out) | exact HB.out)⟩⟩
    case round =>
     clear H'
     try clear p2
     try clear c6
     try clear gJ
     try clear p6
     try clear c7
     try clear q'
     try clear c9
     try clear VK
     try clear S0
     try clear W9
     try clear Tk
     try clear YX
     try clear Xv
     try clear Vy
     try clear WU
     try clear p2
     obtain ⟨fA, ik, rfl, rfl, HA, eP, mS, HB⟩ := hrel
     cases gk with
     | zero => exact absurd HA.out (by simp [d9.l0])
     | succ k2 =>
      have H := HA.out
      clear HA
      simp only [d9.l0] at H
      by_cases dO : ik < (au.length : Int)
      ·rw [if_pos dO] at H
       have k6 : decide (ik < (au.length : Int)) = true := decide_eq_true dO
       clear dO
       by_cases gf : 0 ≤ ik
       ·rw [if_pos gf] at H
        have BW : decide (0 ≤ ik) = true := decide_eq_true gf
        clear gf
        replace H := Option.bind_eq_some_iff.mp H
        obtain ⟨tL, Fz, H⟩ := H
        have un := ae.mk Fz
        clear Fz
        by_cases iN : tL < 0
        ·rw [if_pos iN] at H
         have QI : decide (tL < 0) = true := decide_eq_true iN
         clear iN
         obtain rfl := Option.some.inj H
         obtain ⟨FF, G', If, Jk, DH, EI, KE, KG⟩ := d8 mS
         have wk : 0 ≤ (ik : Int) := of_decide_eq_true AX
         have zj : ik < (au.length : Int) := of_decide_eq_true AX
         obtain ⟨aa', Nc, RI, Qt, QG, Ns, xX, xt, zE, wN, DS, DV, FE, E_⟩ := FT fm.out ik wk zj
         cases Ns
         replace xX := (HB.out.cell (World.block_lt_of_cell? w _ xX)).trans xX
         replace xt := (HB.out.cell (World.block_lt_of_cell? w _ xt)).trans xt
         replace zE := (HB.out.cell (World.block_lt_of_cell? w _ zE)).trans zE
         replace wN := (HB.out.cell (World.block_lt_of_cell? w _ wN)).trans wN
         have MI := ae.mk DV
         have Oi := ae.mk DS
         clear DV DS
         have PS := ae.mk E_
         have MK := ae.mk FE
         clear E_ FE
         replace wk := eq_true wk
         replace zj := eq_true zj
         go_wp2_with (first | ((with_reducible refine dD (f := 76) rfl ?_); refine dC (some 39) rfl rfl Try.func76 (by kernel_rfl) rfl #[.agg #[.int .i64 ((dp au ik).f0), .string ((dp au ik).f1), .slice Nc ((dp au ik).f2).length RI, .slice Qt ((dp au ik).f3).length QG], .int .i64 fA, .int .i64 (wrap64 (a2 - 1))] rfl MX ?_; (with_reducible refine (ih k2 (by have := qU.out; have := eP.out; omega) ((dp au ik).f0) ((dp au ik).f1) _ _ ((dp au ik).f2) _ _ ((dp au ik).f3) fA (wrap64 (a2 - 1)) tL _ ?aH ?aG ?bt ?bv un.out).mono ?_); (case aH => exact CX (Kd.aC MI.out HB.out)); (case aG => exact Oi.out); (case bt => exact CX (Kd.aC PS.out HB.out)); (case bv => exact MK.out); rintro e ug ⟨rfl, hb⟩; refine ⟨_, rfl, ?_⟩; have af := bw mS hb; have ag := bn HB hb; clear mS; clear HB; have mS := af; have HB := ag; clear af ag; (try clear hb); (try clear hb2); (try clear hk); (try clear hi)))
         go_ret
         exact ⟨by first | rfl | (simp [bY, bX] <;> rfl) | (simp [*, bY, bX] <;> rfl), by repeat (first | (with_reducible first | exact HB.out | apply aQ | apply aY | apply aT | refine ao ?_ vp.out) | exact HB.out)⟩
        ·rw [if_neg iN] at H
         have QI : decide (tL < 0) = false := decide_eq_false iN
         clear iN
         have H' := ae.mk H
         clear H
         obtain ⟨Fv, C6, CH, FQ, Ei, E', F5, Eb⟩ := d8 mS
         have wk : 0 ≤ (ik : Int) := of_decide_eq_true AX
         have zj : ik < (au.length : Int) := of_decide_eq_true AX
         obtain ⟨aa', Nc, RI, Qt, QG, Ns, xX, xt, zE, wN, DS, DV, FE, E_⟩ := FT fm.out ik wk zj
         cases Ns
         replace xX := (HB.out.cell (World.block_lt_of_cell? w _ xX)).trans xX
         replace xt := (HB.out.cell (World.block_lt_of_cell? w _ xt)).trans xt
         replace zE := (HB.out.cell (World.block_lt_of_cell? w _ zE)).trans zE
         replace wN := (HB.out.cell (World.block_lt_of_cell? w _ wN)).trans wN
         have MI := ae.mk DV
         have Oi := ae.mk DS
         clear DV DS
         have PS := ae.mk E_
         have MK := ae.mk FE
         clear E_ FE
         replace wk := eq_true wk
         replace zj := eq_true zj
         go_wp2_with (first | ((with_reducible refine dD (f := 76) rfl ?_); refine dC (some 39) rfl rfl Try.func76 (by kernel_rfl) rfl #[.agg #[.int .i64 ((dp au ik).f0), .string ((dp au ik).f1), .slice Nc ((dp au ik).f2).length RI, .slice Qt ((dp au ik).f3).length QG], .int .i64 fA, .int .i64 (wrap64 (a2 - 1))] rfl MX ?_; (with_reducible refine (ih k2 (by have := qU.out; have := eP.out; omega) ((dp au ik).f0) ((dp au ik).f1) _ _ ((dp au ik).f2) _ _ ((dp au ik).f3) fA (wrap64 (a2 - 1)) tL _ ?aH ?aG ?bt ?bv un.out).mono ?_); (case aH => exact CX (Kd.aC MI.out HB.out)); (case aG => exact Oi.out); (case bt => exact CX (Kd.aC PS.out HB.out)); (case bv => exact MK.out); rintro e Qu ⟨rfl, hb⟩; refine ⟨_, rfl, ?_⟩; have af := bw mS hb; have ag := bn HB hb; clear mS; clear HB; have mS := af; have HB := ag; clear af ag; (try clear hb); (try clear hb2); (try clear hk); (try clear hi)))
         go_roundg k2
         case measure => have := qU.out; have := eP.out; omega
         case rel => exact ⟨(tL), (wrap64 (ik + 1)), SX, SX, H', ⟨by have := qU.out; have := eP.out; omega⟩, ⟨by (with_reducible repeat (first | refine bf ?_ _ | refine bd ?_ | refine aU ?_ _)); exact mS.out⟩, ⟨by repeat (first | (with_reducible first | exact HB.out | apply aQ | apply aY | apply aT | refine ao ?_ vp.out) | exact HB.out)⟩⟩
       ·rw [if_neg gf] at H
        exact absurd H (by simp)
      ·rw [if_neg dO] at H
       have k6 : decide (ik < (au.length : Int)) = false := decide_eq_false dO
       clear dO
       obtain rfl := Option.some.inj H
       obtain ⟨Zh, ahf, ajq, afW, Zl, adA, abV, aeG⟩ := d8 mS
       go_wp2
       go_ret
       exact ⟨by first | rfl | (simp [bY, bX] <;> rfl) | (simp [*, bY, bX] <;> rfl), by repeat (first | (with_reducible first | exact HB.out | apply aQ | apply aY | apply aT | refine ao ?_ vp.out) | exact HB.out)⟩
def ql.f (k : Nat) (aE : Int) (aA : ByteArray) (ay : List ByteArray) (au : List (aX)) (a1 : Int) (a2 : Int) : Option (Bool) := (d9.f k aE aA ay au a1 a2).bind fun Hh => (some (decide (Hh ≥ 0)))
theorem ql.mono : ∀ a0 a1 a2 a3 a4 a5 k, aI (ql.f k a0 a1 a2 a3 a4 a5) (ql.f (k + 1) a0 a1 a2 a3 a4 a5) := by
 intro a0 a1 a2 a3 a4 a5 k
 unfold ql.f
 repeat' first
   | (with_reducible exact d9.mono _ _ _ _ _ _ _)
   | (with_reducible exact aI.refl _)
   | (with_reducible exact aI.none _)
   | (with_reducible refine aI.ite ?_ ?_)
   | (with_reducible refine aI.bind ?_ (fun _ => ?_))
set_option maxHeartbeats 8000000 in
set_option maxRecDepth 100000 in
theorem ql.calls (k : Nat) (aE : Int) (aA : ByteArray) (bB : Option Addr) (bA : Nat) (ay : List ByteArray) (br : Option Addr) (bq : Nat) (au : List (aX)) (a1 : Int) (a2 : Int) (r : Bool) (w : World) (fZ : Kd.C Kd.string w bB ay.length ay) (gg : ay.length ≤ bA) (fC : Kd.C k25 w br au.length au) (fL : au.length ≤ bq) (h : ql.f k aE aA ay au a1 a2 = some r) :
  Calls Try.prog 61 #[.agg #[.int .i64 aE, .string aA, .slice bB ay.length bA, .slice br au.length bq], .int .i64 a1, .int .i64 a2] w fun e w' => e = .returned (.bool r) ∧ Below w.heap.size w w' := by
 have nR := Try.underlying25
 have fU := ae.mk fZ
 have gm := ae.mk gg
 clear fZ gg
 have fm := ae.mk fC
 have f_ := ae.mk fL
 clear fC fL
 have HB := ae.mk (Below.refl w.heap.size w)
 have H : ((d9.f k aE aA ay au a1 a2).bind fun Hh => (some (decide (Hh ≥ 0)))) = some r := h
 clear h
 replace H := Option.bind_eq_some_iff.mp H
 obtain ⟨Hh, rx, H⟩ := H
 have A4 := ae.mk rx
 clear rx
 obtain rfl := Option.some.inj H
 go_enter Try.func61, Try.ntmps61
 go_wp2_with (first | ((with_reducible refine bz (N := 3) rfl ?_); refine bT ?hg (N := 3) ?hd (cs := #[.int .i64 aE, .string aA, .slice bB ay.length bA, .slice br au.length bq]) (t := 25) ?hr ?_; (case hd => rfl); (case hg => rfl); (case hr => first | (go_simp; done) | (go_simp; rfl) | (obtain ⟨_, _, rfl⟩ := Kd.bm (ae.out (by assumption : ae (Kd.R _ _ _ _ _ _ _))); go_simp; done)); intro avx hg w5 av hb; have af := bn HB hb; have ag := ae.mk (av); have ah := bK HB hg; have am := bK HB hg; clear HB; have HB := af; have ID := ag; have aub := ah; have acD := am; clear af ag ah am; clear hb av hg; obtain ⟨JC, IU, Jx, JH, Ju, KZ, H8, Jt⟩ := d8 ID) | ((with_reducible refine dD (f := 76) rfl ?_); refine dC (some 10) rfl rfl Try.func76 (by kernel_rfl) rfl #[.agg #[.int .i64 aE, .string aA, .slice bB ay.length bA, .slice br au.length bq], .int .i64 a1, .int .i64 a2] rfl MX ?_; (with_reducible refine (d9.calls k aE aA _ _ ay _ _ au a1 a2 Hh _ ?aH ?aG ?bt ?bv A4.out).mono ?_); (case aH => exact CX (Kd.aC fU.out HB.out)); (case aG => exact gm.out); (case bt => exact CX (Kd.aC fm.out HB.out)); (case bv => exact f_.out); rintro e w7 ⟨rfl, hb⟩; refine ⟨_, rfl, ?_⟩; have af := bw ID hb; have ag := bn HB hb; clear ID; clear HB; have ID := af; have HB := ag; clear af ag; (try clear hb); (try clear hb2); (try clear hk); (try clear hi)))
 go_ret
 exact ⟨by first | rfl | (simp [bY, bX] <;> rfl) | (simp [*, bY, bX] <;> rfl), by repeat (first | (with_reducible first | exact HB.out | apply aQ | apply aY | apply aT | refine ao ?_ acD.out) | exact HB.out)⟩
end Go.Proofs.Ytcfjdehpbckomaa.Q
