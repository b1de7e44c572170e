/- ChangeIndependent: for every input this law returns true, and each argument reads behind the call as it did before; its package-level variables begin as the program's text lays them (the card ties them). -/
import Derived.Test.YtcfjdehpbckomaaRows
import Derived.Test.YtcfjdehpbckomaaPi
import Derived.Test.YtcfjdehpbckomaaOpenWords
import Derived.WalkKit
import Derived.ProofKit
import Derived.OpenShut
import Derived.ShutString
import Derived.ChangeOld
import Derived.Below
import Derived.SizedLaws
import Derived.Test.YtcfjdehpbckomaaWSized
namespace Go.Proofs.Ytcfjdehpbckomaa.TQ
open Go.ChangeShapes Go.WideShapes Go.ChangeAt Go.RowKit Go.Proofs.YtcfjdehpbckomaaW.dS Go.Proofs.Ytcfjdehpbckomaa.Q Go.Proofs.Ytcfjdehpbckomaa.RL
open Go.ChangeMaps (open_string shut_string)
set_option linter.unusedVariables false
theorem own : ownKnob Try.prog.godebug = none := by kernel_rfl
theorem laidOut : laidOutB Try.prog = true := by kernel_rfl
set_option maxRecDepth 100000 in
theorem lifted (os : Os) (started : os.Started) (H : Type) (enc : TypeId × Value → H) :
    ReturnsInHanded {} Try.checked os 5 .any (Rows.changeIndependentSpec.pre6 enc Try.prog Try.f5 Rows.changeIndependentRow.domain false) (Rows.changeIndependentSpec.post enc Try.prog Try.f5 false true false false) := by
  refine returnsInHanded_of_change_sized (C := Try.checked) own started (by kernel_rfl) Try.func5
    (ChangeSpec.witness6 (enc := enc) (C := Try.checked) false ⟨#[], #[.agg #[.int .i64 0, .string ByteArray.empty, .slice none 0 0, .slice none 0 0, .int .i64 0, .string ByteArray.empty, .slice none 0 0, .slice none 0 0, .int .i64 0, .string ByteArray.empty, .slice none 0 0, .slice none 0 0, .slice none 0 0, .slice none 0 0, .slice none 0 0, .int .i64 0]], []⟩ 8 (by kernel_rfl) (by kernel_rfl) (by kernel_rfl) (by kernel_rfl)) ?_
  intro W base args ds gs before Xd hW hcnd YL _
  have hsz : (DataW.weightsEach Try.prog (Try.f5.params.toList ++ Rows.changeIndependentSpec.plain.varTypes Try.prog) (ds ++ gs)).all (· ≤ reachBytes) = true := YL
  have hval : ∀ (j : Nat) t v, Try.f5.params[j]? = some t → args[j]? = some v → Value.okWide Try.prog W .any base t v := Xd
  have mR := hW
  obtain ⟨p, q, YQ, hV, rfl, hfz, hnd⟩ := hW
  have hA : DataW.TrodAll enc Try.prog W 0 (fun _ => true) true Try.f5.params.toList args.toList ds p := YQ
  rw [Try.params5] at hA hval hsz
  obtain ⟨v0, vs0, d0, ds0, p0, q0, hargs, rfl, rfl, h0, r0⟩ := trodAll_cons hA
  obtain ⟨rfl, rfl, rfl⟩ := trodAll_nil r0
  obtain rfl : args = #[v0] := by cases args; simp_all
  obtain ⟨rfl, rfl⟩ := trodVars_none hV
  obtain ⟨cs0, rfl, _⟩ := okWide_struct Try.underlying42 (hval 0 42 v0 rfl rfl)
  have k0 := h0
  have lt0 : ∀ x ∈ p0, x.block < W.heap.size := by obtain ⟨m, hm⟩ := k0; exact DataW.trod_lt m _ _ _ hm
  obtain ⟨a0, Zs, w0⟩ := Open.U8 (fun n => (((Open.Opens.struct (fun x : C1 => (x.f0, x.f1, x.f2, x.f3)) (fun a => ⟨a.1, a.2.1, a.2.2.1, a.2.2.2⟩) (fun _ => rfl) Try.underlying42 [25, 25, 25, 40] (by kernel_rfl) (by kernel_rfl) (by kernel_rfl) (Open.Opens.cons (Open.Opens.fix (ok := fun _ => True) (by kernel_rfl) (fun S_ n G9 => (Open.Opens.struct (fun x : aX => (x.f0, x.f1, x.f2, x.f3)) (fun a => ⟨a.1, a.2.1, a.2.2.1, a.2.2.2⟩) (fun _ => rfl) Try.underlying25 [3, 9, 22, 23] (by kernel_rfl) (by kernel_rfl) (by kernel_rfl) (Open.Opens.cons (Open.Opens.int Try.underlying3 (by kernel_rfl) n) (Open.Opens.cons (Open.Opens.string Try.underlying9 (by kernel_rfl) n) (Open.Opens.cons ((Open.Opens.slice (B := 16) Try.underlying22 (by kernel_rfl) (by kernel_rfl) (Open.Opens.string Try.underlying9 (by kernel_rfl) n)).mono (Nat.le_succ n)) (Open.Opens.last ((Open.Opens.slice (B := 72) Try.underlying23 (by kernel_rfl) (by kernel_rfl) G9).mono (Nat.le_succ n))))))).weaken (fun _ _ => trivial)) n) (Open.Opens.cons (Open.Opens.fix (ok := fun _ => True) (by kernel_rfl) (fun S_ n G9 => (Open.Opens.struct (fun x : aX => (x.f0, x.f1, x.f2, x.f3)) (fun a => ⟨a.1, a.2.1, a.2.2.1, a.2.2.2⟩) (fun _ => rfl) Try.underlying25 [3, 9, 22, 23] (by kernel_rfl) (by kernel_rfl) (by kernel_rfl) (Open.Opens.cons (Open.Opens.int Try.underlying3 (by kernel_rfl) n) (Open.Opens.cons (Open.Opens.string Try.underlying9 (by kernel_rfl) n) (Open.Opens.cons ((Open.Opens.slice (B := 16) Try.underlying22 (by kernel_rfl) (by kernel_rfl) (Open.Opens.string Try.underlying9 (by kernel_rfl) n)).mono (Nat.le_succ n)) (Open.Opens.last ((Open.Opens.slice (B := 72) Try.underlying23 (by kernel_rfl) (by kernel_rfl) G9).mono (Nat.le_succ n))))))).weaken (fun _ _ => trivial)) n) (Open.Opens.cons (Open.Opens.fix (ok := fun _ => True) (by kernel_rfl) (fun S_ n G9 => (Open.Opens.struct (fun x : aX => (x.f0, x.f1, x.f2, x.f3)) (fun a => ⟨a.1, a.2.1, a.2.2.1, a.2.2.2⟩) (fun _ => rfl) Try.underlying25 [3, 9, 22, 23] (by kernel_rfl) (by kernel_rfl) (by kernel_rfl) (Open.Opens.cons (Open.Opens.int Try.underlying3 (by kernel_rfl) n) (Open.Opens.cons (Open.Opens.string Try.underlying9 (by kernel_rfl) n) (Open.Opens.cons ((Open.Opens.slice (B := 16) Try.underlying22 (by kernel_rfl) (by kernel_rfl) (Open.Opens.string Try.underlying9 (by kernel_rfl) n)).mono (Nat.le_succ n)) (Open.Opens.last ((Open.Opens.slice (B := 72) Try.underlying23 (by kernel_rfl) (by kernel_rfl) G9).mono (Nat.le_succ n))))))).weaken (fun _ _ => trivial)) n) (Open.Opens.last ((Open.Opens.struct (fun x : pr => (x.f0, x.f1, x.f2, x.f3)) (fun a => ⟨a.1, a.2.1, a.2.2.1, a.2.2.2⟩) (fun _ => rfl) Try.underlying40 [26, 26, 26, 3] (by kernel_rfl) (by kernel_rfl) (by kernel_rfl) (Open.Opens.cons ((Open.Opens.slice (B := 8) Try.underlying26 (by kernel_rfl) (by kernel_rfl) (Open.Opens.int Try.underlying3 (by kernel_rfl) n)).mono (Nat.le_succ n)) (Open.Opens.cons ((Open.Opens.slice (B := 8) Try.underlying26 (by kernel_rfl) (by kernel_rfl) (Open.Opens.int Try.underlying3 (by kernel_rfl) n)).mono (Nat.le_succ n)) (Open.Opens.cons ((Open.Opens.slice (B := 8) Try.underlying26 (by kernel_rfl) (by kernel_rfl) (Open.Opens.int Try.underlying3 (by kernel_rfl) n)).mono (Nat.le_succ n)) (Open.Opens.last (Open.Opens.int Try.underlying3 (by kernel_rfl) n)))))).mono (Nat.le_succ n))))))).mono (Nat.le_succ n))).weaken (d5 := fun _ => True) (fun _ _ => trivial)) hsz (j := 0) (t := 42) rfl rfl h0
  obtain ⟨bB, bA, br, bq, iH, iq, iF, iI, iC, iD, il, io, iw, im, iG, iA, iJ, iu, e0, ay, N7, au, Rb, dI, Mf, dF, OW, dG, Q8, dJ, Py, dz, Pp, dy, Q6, dX, Mj⟩ := agl Zs
  obtain rfl := Array.ext' e0
  clear YQ Xd YL hsz
  refine (RL.aeW (w := W) a0 bB bA br bq iH iq iF iI iC iD il io iw im iG iA iJ iu ay N7 au Rb dI Mf dF OW dG Q8 dJ Py dz Pp dy Q6 dX Mj w0).mono fun e W' ⟨he, V_⟩ => ?_
  subst he
  exact ⟨_, rfl, _, _, _, [], _, [], mR, trodAll_mk1 (shut_bool Try.underlying4 _), (trodAll_cons_mk (Below.trod laidOut (by kernel_rfl) (of_decide_eq_true (by kernel_rfl)) k0 V_ lt0) trodAll_mk0), rfl, V_.frame _, fun h => by cases h⟩
theorem over : Rows.changeIndependentRow.holds Try.pinned (OpenSpec.ofChange Rows.changeIndependentSpec) :=
  OpenClaim.holds_of_wide 5 Try.f5 rfl rfl rfl rfl rfl rfl rfl ⟨rfl, rfl, rfl, rfl, rfl⟩ rfl rfl rfl rfl rfl (by kernel_rfl) Try.func5 (by kernel_rfl)
    (of_decide_eq_true (by kernel_rfl)) (by unfold Func.isWrapper; first | (rw [if_pos (by decide +kernel)]; kernel_rfl) | (rw [if_neg (by decide +kernel)]; exact ⟨rfl, rfl⟩))
    (fun os started H enc _ => lifted os started H enc)
end Go.Proofs.Ytcfjdehpbckomaa.TQ
namespace Go.Proofs.Ytcfjdehpbckomaa
theorem changeIndependent_holds : Rows.ChangeIndependentSaid := TQ.over
#print axioms changeIndependent_holds
end Go.Proofs.Ytcfjdehpbckomaa
