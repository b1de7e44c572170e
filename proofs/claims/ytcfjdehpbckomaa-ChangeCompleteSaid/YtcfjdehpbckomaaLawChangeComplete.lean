/- ChangeComplete: for every input this law returns true, and each argument reads behind the call as it did before; its package-level variables begin as the program's text lays them (the card ties them). -/
import Derived.Test.YtcfjdehpbckomaaRows
import Derived.Test.YtcfjdehpbckomaaPc
import Derived.Test.YtcfjdehpbckomaaOpenWords
import Derived.WalkKit
import Derived.ProofKit
import Derived.OpenShut
import Derived.ShutString
import Derived.ChangeOld
import Derived.Below
import Derived.SizedLaws
import Derived.Test.YtcfjdehpbckomaaWSized
namespace Go.Proofs.Ytcfjdehpbckomaa.RowChangeComplete
open Go.ChangeShapes Go.WideShapes Go.ChangeAt Go.RowKit Go.Proofs.YtcfjdehpbckomaaW.PrintWords Go.Proofs.Ytcfjdehpbckomaa.Q Go.Proofs.Ytcfjdehpbckomaa.Scratch
open Go.ChangeMaps (open_string shut_string)
set_option linter.unusedVariables false
theorem own : ownKnob Try.prog.godebug = none := by kernel_rfl
theorem laidOut : laidOutB Try.prog = true := by kernel_rfl
set_option maxRecDepth 100000 in
theorem lifted (os : Os) (started : os.Started) (H : Type) (enc : TypeId × Value → H) :
    ReturnsInHanded {} Try.checked os 6 .any (Rows.changeCompleteSpec.pre6 enc Try.prog Try.f6 Rows.changeCompleteRow.domain false) (Rows.changeCompleteSpec.post enc Try.prog Try.f6 false true false false) := by
  refine returnsInHanded_of_change_sized (C := Try.checked) own started (by kernel_rfl) Try.func6
    (ChangeSpec.witness6 (enc := enc) (C := Try.checked) false ⟨#[], #[.agg #[.int .i64 0, .string ByteArray.empty, .slice none 0 0, .slice none 0 0, .slice none 0 0], .agg #[.int .i64 0, .string ByteArray.empty, .slice none 0 0, .slice none 0 0, .slice none 0 0]], []⟩ 8 (by kernel_rfl) (by kernel_rfl) (by kernel_rfl) (by kernel_rfl)) ?_
  intro W base args ds gs before hval0 hW hcnd hsz0 _
  have hsz : (DataW.weightsEach Try.prog (Try.f6.params.toList ++ Rows.changeCompleteSpec.plain.varTypes Try.prog) (ds ++ gs)).all (· ≤ reachBytes) = true := hsz0
  have hval : ∀ (j : Nat) t v, Try.f6.params[j]? = some t → args[j]? = some v → Value.okWide Try.prog W .any base t v := hval0
  have hW' := hW
  obtain ⟨p, q, hA0, hV, rfl, hfz, hnd⟩ := hW
  have hA : DataW.TrodAll enc Try.prog W 0 (fun _ => true) true Try.f6.params.toList args.toList ds p := hA0
  rw [Try.params6] at hA hval hsz
  obtain ⟨v0, vs0, d0, ds0, p0, q0, hargs, rfl, rfl, h0, r0⟩ := trodAll_cons hA
  obtain ⟨v1, vs1, d1, ds1, p1, q1, rfl, rfl, rfl, h1, r1⟩ := trodAll_cons r0
  obtain ⟨rfl, rfl, rfl⟩ := trodAll_nil r1
  obtain rfl : args = #[v0, v1] := by cases args; simp_all
  obtain ⟨rfl, rfl⟩ := trodVars_none hV
  obtain ⟨cs0, rfl, _⟩ := okWide_struct Try.underlying28 (hval 0 28 v0 rfl rfl)
  have k0 := h0
  have lt0 : ∀ x ∈ p0, x.block < W.heap.size := by obtain ⟨m, hm⟩ := k0; exact DataW.trod_lt m _ _ _ hm
  obtain ⟨a0, ka0, w0⟩ := Open.opens_arg (fun n => (((Open.Opens.struct (fun x : S28 => (x.f0, x.f1)) (fun a => ⟨a.1, a.2⟩) (fun _ => rfl) Try.underlying28 [25, 26] (by kernel_rfl) (by kernel_rfl) (by kernel_rfl) (Open.Opens.cons (Open.Opens.fix (ok := fun _ => True) (by kernel_rfl) (fun d25 n hd25 => (Open.Opens.struct (fun x : S25 => (x.f0, x.f1, x.f2, x.f3)) (fun a => ⟨a.1, a.2.1, a.2.2.1, a.2.2.2⟩) (fun _ => rfl) Try.underlying25 [3, 9, 22, 23] (by kernel_rfl) (by kernel_rfl) (by kernel_rfl) (Open.Opens.cons (Open.Opens.int Try.underlying3 (by kernel_rfl) n) (Open.Opens.cons (Open.Opens.string Try.underlying9 (by kernel_rfl) n) (Open.Opens.cons ((Open.Opens.slice (B := 16) Try.underlying22 (by kernel_rfl) (by kernel_rfl) (Open.Opens.string Try.underlying9 (by kernel_rfl) n)).mono (Nat.le_succ n)) (Open.Opens.last ((Open.Opens.slice (B := 72) Try.underlying23 (by kernel_rfl) (by kernel_rfl) hd25).mono (Nat.le_succ n))))))).weaken (fun _ _ => trivial)) n) (Open.Opens.last ((Open.Opens.slice (B := 8) Try.underlying26 (by kernel_rfl) (by kernel_rfl) (Open.Opens.int Try.underlying3 (by kernel_rfl) n)).mono (Nat.le_succ n))))).mono (Nat.le_succ n))).weaken (ok' := fun _ => True) (fun _ _ => trivial)) hsz (j := 0) (t := 28) rfl rfl h0
  obtain ⟨A0_2, c0_2, A0_3, c0_3, A0_4, c0_4, e0, l0_2, g0_2, l0_3, g0_3, l0_4, g0_4⟩ := k28_open ka0
  obtain rfl := Array.ext' e0
  obtain ⟨cs1, rfl, _⟩ := okWide_struct Try.underlying28 (hval 1 28 v1 rfl rfl)
  have k1 := h1
  have lt1 : ∀ x ∈ p1, x.block < W.heap.size := by obtain ⟨m, hm⟩ := k1; exact DataW.trod_lt m _ _ _ hm
  obtain ⟨a1, ka1, w1⟩ := Open.opens_arg (fun n => (((Open.Opens.struct (fun x : S28 => (x.f0, x.f1)) (fun a => ⟨a.1, a.2⟩) (fun _ => rfl) Try.underlying28 [25, 26] (by kernel_rfl) (by kernel_rfl) (by kernel_rfl) (Open.Opens.cons (Open.Opens.fix (ok := fun _ => True) (by kernel_rfl) (fun d25 n hd25 => (Open.Opens.struct (fun x : S25 => (x.f0, x.f1, x.f2, x.f3)) (fun a => ⟨a.1, a.2.1, a.2.2.1, a.2.2.2⟩) (fun _ => rfl) Try.underlying25 [3, 9, 22, 23] (by kernel_rfl) (by kernel_rfl) (by kernel_rfl) (Open.Opens.cons (Open.Opens.int Try.underlying3 (by kernel_rfl) n) (Open.Opens.cons (Open.Opens.string Try.underlying9 (by kernel_rfl) n) (Open.Opens.cons ((Open.Opens.slice (B := 16) Try.underlying22 (by kernel_rfl) (by kernel_rfl) (Open.Opens.string Try.underlying9 (by kernel_rfl) n)).mono (Nat.le_succ n)) (Open.Opens.last ((Open.Opens.slice (B := 72) Try.underlying23 (by kernel_rfl) (by kernel_rfl) hd25).mono (Nat.le_succ n))))))).weaken (fun _ _ => trivial)) n) (Open.Opens.last ((Open.Opens.slice (B := 8) Try.underlying26 (by kernel_rfl) (by kernel_rfl) (Open.Opens.int Try.underlying3 (by kernel_rfl) n)).mono (Nat.le_succ n))))).mono (Nat.le_succ n))).weaken (ok' := fun _ => True) (fun _ _ => trivial)) hsz (j := 1) (t := 28) rfl rfl h1
  obtain ⟨A1_2, c1_2, A1_3, c1_3, A1_4, c1_4, e1, l1_2, g1_2, l1_3, g1_3, l1_4, g1_4⟩ := k28_open ka1
  obtain rfl := Array.ext' e1
  clear hA0 hval0 hsz0 hsz
  refine (Scratch.ChangeComplete_row (w := W) a0 A0_2 c0_2 A0_3 c0_3 A0_4 c0_4 l0_2 g0_2 l0_3 g0_3 l0_4 g0_4 w0 a1 A1_2 c1_2 A1_3 c1_3 A1_4 c1_4 l1_2 g1_2 l1_3 g1_3 l1_4 g1_4 w1).mono fun e W' ⟨he, bel⟩ => ?_
  subst he
  exact ⟨_, rfl, _, _, _, [], _, [], hW', trodAll_mk1 (shut_bool Try.underlying4 _), (trodAll_cons_mk (Below.trod laidOut (by kernel_rfl) (of_decide_eq_true (by kernel_rfl)) k0 bel lt0) (trodAll_cons_mk (Below.trod laidOut (by kernel_rfl) (of_decide_eq_true (by kernel_rfl)) k1 bel lt1) trodAll_mk0)), rfl, bel.frame _, fun h => by cases h⟩
theorem over : Rows.changeCompleteRow.holds Try.pinned (OpenSpec.ofChange Rows.changeCompleteSpec) :=
  OpenClaim.holds_of_wide 6 Try.f6 rfl rfl rfl rfl rfl rfl rfl ⟨rfl, rfl, rfl, rfl, rfl⟩ rfl rfl rfl rfl rfl (by kernel_rfl) Try.func6 (by kernel_rfl)
    (of_decide_eq_true (by kernel_rfl)) (by unfold Func.isWrapper; first | (rw [if_pos (by decide +kernel)]; kernel_rfl) | (rw [if_neg (by decide +kernel)]; exact ⟨rfl, rfl⟩))
    (fun os started H enc _ => lifted os started H enc)
end Go.Proofs.Ytcfjdehpbckomaa.RowChangeComplete
namespace Go.Proofs.Ytcfjdehpbckomaa
theorem changeComplete_holds : Rows.ChangeCompleteSaid := RowChangeComplete.over
#print axioms changeComplete_holds
end Go.Proofs.Ytcfjdehpbckomaa
