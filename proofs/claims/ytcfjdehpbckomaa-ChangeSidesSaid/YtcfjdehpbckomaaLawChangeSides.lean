/- ChangeSides: for every input this law returns true, and each argument reads behind the call as it did before; its package-level variables begin as the program's text lays them (the card ties them). -/
import Derived.Test.YtcfjdehpbckomaaRows
import Derived.Test.YtcfjdehpbckomaaPs
import Derived.Test.YtcfjdehpbckomaaOpenWords
import Derived.WalkKit
import Derived.ProofKit
import Derived.OpenShut
import Derived.ShutString
import Derived.ChangeOld
import Derived.Below
import Derived.SizedLaws
import Derived.Test.YtcfjdehpbckomaaWSized
namespace Go.Proofs.Ytcfjdehpbckomaa.RowChangeSides
open Go.ChangeShapes Go.WideShapes Go.ChangeAt Go.RowKit Go.Proofs.YtcfjdehpbckomaaW.PrintWords Go.Proofs.Ytcfjdehpbckomaa.Q Go.Proofs.Ytcfjdehpbckomaa.Scratch
open Go.ChangeMaps (open_string shut_string)
set_option linter.unusedVariables false
theorem own : ownKnob Try.prog.godebug = none := by kernel_rfl
theorem laidOut : laidOutB Try.prog = true := by kernel_rfl
set_option maxRecDepth 100000 in
theorem lifted (os : Os) (started : os.Started) (H : Type) (enc : TypeId × Value → H) :
    ReturnsInHanded {} Try.checked os 7 .any (Rows.changeSidesSpec.pre6 enc Try.prog Try.f7 Rows.changeSidesRow.domain false) (Rows.changeSidesSpec.post enc Try.prog Try.f7 false true false false) := by
  refine returnsInHanded_of_change_sized (C := Try.checked) own started (by kernel_rfl) Try.func7
    (ChangeSpec.witness6 (enc := enc) (C := Try.checked) false ⟨#[], #[.slice none 0 0, .slice none 0 0, .agg #[.int .i64 0, .string ByteArray.empty, .slice none 0 0, .slice none 0 0, .int .i64 0, .string ByteArray.empty, .slice none 0 0, .slice none 0 0, .int .i64 0, .string ByteArray.empty, .slice none 0 0, .slice none 0 0, .slice none 0 0, .slice none 0 0, .slice none 0 0, .int .i64 0]], []⟩ 8 (by kernel_rfl) (by kernel_rfl) (by kernel_rfl) (by kernel_rfl)) ?_
  intro W base args ds gs before hval0 hW hcnd hsz0 _
  have hsz : (DataW.weightsEach Try.prog (Try.f7.params.toList ++ Rows.changeSidesSpec.plain.varTypes Try.prog) (ds ++ gs)).all (· ≤ reachBytes) = true := hsz0
  have hval : ∀ (j : Nat) t v, Try.f7.params[j]? = some t → args[j]? = some v → Value.okWide Try.prog W .any base t v := hval0
  have hW' := hW
  obtain ⟨p, q, hA0, hV, rfl, hfz, hnd⟩ := hW
  have hA : DataW.TrodAll enc Try.prog W 0 (fun _ => true) true Try.f7.params.toList args.toList ds p := hA0
  rw [Try.params7] at hA hval hsz
  obtain ⟨v0, vs0, d0, ds0, p0, q0, hargs, rfl, rfl, h0, r0⟩ := trodAll_cons hA
  obtain ⟨v1, vs1, d1, ds1, p1, q1, rfl, rfl, rfl, h1, r1⟩ := trodAll_cons r0
  obtain ⟨v2, vs2, d2, ds2, p2, q2, rfl, rfl, rfl, h2, r2⟩ := trodAll_cons r1
  obtain ⟨rfl, rfl, rfl⟩ := trodAll_nil r2
  obtain rfl : args = #[v0, v1, v2] := by cases args; simp_all
  obtain ⟨rfl, rfl⟩ := trodVars_none hV
  obtain ⟨A0, len0, c0, rfl⟩ := okWide_slice Try.underlying31 (hval 0 31 v0 rfl rfl)
  have k0 := h0
  have lt0 : ∀ x ∈ p0, x.block < W.heap.size := by obtain ⟨m, hm⟩ := k0; exact DataW.trod_lt m _ _ _ hm
  obtain ⟨l0, rfl, hr0, hc0, y0, w0⟩ := Open.opens_slice (B := 16) Try.underlying31 (by kernel_rfl) (by kernel_rfl) (fun n => ((Open.Opens.struct (fun x : S48 => (x.f0, x.f1)) (fun a => ⟨a.1, a.2⟩) (fun _ => rfl) Try.underlying48 [3, 3] (by kernel_rfl) (by kernel_rfl) (by kernel_rfl) (Open.Opens.cons (Open.Opens.int Try.underlying3 (by kernel_rfl) n) (Open.Opens.last (Open.Opens.int Try.underlying3 (by kernel_rfl) n)))).mono (Nat.le_succ n))) hsz (j := 0) (t := 31) rfl rfl h0
  obtain ⟨A1, len1, c1, rfl⟩ := okWide_slice Try.underlying31 (hval 1 31 v1 rfl rfl)
  have k1 := h1
  have lt1 : ∀ x ∈ p1, x.block < W.heap.size := by obtain ⟨m, hm⟩ := k1; exact DataW.trod_lt m _ _ _ hm
  obtain ⟨l1, rfl, hr1, hc1, y1, w1⟩ := Open.opens_slice (B := 16) Try.underlying31 (by kernel_rfl) (by kernel_rfl) (fun n => ((Open.Opens.struct (fun x : S48 => (x.f0, x.f1)) (fun a => ⟨a.1, a.2⟩) (fun _ => rfl) Try.underlying48 [3, 3] (by kernel_rfl) (by kernel_rfl) (by kernel_rfl) (Open.Opens.cons (Open.Opens.int Try.underlying3 (by kernel_rfl) n) (Open.Opens.last (Open.Opens.int Try.underlying3 (by kernel_rfl) n)))).mono (Nat.le_succ n))) hsz (j := 1) (t := 31) rfl rfl h1
  obtain ⟨cs2, rfl, _⟩ := okWide_struct Try.underlying42 (hval 2 42 v2 rfl rfl)
  have k2 := h2
  have lt2 : ∀ x ∈ p2, x.block < W.heap.size := by obtain ⟨m, hm⟩ := k2; exact DataW.trod_lt m _ _ _ hm
  obtain ⟨a2, ka2, w2⟩ := Open.opens_arg (fun n => (((Open.Opens.struct (fun x : S42 => (x.f0, x.f1, x.f2, x.f3)) (fun a => ⟨a.1, a.2.1, a.2.2.1, a.2.2.2⟩) (fun _ => rfl) Try.underlying42 [25, 25, 25, 40] (by kernel_rfl) (by kernel_rfl) (by kernel_rfl) (Open.Opens.cons (Open.Opens.fix (ok := fun _ => True) (by kernel_rfl) (fun d25 n hd25 => (Open.Opens.struct (fun x : S25 => (x.f0, x.f1, x.f2, x.f3)) (fun a => ⟨a.1, a.2.1, a.2.2.1, a.2.2.2⟩) (fun _ => rfl) Try.underlying25 [3, 9, 22, 23] (by kernel_rfl) (by kernel_rfl) (by kernel_rfl) (Open.Opens.cons (Open.Opens.int Try.underlying3 (by kernel_rfl) n) (Open.Opens.cons (Open.Opens.string Try.underlying9 (by kernel_rfl) n) (Open.Opens.cons ((Open.Opens.slice (B := 16) Try.underlying22 (by kernel_rfl) (by kernel_rfl) (Open.Opens.string Try.underlying9 (by kernel_rfl) n)).mono (Nat.le_succ n)) (Open.Opens.last ((Open.Opens.slice (B := 72) Try.underlying23 (by kernel_rfl) (by kernel_rfl) hd25).mono (Nat.le_succ n))))))).weaken (fun _ _ => trivial)) n) (Open.Opens.cons (Open.Opens.fix (ok := fun _ => True) (by kernel_rfl) (fun d25 n hd25 => (Open.Opens.struct (fun x : S25 => (x.f0, x.f1, x.f2, x.f3)) (fun a => ⟨a.1, a.2.1, a.2.2.1, a.2.2.2⟩) (fun _ => rfl) Try.underlying25 [3, 9, 22, 23] (by kernel_rfl) (by kernel_rfl) (by kernel_rfl) (Open.Opens.cons (Open.Opens.int Try.underlying3 (by kernel_rfl) n) (Open.Opens.cons (Open.Opens.string Try.underlying9 (by kernel_rfl) n) (Open.Opens.cons ((Open.Opens.slice (B := 16) Try.underlying22 (by kernel_rfl) (by kernel_rfl) (Open.Opens.string Try.underlying9 (by kernel_rfl) n)).mono (Nat.le_succ n)) (Open.Opens.last ((Open.Opens.slice (B := 72) Try.underlying23 (by kernel_rfl) (by kernel_rfl) hd25).mono (Nat.le_succ n))))))).weaken (fun _ _ => trivial)) n) (Open.Opens.cons (Open.Opens.fix (ok := fun _ => True) (by kernel_rfl) (fun d25 n hd25 => (Open.Opens.struct (fun x : S25 => (x.f0, x.f1, x.f2, x.f3)) (fun a => ⟨a.1, a.2.1, a.2.2.1, a.2.2.2⟩) (fun _ => rfl) Try.underlying25 [3, 9, 22, 23] (by kernel_rfl) (by kernel_rfl) (by kernel_rfl) (Open.Opens.cons (Open.Opens.int Try.underlying3 (by kernel_rfl) n) (Open.Opens.cons (Open.Opens.string Try.underlying9 (by kernel_rfl) n) (Open.Opens.cons ((Open.Opens.slice (B := 16) Try.underlying22 (by kernel_rfl) (by kernel_rfl) (Open.Opens.string Try.underlying9 (by kernel_rfl) n)).mono (Nat.le_succ n)) (Open.Opens.last ((Open.Opens.slice (B := 72) Try.underlying23 (by kernel_rfl) (by kernel_rfl) hd25).mono (Nat.le_succ n))))))).weaken (fun _ _ => trivial)) n) (Open.Opens.last ((Open.Opens.struct (fun x : S40 => (x.f0, x.f1, x.f2, x.f3)) (fun a => ⟨a.1, a.2.1, a.2.2.1, a.2.2.2⟩) (fun _ => rfl) Try.underlying40 [26, 26, 26, 3] (by kernel_rfl) (by kernel_rfl) (by kernel_rfl) (Open.Opens.cons ((Open.Opens.slice (B := 8) Try.underlying26 (by kernel_rfl) (by kernel_rfl) (Open.Opens.int Try.underlying3 (by kernel_rfl) n)).mono (Nat.le_succ n)) (Open.Opens.cons ((Open.Opens.slice (B := 8) Try.underlying26 (by kernel_rfl) (by kernel_rfl) (Open.Opens.int Try.underlying3 (by kernel_rfl) n)).mono (Nat.le_succ n)) (Open.Opens.cons ((Open.Opens.slice (B := 8) Try.underlying26 (by kernel_rfl) (by kernel_rfl) (Open.Opens.int Try.underlying3 (by kernel_rfl) n)).mono (Nat.le_succ n)) (Open.Opens.last (Open.Opens.int Try.underlying3 (by kernel_rfl) n)))))).mono (Nat.le_succ n))))))).mono (Nat.le_succ n))).weaken (ok' := fun _ => True) (fun _ _ => trivial)) hsz (j := 2) (t := 42) rfl rfl h2
  obtain ⟨A2_2, c2_2, A2_3, c2_3, A2_6, c2_6, A2_7, c2_7, A2_10, c2_10, A2_11, c2_11, A2_12, c2_12, A2_13, c2_13, A2_14, c2_14, e2, l2_2, g2_2, l2_3, g2_3, l2_6, g2_6, l2_7, g2_7, l2_10, g2_10, l2_11, g2_11, l2_12, g2_12, l2_13, g2_13, l2_14, g2_14⟩ := k42_open ka2
  obtain rfl := Array.ext' e2
  clear hA0 hval0 hsz0 hsz
  refine (Scratch.ChangeSides_row (w := W) A0 c0 l0 hr0 hc0 y0 w0 A1 c1 l1 hr1 hc1 y1 w1 a2 A2_2 c2_2 A2_3 c2_3 A2_6 c2_6 A2_7 c2_7 A2_10 c2_10 A2_11 c2_11 A2_12 c2_12 A2_13 c2_13 A2_14 c2_14 l2_2 g2_2 l2_3 g2_3 l2_6 g2_6 l2_7 g2_7 l2_10 g2_10 l2_11 g2_11 l2_12 g2_12 l2_13 g2_13 l2_14 g2_14 w2).mono fun e W' ⟨he, bel⟩ => ?_
  subst he
  exact ⟨_, rfl, _, _, _, [], _, [], hW', trodAll_mk1 (shut_bool Try.underlying4 _), (trodAll_cons_mk (Below.trod laidOut (by kernel_rfl) (of_decide_eq_true (by kernel_rfl)) k0 bel lt0) (trodAll_cons_mk (Below.trod laidOut (by kernel_rfl) (of_decide_eq_true (by kernel_rfl)) k1 bel lt1) (trodAll_cons_mk (Below.trod laidOut (by kernel_rfl) (of_decide_eq_true (by kernel_rfl)) k2 bel lt2) trodAll_mk0))), rfl, bel.frame _, fun h => by cases h⟩
theorem over : Rows.changeSidesRow.holds Try.pinned (OpenSpec.ofChange Rows.changeSidesSpec) :=
  OpenClaim.holds_of_wide 7 Try.f7 rfl rfl rfl rfl rfl rfl rfl ⟨rfl, rfl, rfl, rfl, rfl⟩ rfl rfl rfl rfl rfl (by kernel_rfl) Try.func7 (by kernel_rfl)
    (of_decide_eq_true (by kernel_rfl)) (by unfold Func.isWrapper; first | (rw [if_pos (by decide +kernel)]; kernel_rfl) | (rw [if_neg (by decide +kernel)]; exact ⟨rfl, rfl⟩))
    (fun os started H enc _ => lifted os started H enc)
end Go.Proofs.Ytcfjdehpbckomaa.RowChangeSides
namespace Go.Proofs.Ytcfjdehpbckomaa
theorem changeSides_holds : Rows.ChangeSidesSaid := RowChangeSides.over
#print axioms changeSides_holds
end Go.Proofs.Ytcfjdehpbckomaa
