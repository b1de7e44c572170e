/- ConflictOpen: for every input this law returns true, and each argument reads behind the call as it did before; its package-level variables begin as the program's text lays them (the card ties them). -/
import Derived.Test.YtcajhkbobpakaaaDoorRows
import Derived.Test.YtcajhkbobpakaaaDoorTie
import Derived.Test.YtcajhkbobpakaaaDoorCards
import Derived.Test.YtcajhkbobpakaaaDoorPo
import Derived.Test.YtcajhkbobpakaaaDoorLaid
import Derived.Test.YtcajhkbobpakaaaDoorOpenWords
import Derived.WalkKit
import Derived.ProofKit
import Derived.OpenShut
import Derived.ShutString
import Derived.ChangeOld
import Derived.Below
import Derived.SizedLaws
import Derived.LaidMore
import Derived.SevenTiedAt
import Derived.Test.YtcajhkbobpakaaaDoorWSized
namespace Go.Proofs.YtcajhkbobpakaaaDoor.RowConflictOpen
open Go.ChangeShapes Go.WideShapes Go.ChangeAt Go.RowKit Go.Proofs.YtcajhkbobpakaaaDoorW.PrintWords Go.Proofs.YtcajhkbobpakaaaDoor.Q Go.Proofs.YtcajhkbobpakaaaDoor.Scratch
open Go.ChangeMaps (open_string shut_string)
set_option linter.unusedVariables false
theorem own : ownKnob Tryd.prog.godebug = none := by kernel_rfl
theorem laidOut : laidOutB Tryd.prog = true := by kernel_rfl
theorem door_met (os : Os) (args : Array Value) : laidMetH Tryd.prog Rows.conflictOpenRow.laid ((World.doorLaid Tryd.prog 400 os).forCall (fun _ _ => 0) ⟨#[], args, []⟩).memory :=
  laidMetH_of_parts3 (fuel := 8) (laidMet_of_run' 8 (by kernel_rfl) (by kernel_rfl)) (by kernel_rfl) (by kernel_rfl)
set_option maxRecDepth 100000 in
theorem lifted (os : Os) (started : os.Started) (H : Type) (enc : TypeId × Value → H) :
    ReturnsInHanded {} Tryd.checked os 8 .any (fun w args => (Rows.conflictOpenSpec.pre enc Tryd.prog Tryd.f8 [] false w args ∧ laidMetH Tryd.prog Rows.conflictOpenRow.laid w) ∧ sizedMet enc Tryd.prog Tryd.f8 (OpenSpec.ofChange Rows.conflictOpenSpec) false w args)
      (Rows.conflictOpenSpec.post enc Tryd.prog Tryd.f8 false true false false) := by
  refine returnsInHanded_of_change_and (C := Tryd.checked) (X := fun w _ => laidMetH Tryd.prog Rows.conflictOpenRow.laid w) (fun _ _ _ hh h => h.of_heap hh) own started (by kernel_rfl) Tryd.func8
    (ChangeSpec.witness_shaped (enc := enc) (C := Tryd.checked) (os := os) (X := fun w _ => laidMetH Tryd.prog Rows.conflictOpenRow.laid w) false (World.doorLaid Tryd.prog 400 os) #[.slice none 0 0, .slice none 0 0, .int .i64 0] 8 rfl (World.shaped_of_RefB (by kernel_rfl) (by kernel_rfl)) (by kernel_rfl) (by kernel_rfl) (by kernel_rfl) (door_met os _)) ?_
  intro W base args ds gs before hval0 hW _ hsz0 hL _
  have hsz : (DataW.weightsEach Tryd.prog (Tryd.f8.params.toList ++ Rows.conflictOpenSpec.plain.varTypes Tryd.prog) (ds ++ gs)).all (· ≤ reachBytes) = true := hsz0
  have hval : ∀ (j : Nat) t v, Tryd.f8.params[j]? = some t → args[j]? = some v → Value.okWide Tryd.prog W .any base t v := hval0
  have hW' := hW
  obtain ⟨p, q, hA0, hV, rfl, hfz, hnd⟩ := hW
  have hA : DataW.TrodAll enc Tryd.prog W 0 (fun _ => true) true Tryd.f8.params.toList args.toList ds p := hA0
  rw [Tryd.params8] at hA hval hsz
  obtain ⟨v0, vs0, d0, ds0, p0, q0, hargs, rfl, rfl, h0, r0⟩ := trodAll_cons hA
  obtain ⟨v1, vs1, d1, ds1, p1, q1, rfl, rfl, rfl, h1, r1⟩ := trodAll_cons r0
  obtain ⟨v2, vs2, d2, ds2, p2, q2, rfl, rfl, rfl, h2, r2⟩ := trodAll_cons r1
  obtain ⟨rfl, rfl, rfl⟩ := trodAll_nil r2
  obtain rfl : args = #[v0, v1, v2] := by cases args; simp_all
  obtain ⟨rfl, rfl⟩ := trodVars_none hV
  obtain ⟨A0, len0, c0, rfl⟩ := okWide_slice Tryd.underlying36 (hval 0 36 v0 rfl rfl)
  have k0 := h0
  have lt0 : ∀ x ∈ p0, x.block < W.heap.size := by obtain ⟨m, hm⟩ := k0; exact DataW.trod_lt m _ _ _ hm
  obtain ⟨l0, rfl, hr0, hc0, y0, w0⟩ := Open.opens_slice (B := 64) Tryd.underlying36 (by kernel_rfl) (by kernel_rfl) (fun n => ((Open.Opens.struct (fun x : S23 => (x.f0, x.f1, x.f2, x.f3, x.f4)) (fun a => ⟨a.1, a.2.1, a.2.2.1, a.2.2.2.1, a.2.2.2.2⟩) (fun _ => rfl) Tryd.underlying23 [3, 3, 9, 9, 9] (by kernel_rfl) (by kernel_rfl) (by kernel_rfl) (Open.Opens.cons (Open.Opens.int Tryd.underlying3 (by kernel_rfl) n) (Open.Opens.cons (Open.Opens.int Tryd.underlying3 (by kernel_rfl) n) (Open.Opens.cons (Open.Opens.string Tryd.underlying9 (by kernel_rfl) n) (Open.Opens.cons (Open.Opens.string Tryd.underlying9 (by kernel_rfl) n) (Open.Opens.last (Open.Opens.string Tryd.underlying9 (by kernel_rfl) n))))))).mono (Nat.le_succ n))) hsz (j := 0) (t := 36) rfl rfl h0
  obtain ⟨A1, len1, c1, rfl⟩ := okWide_slice Tryd.underlying37 (hval 1 37 v1 rfl rfl)
  have k1 := h1
  have lt1 : ∀ x ∈ p1, x.block < W.heap.size := by obtain ⟨m, hm⟩ := k1; exact DataW.trod_lt m _ _ _ hm
  obtain ⟨l1, rfl, hr1, hc1, y1, w1⟩ := Open.opens_slice (B := 16) Tryd.underlying37 (by kernel_rfl) (by kernel_rfl) (fun n => ((Open.Opens.struct (fun x : S48 => (x.f0, x.f1)) (fun a => ⟨a.1, a.2⟩) (fun _ => rfl) Tryd.underlying48 [26, 3] (by kernel_rfl) (by kernel_rfl) (by kernel_rfl) (Open.Opens.cons (Open.Opens.int Tryd.underlying26 (by kernel_rfl) n) (Open.Opens.last (Open.Opens.int Tryd.underlying3 (by kernel_rfl) n)))).mono (Nat.le_succ n))) hsz (j := 1) (t := 37) rfl rfl h1
  obtain ⟨a2, rfl, rfl, rfl, w2⟩ := open_int Tryd.underlying3 (hval 2 3 v2 rfl rfl) h2
  have hG := Q.glob_of_laid hL
  clear hA0 hval0 hsz0 hsz
  refine (Scratch.ConflictOpen_row (w := W) A0 c0 l0 hr0 hc0 y0 w0 A1 c1 l1 hr1 hc1 y1 w1 a2 w2 hG).mono fun e W' ⟨he, bel⟩ => ?_
  subst he
  exact ⟨_, rfl, _, _, _, [], _, [], hW', trodAll_mk1 (shut_bool Tryd.underlying4 _), (trodAll_cons_mk (Below.trod laidOut (by kernel_rfl) (of_decide_eq_true (by kernel_rfl)) k0 bel lt0) (trodAll_cons_mk (Below.trod laidOut (by kernel_rfl) (of_decide_eq_true (by kernel_rfl)) k1 bel lt1) (trodAll_cons_mk (shut_int Tryd.underlying3 w2) trodAll_mk0))), rfl, bel.frame _, fun h => by cases h⟩
theorem over : Rows.conflictOpenRow.holds Tryd.pinned (OpenSpec.ofChange Rows.conflictOpenSpec) :=
  OpenClaim.holds_of_wide 8 Tryd.f8 rfl rfl rfl rfl rfl rfl rfl ⟨rfl, rfl, rfl, rfl, rfl⟩ rfl rfl rfl rfl rfl (by kernel_rfl) Tryd.func8 (by kernel_rfl)
    (of_decide_eq_true (by kernel_rfl)) (by unfold Func.isWrapper; first | (rw [if_pos (by decide +kernel)]; kernel_rfl) | (rw [if_neg (by decide +kernel)]; exact ⟨rfl, rfl⟩))
    (fun os started H enc _ => lifted os started H enc)
end Go.Proofs.YtcajhkbobpakaaaDoor.RowConflictOpen
namespace Go.Proofs.YtcajhkbobpakaaaDoor
/-- The tied card. -/
theorem conflictOpen_holds : Rows.ConflictOpenCardSaid :=
  Claim7.holds_tied_plain_at .later [] [.data, .data, .data, .data, .data] true (true, "8a1df1d2d4fbe72a62a9767202bc504a1b7404adcd9874a239da38bab8db9172") false
    RowConflictOpen.over (fun _ h => by cases h) (by kernel_rfl) (fun _ h => by cases h) conflictOpen_row_tie rfl ⟨rfl, rfl⟩ (by kernel_rfl) rfl
    (fun f fn hf hfn => by
      obtain rfl : f = 8 := Option.some.inj ((show Tryd.prog.funcNamed "treemerge/treemergelaw34.ConflictOpen" = some 8 by kernel_rfl).symm.trans hf) |>.symm
      obtain rfl : fn = Tryd.f8 := (Option.some.inj (Tryd.func8.symm.trans hfn)).symm
      exact ⟨by kernel_rfl, fun j t ht => by
        rw [Tryd.params8] at ht
        have ht' : t ∈ [36, 37, 3] := by
          have := List.mem_of_getElem? (l := [36, 37, 3]) (i := j) (by simpa using ht)
          exact this
        simp only [List.mem_cons, List.not_mem_nil, or_false] at ht'
        rcases ht' with rfl | rfl | rfl
        · exact (show Tryd.prog.wantsStandIn 36 = false by kernel_rfl)
        · exact (show Tryd.prog.wantsStandIn 37 = false by kernel_rfl)
        · exact (show Tryd.prog.wantsStandIn 3 = false by kernel_rfl)⟩)
    (by kernel_rfl)
#print axioms conflictOpen_holds
end Go.Proofs.YtcajhkbobpakaaaDoor
