/- The chapter's examples: what the law's waking call answers (chapter 32). -/
import Derived.Test.YtdbgdkbpamekpaaPureHas
namespace Go.Proofs.Ytdbgdkbpamekpaa.Pure
set_option linter.unusedVariables false
open Go.RowKit Go.Proofs.Ytdbgdkbpamekpaa.Q Go.Proofs.YtdbgdkbpamekpaaW.PrintWords Go.Proofs.YtdbgdkbpamekpaaW.PrintLast

theorem kept_of {b p q a m s : List Int} (h1 : keptA p q (onceS b) [] = a) (h2 : keptN b (onceS (p ++ q)) [] = m) (h3 : m.Perm s) (h4 : s.Pairwise (· ≤ ·)) : keptS b p q = a ++ s := by rw [keptS, h1, h2, sortI_eq h3 h4]
theorem kept1 : keptS [1, 2, 3] [1, 4, 2, 3] [1, 2, 3, 5] = [1, 2, 3, 4, 5] := kept_of (a := [1, 2, 3]) (m := [4, 5]) (by decide) (by decide) (List.Perm.refl _) (by decide)
theorem kept2 : keptS [1, 2] [1, 3, 2] [1, 4, 2] = [1, 2, 3, 4] := kept_of (a := [1, 2]) (m := [3, 4]) (by decide) (by decide) (List.Perm.refl _) (by decide)
theorem kept3 : keptS [3, 1] [1, 7] [5, 1] = [1, 5, 7] := kept_of (a := [1]) (m := [7, 5]) (by decide) (by decide) (List.Perm.swap _ _ _) (by decide)
theorem div_of {k : Nat} {b p q kp B P Q : List Int} {r : List Int × List P3} (hk : keptS b p q = kp) (hs : b.length ≤ 1000000 ∧ p.length ≤ 1000000 ∧ q.length ≤ 1000000) (h0 : keepL kp (onceS b) [] = B) (h1 : keepL kp (onceS p) [] = P) (h2 : keepL kp (onceS q) [] = Q)
    (h : ((lcs_Ints.f k B P).bind fun x => (lcs_Ints.f k B Q).bind fun y => divEnd B P Q x y) = some r) : sequence_divide.f k b p q = some r := by
  unfold sequence_divide.f divL
  rw [if_pos hs, hk, h0, h1, h2]
  exact h
theorem div1 : sequence_divide.f 40 [1, 2, 3] [1, 4, 2, 3] [1, 2, 3, 5] = some ([1, 2, 3], [⟨[], [], []⟩, ⟨[], [4], []⟩, ⟨[], [], []⟩, ⟨[], [], [5]⟩]) := div_of kept1 (by decide) (B := [1, 2, 3]) (P := [1, 4, 2, 3]) (Q := [1, 2, 3, 5]) (by decide) (by decide) (by decide) (by kernel_rfl)
theorem div2 : sequence_divide.f 40 [1, 2] [1, 3, 2] [1, 4, 2] = some ([1, 2], [⟨[], [], []⟩, ⟨[], [3], [4]⟩, ⟨[], [], []⟩]) := div_of kept2 (by decide) (B := [1, 2]) (P := [1, 3, 2]) (Q := [1, 4, 2]) (by decide) (by decide) (by decide) (by kernel_rfl)
theorem merge1 : sequence_Merge.f 40 [1, 2, 3] [1, 4, 2, 3] [1, 2, 3, 5] = some ([1, 4, 2, 3, 5], true) := by
  unfold sequence_Merge.f joinF
  rw [div1, kept1]
  kernel_rfl
theorem merge2 : sequence_Merge.f 40 [1, 2] [1, 3, 2] [1, 4, 2] = some ([], false) := by
  unfold sequence_Merge.f joinF
  rw [div2]
  kernel_rfl
theorem sortK_eq {ks : List ByteArray} {l m : List Int} (hp : l.Perm m) (hm : m.Pairwise (fun x y => ltK ks y x = false)) : sortK ks l = m := by
  have hO := swo_ltK ks
  have s1 : (sortK ks l).Pairwise (fun x y => ltK ks y x = false) := by
    have := List.pairwise_mergeSort (le := fun x y : Int => !ltK ks y x) (fun a b c h1 h2 => by
      simp only [Bool.not_eq_true'] at *
      exact hO.ntrans _ _ _ h2 h1) (fun a b => by
      cases h : ltK ks b a with
      | false => simp
      | true =>
        cases h2 : ltK ks a b with
        | false => simp
        | true =>
          have := hO.trans _ _ _ h h2
          rw [hO.irrefl] at this
          cases this) l
    exact this.imp (fun h => by simpa using h)
  exact ((List.mergeSort_perm _ _).trans hp).eq_of_pairwise (le := fun x y => ltK ks y x = false) (fun a b _ _ h1 h2 => anti_ltK ks a b h2 h1) s1 hm
theorem sort3 : sortK awkKeys [3, 4] = [4, 3] := sortK_eq (List.Perm.swap _ _ _) (by decide +kernel)
theorem join3 : joinF 40 (othS [1, 2] awkKeys) [1, 2] [1, 3, 2] [1, 4, 2] = some ([1, 4, 3, 2], true) := by
  unfold joinF
  rw [div2]
  have m1 : mgS (othS [1, 2] awkKeys) ⟨[], [], []⟩ = some [] := by kernel_rfl
  have m2 : mgS (othS [1, 2] awkKeys) ⟨[], [3], [4]⟩ = some [4, 3] := by
    have : mgS (othS [1, 2] awkKeys) ⟨[], [3], [4]⟩ = some ([] ++ sortK awkKeys [3, 4]) := by kernel_rfl
    rw [this, sort3]
    rfl
  simp [joinA, m1, m2, smallP]
theorem free3 : sequence_Free.f 40 [1, 2] [1, 3, 2] [1, 4, 2] awkKeys = some ([1, 4, 3, 2], false) := by
  unfold sequence_Free.f
  rw [merge2, join3, kept2, sortI_eq (List.Perm.refl [1, 2, 3, 4]) (by decide)]
  kernel_rfl
theorem awake_ev : Ev (fun k => treemergelaw32_awake.f k) true := by
  refine Ev.up (K := 40) treemergelaw32_awake.mono ?_
  unfold treemergelaw32_awake.f
  rw [if_pos ⟨merge1, merge2, free3, by rw [sequence_Kept.f, if_pos (by decide), kept3]⟩]
end Go.Proofs.Ytdbgdkbpamekpaa.Pure
