-- Written by a program of this session (mk.py) out of the translation; Lean checks it.
import Derived.Test.YtdbgdkbpamekpaaQ0
import Derived.Test.YtdbgdkbpamekpaaQ2
import Derived.Test.YtdbgdkbpamekpaaQ6
namespace Go.Proofs.Ytdbgdkbpamekpaa.Q
open Go.RowKit Go.Proofs.YtdbgdkbpamekpaaW.PrintWords Go.Proofs.YtdbgdkbpamekpaaW.PrintLast Go.Proofs.YtdbgdkbpamekpaaW.PrintMore
attribute [local go_sem] max2_int min2_int max_two min_two max_three min_three max_four min_four   -- for this text's walks alone
set_option linter.unusedVariables false
set_option linter.unusedSimpArgs false

/-! ### treemergeref32_Equal: function 16 -/
def treemergeref32_Equal.l0 : Nat → List Int → List Int → Int → Option (Bool)
 | 0, _, _, _ => none
 | k + 1, x0, x1, x5 => if x5 < (x0.length : Int) then (if 0 ≤ x5 then (if x5 < (x1.length : Int) then (if (rd x0 x5) = (rd x1 x5) then (treemergeref32_Equal.l0 k x0 x1 (wrap64 (x5 + 1))) else (some false)) else (none)) else (none)) else (some true)
def treemergeref32_Equal.f (k : Nat) (l0 : List Int) (l1 : List Int) : Option (Bool) := if (l0.length : Int) = (l1.length : Int) then (treemergeref32_Equal.l0 k l0 l1 0) else (some false)
theorem treemergeref32_Equal.mono_l : ∀ k, (∀ y0 y1 y2, LeO (treemergeref32_Equal.l0 k y0 y1 y2) (treemergeref32_Equal.l0 (k + 1) y0 y1 y2))
 | 0 => fun _ _ _ r h => by simp [treemergeref32_Equal.l0] at h
 | k + 1 => by
  have ih0 := treemergeref32_Equal.mono_l k
  ·intro y0 y1 y2
   unfold treemergeref32_Equal.l0
   repeat' first
   | (with_reducible exact ih0 _ _ _)
   | (with_reducible exact LeO.refl _)
   | (with_reducible exact LeO.none _)
   | (with_reducible refine LeO.ite ?_ ?_)
   | (with_reducible refine LeO.bind ?_ (fun _ => ?_))
theorem treemergeref32_Equal.mono : ∀ a0 a1 k, LeO (treemergeref32_Equal.f k a0 a1) (treemergeref32_Equal.f (k + 1) a0 a1) := by
 intro a0 a1 k
 have ih0 := treemergeref32_Equal.mono_l k
 unfold treemergeref32_Equal.f
 repeat' first
   | (with_reducible exact ih0 _ _ _)
   | (with_reducible exact LeO.refl _)
   | (with_reducible exact LeO.none _)
   | (with_reducible refine LeO.ite ?_ ?_)
   | (with_reducible refine LeO.bind ?_ (fun _ => ?_))
set_option maxHeartbeats 8000000 in
set_option maxRecDepth 100000 in
theorem treemergeref32_Equal.calls (k : Nat) (A0 : Option Addr) (c0 : Nat) (l0 : List Int) (A1 : Option Addr) (c1 : Nat) (l1 : List Int) (r : Bool) (w : World) (hr0 : Kd.C (Kd.int .i64) w A0 l0.length l0) (hc0 : l0.length ≤ c0) (hr1 : Kd.C (Kd.int .i64) w A1 l1.length l1) (hc1 : l1.length ≤ c1) (h : treemergeref32_Equal.f k l0 l1 = some r) :
  Calls Try.prog 16 #[.slice A0 l0.length c0, .slice A1 l1.length c1] w fun e w' => e = .returned (.bool r) ∧ Drawn0 w w' := by
 have HR0 := Aside0.mk hr0
 have HC0 := Aside0.mk hc0
 clear hr0 hc0
 have HR1 := Aside0.mk hr1
 have HC1 := Aside0.mk hc1
 clear hr1 hc1
 have H : (if (l0.length : Int) = (l1.length : Int) then (treemergeref32_Equal.l0 k l0 l1 0) else (some false)) = some r := h
 clear h
 by_cases c3 : (l0.length : Int) = (l1.length : Int)
 ·rw [if_pos c3] at H
  have c3b0 : ((l0.length : Int) == (l1.length : Int)) = true := beq_iff_eq.mpr c3
  have c3b1 : ((l0.length : Int) != (l1.length : Int)) = false := bne_eq_false_iff_eq.mpr c3
  have c3b2 : (l0.length == l1.length) = true := by first | simpa using c3 | (simp at c3 ⊢; omega)
  clear c3
  have H' := Aside0.mk H
  clear H
  go_enter Try.func16, Try.ntmps16
  go_wp2
  repeat (go_quiet (fail); try go_wp2)
  go_loopg [5] k (fun kq v5 w' => ∃ (x5_1 : Int), v5 = .int .i64 x5_1 ∧ Aside0 (treemergeref32_Equal.l0 kq l0 l1 x5_1 = some r) ∧ Aside0 (kq ≤ k) ∧ Drawn0 w w')
  case atStart => exact ⟨(0), SX, H', ⟨Nat.le_refl _⟩, by repeat (first | exact Drawn0.refl _ | apply Drawn0.step)⟩
  case round =>
   clear H'
   try clear c1
   try clear p2
   try clear c3
   try clear c3b0
   try clear c3b1
   try clear c3b2
   obtain ⟨x5_1, rfl, HA, HK1, ⟨m1, rfl⟩⟩ := hrel
   cases gk with
   | zero => exact absurd HA.out (by simp [treemergeref32_Equal.l0])
   | succ k1 =>
    have H := HA.out
    clear HA
    simp only [treemergeref32_Equal.l0] at H
    by_cases c4 : x5_1 < (l0.length : Int)
    ·rw [if_pos c4] at H
     have c4b0 : decide (x5_1 < (l0.length : Int)) = true := decide_eq_true c4
     clear c4
     by_cases c5 : 0 ≤ x5_1
     ·rw [if_pos c5] at H
      have c5b0 : decide (0 ≤ x5_1) = true := decide_eq_true c5
      clear c5
      by_cases c6 : x5_1 < (l1.length : Int)
      ·rw [if_pos c6] at H
       have c6b0 : decide (x5_1 < (l1.length : Int)) = true := decide_eq_true c6
       clear c6
       by_cases c7 : (rd l0 x5_1) = (rd l1 x5_1)
       ·rw [if_pos c7] at H
        have c7b0 : ((rd l0 x5_1) == (rd l1 x5_1)) = true := beq_iff_eq.mpr c7
        have c7b1 : ((rd l0 x5_1) != (rd l1 x5_1)) = false := bne_eq_false_iff_eq.mpr c7
        clear c7
        have H' := Aside0.mk H
        clear H
        have p162 : 0 ≤ (x5_1 : Int) := of_decide_eq_true AX
        have q162 : x5_1 < (l0.length : Int) := of_decide_eq_true AX
        obtain ⟨ad162, e162, hx162_0⟩ := Kd.at_int HR0.out x5_1 p162 q162
        cases e162
        replace p162 := eq_true p162
        replace q162 := eq_true q162
        have p163 : 0 ≤ (x5_1 : Int) := of_decide_eq_true AX
        have q163 : x5_1 < (l1.length : Int) := of_decide_eq_true AX
        obtain ⟨ad163, e163, hx163_0⟩ := Kd.at_int HR1.out x5_1 p163 q163
        cases e163
        replace p163 := eq_true p163
        replace q163 := eq_true q163
        go_wp2
        repeat (go_quiet (fail); try go_wp2)
        go_roundg k1
        case measure => have := HK1.out; omega
        case rel => exact ⟨(wrap64 (x5_1 + 1)), SX, H', ⟨by have := HK1.out; omega⟩, by repeat (first | exact Drawn0.refl _ | apply Drawn0.step)⟩
       ·rw [if_neg c7] at H
        have c7b0 : ((rd l0 x5_1) == (rd l1 x5_1)) = false := beq_eq_false_iff_ne.mpr c7
        have c7b1 : ((rd l0 x5_1) != (rd l1 x5_1)) = true := bne_iff_ne.mpr c7
        obtain rfl := Option.some.inj H
        have p162 : 0 ≤ (x5_1 : Int) := of_decide_eq_true AX
        have q162 : x5_1 < (l0.length : Int) := of_decide_eq_true AX
        obtain ⟨ad162, e162, hx162_0⟩ := Kd.at_int HR0.out x5_1 p162 q162
        cases e162
        replace p162 := eq_true p162
        replace q162 := eq_true q162
        have p163 : 0 ≤ (x5_1 : Int) := of_decide_eq_true AX
        have q163 : x5_1 < (l1.length : Int) := of_decide_eq_true AX
        obtain ⟨ad163, e163, hx163_0⟩ := Kd.at_int HR1.out x5_1 p163 q163
        cases e163
        replace p163 := eq_true p163
        replace q163 := eq_true q163
        go_wp2
        repeat (go_quiet (fail); try go_wp2)
        go_ret
        exact ⟨SX, by repeat (first | exact Drawn0.refl _ | apply Drawn0.step)⟩
      ·rw [if_neg c6] at H
       exact absurd H (by simp)
     ·rw [if_neg c5] at H
      exact absurd H (by simp)
    ·rw [if_neg c4] at H
     have c4b0 : decide (x5_1 < (l0.length : Int)) = false := decide_eq_false c4
     clear c4
     obtain rfl := Option.some.inj H
     go_wp2
     repeat (go_quiet (fail); try go_wp2)
     go_ret
     exact ⟨SX, by repeat (first | exact Drawn0.refl _ | apply Drawn0.step)⟩
 ·rw [if_neg c3] at H
  have c3b0 : ((l0.length : Int) == (l1.length : Int)) = false := beq_eq_false_iff_ne.mpr c3
  have c3b1 : ((l0.length : Int) != (l1.length : Int)) = true := bne_iff_ne.mpr c3
  have c3b2 : (l0.length == l1.length) = false := by first | simpa using c3 | (simp at c3 ⊢; omega)
  obtain rfl := Option.some.inj H
  go_enter Try.func16, Try.ntmps16
  go_wp2
  repeat (go_quiet (fail); try go_wp2)
  go_ret
  exact ⟨SX, by repeat (first | exact Drawn0.refl _ | apply Drawn0.step)⟩

/-! ### treemergelaw32_awake: function 12 (by hand) -/
theorem lit_at (w : World) (g : Nat) (xs : List Int) (hx : xs.length ≤ 1000000) (h : w.heap[g]? = some (.cells (encs (Value.int .i64) xs).toArray 3 (0, 0))) : Kd.C (Kd.int .i64) w (some ⟨g, 0, none⟩) xs.length xs := by
 have ho : w.ownsRow 0 3 1 (.slice (some ⟨g, 0, none⟩) xs.length xs.length) xs.length (encs (Value.int .i64) xs) := ⟨by rw [encs_length, Nat.mul_one], .inr ⟨g, xs.length, _, rfl, Nat.zero_le _, h, Nat.le_refl _, by simp only [maxLen]; omega, by simp [encs], by rw [Nat.mul_one, List.toList_toArray, List.take_of_length_le (by rw [encs_length]; exact Nat.le_refl _)]⟩⟩
 exact (Kd.R_reads' (Kd.R_of_own (h1 := fun _ => rfl) ho (ok := fun _ => True) (fun _ _ => trivial))).2.2
theorem lit_atS (w : World) (g : Nat) (xs : List ByteArray) (hx : xs.length ≤ 1000000) (h : w.heap[g]? = some (.cells (encs Value.string xs).toArray 9 (0, 0))) : Kd.C Kd.string w (some ⟨g, 0, none⟩) xs.length xs := by
 have ho : w.ownsRow 0 9 1 (.slice (some ⟨g, 0, none⟩) xs.length xs.length) xs.length (encs Value.string xs) := ⟨by rw [encs_length, Nat.mul_one], .inr ⟨g, xs.length, _, rfl, Nat.zero_le _, h, Nat.le_refl _, by simp only [maxLen]; omega, by simp [encs], by rw [Nat.mul_one, List.toList_toArray, List.take_of_length_le (by rw [encs_length]; exact Nat.le_refl _)]⟩⟩
 exact (Kd.R_reads' (Kd.R_of_own (h1 := fun _ => rfl) ho (ok := fun _ => True) (fun _ _ => trivial))).2.2
theorem allocs (w : World) (o1 o2 o3 : Obj) : (((w.alloc o1).alloc o2).alloc o3).heap[w.heap.size]? = some o1 ∧ (((w.alloc o1).alloc o2).alloc o3).heap[w.heap.size + 1]? = some o2 ∧ (((w.alloc o1).alloc o2).alloc o3).heap[w.heap.size + 2]? = some o3 := by
 show (((w.heap.push o1).push o2).push o3)[w.heap.size]? = some o1 ∧ (((w.heap.push o1).push o2).push o3)[w.heap.size + 1]? = some o2 ∧ (((w.heap.push o1).push o2).push o3)[w.heap.size + 2]? = some o3
 refine ⟨?_, ?_, ?_⟩
 ·rw [Array.getElem?_push, if_neg (by simp only [Array.size_push]; omega), Array.getElem?_push, if_neg (by simp only [Array.size_push]; omega), Array.getElem?_push, if_pos rfl]
 ·rw [Array.getElem?_push, if_neg (by simp only [Array.size_push]; omega), Array.getElem?_push, if_pos (by simp only [Array.size_push])]
 ·rw [Array.getElem?_push, if_pos (by simp only [Array.size_push])]
abbrev litO (xs : List Int) : Obj := .cells (encs (Value.int .i64) xs).toArray 3
abbrev litS (xs : List ByteArray) : Obj := .cells (encs Value.string xs).toArray 9
theorem res_of {v : Value} {w w' : World} {base : Nat} {r : List Int} (h : Kd.R (Kd.int .i64) 3 w' base (fun _ => True) v r) : ∃ (A : Option Addr) (c : Nat), v = .slice A r.length c ∧ r.length ≤ c ∧ Kd.C (Kd.int .i64) w' A r.length r := by
 obtain ⟨A, c, rfl⟩ := Kd.R_slice h
 exact ⟨A, c, rfl, (Kd.R_reads' h).2⟩
theorem merge_lit (k : Nat) (w : World) (xs ys zs r : List Int) (b : Bool) (hx : xs.length ≤ 1000000) (hy : ys.length ≤ 1000000) (hz : zs.length ≤ 1000000) (F : sequence_Merge.f k xs ys zs = some (r, b)) :
  Calls Try.prog 13 #[.slice (some ⟨w.heap.size, 0, none⟩) xs.length xs.length, .slice (some ⟨w.heap.size + 1, 0, none⟩) ys.length ys.length, .slice (some ⟨w.heap.size + 1 + 1, 0, none⟩) zs.length zs.length] (((w.alloc (litO xs)).alloc (litO ys)).alloc (litO zs)) fun e w' => ∃ (A : Option Addr) (c : Nat), e = .returned (.tuple #[.slice A r.length c, .bool b]) ∧ r.length ≤ c ∧ Kd.C (Kd.int .i64) w' A r.length r ∧ Below w.heap.size w w' := by
 obtain ⟨h1, h2, h3⟩ := allocs w (litO xs) (litO ys) (litO zs)
 have hb : Below w.heap.size w (((w.alloc (litO xs)).alloc (litO ys)).alloc (litO zs)) := below_alloc (below_alloc (below_alloc (Below.refl _ _) _) _) _
 refine (sequence_Merge.calls k _ _ xs _ _ ys _ _ zs r b _ (lit_at _ _ xs hx h1) (Nat.le_refl _) (lit_at _ _ ys hy h2) (Nat.le_refl _) (lit_at _ _ zs hz h3) (Nat.le_refl _) F).mono ?_
 rintro e w1 ⟨v1, rfl, hr1, hb1⟩
 obtain ⟨A, c, rfl, hc⟩ := res_of (w := w) hr1
 exact ⟨A, c, rfl, hc.1, hc.2, hb.trans (hb1.mono hb.size)⟩
theorem kept_lit (w : World) (xs ys zs r : List Int) (hx : xs.length ≤ 1000000) (hy : ys.length ≤ 1000000) (hz : zs.length ≤ 1000000) (F : sequence_Kept.f xs ys zs = some r) :
  Calls Try.prog 20 #[.slice (some ⟨w.heap.size, 0, none⟩) xs.length xs.length, .slice (some ⟨w.heap.size + 1, 0, none⟩) ys.length ys.length, .slice (some ⟨w.heap.size + 1 + 1, 0, none⟩) zs.length zs.length] (((w.alloc (litO xs)).alloc (litO ys)).alloc (litO zs)) fun e w' => ∃ (A : Option Addr) (c : Nat), e = .returned (.slice A r.length c) ∧ r.length ≤ c ∧ Kd.C (Kd.int .i64) w' A r.length r ∧ Below w.heap.size w w' := by
 obtain ⟨h1, h2, h3⟩ := allocs w (litO xs) (litO ys) (litO zs)
 have hb : Below w.heap.size w (((w.alloc (litO xs)).alloc (litO ys)).alloc (litO zs)) := below_alloc (below_alloc (below_alloc (Below.refl _ _) _) _) _
 refine (sequence_Kept.calls _ _ xs _ _ ys _ _ zs r _ (lit_at _ _ xs hx h1) (Nat.le_refl _) (lit_at _ _ ys hy h2) (Nat.le_refl _) (lit_at _ _ zs hz h3) (Nat.le_refl _) F).mono ?_
 rintro e w1 ⟨v1, rfl, hr1, hb1⟩
 obtain ⟨A, c, rfl, hc⟩ := res_of (w := w) hr1
 exact ⟨A, c, rfl, hc.1, hc.2, hb.trans (hb1.mono hb.size)⟩
theorem free_lit (k : Nat) (w : World) (xs ys zs r : List Int) (ks : List ByteArray) (b : Bool) (hx : xs.length ≤ 1000000) (hy : ys.length ≤ 1000000) (hz : zs.length ≤ 1000000) (hk : ks.length ≤ 1000000) (F : sequence_Free.f k xs ys zs ks = some (r, b)) :
  Calls Try.prog 14 #[.slice (some ⟨w.heap.size, 0, none⟩) xs.length xs.length, .slice (some ⟨w.heap.size + 1, 0, none⟩) ys.length ys.length, .slice (some ⟨w.heap.size + 1 + 1, 0, none⟩) zs.length zs.length, .slice (some ⟨w.heap.size + 1 + 1 + 1, 0, none⟩) ks.length ks.length] ((((w.alloc (litO xs)).alloc (litO ys)).alloc (litO zs)).alloc (litS ks)) fun e w' => ∃ (A : Option Addr) (c : Nat), e = .returned (.tuple #[.slice A r.length c, .bool b]) ∧ r.length ≤ c ∧ Kd.C (Kd.int .i64) w' A r.length r ∧ Below w.heap.size w w' := by
 obtain ⟨h1, h2, h3⟩ := allocs w (litO xs) (litO ys) (litO zs)
 have hb : Below w.heap.size w (((w.alloc (litO xs)).alloc (litO ys)).alloc (litO zs)) := below_alloc (below_alloc (below_alloc (Below.refl _ _) _) _) _
 have h4 := heap_alloc_new (((w.alloc (litO xs)).alloc (litO ys)).alloc (litO zs)) (litS ks)
 have hsz : (((w.alloc (litO xs)).alloc (litO ys)).alloc (litO zs)).heap.size = w.heap.size + 1 + 1 + 1 := by
  show (((w.heap.push _).push _).push _).size = _
  simp only [Array.size_push]
 rw [hsz] at h4
 have hb2 := below_alloc hb (litS ks)
 refine (sequence_Free.calls k _ _ xs _ _ ys _ _ zs _ _ ks r b _ (lit_at _ _ xs hx (blk_alloc h1 _)) (Nat.le_refl _) (lit_at _ _ ys hy (blk_alloc h2 _)) (Nat.le_refl _) (lit_at _ _ zs hz (blk_alloc h3 _)) (Nat.le_refl _) (lit_atS _ _ ks hk h4) (Nat.le_refl _) F).mono ?_
 rintro e w1 ⟨v1, rfl, hr1, hb1⟩
 obtain ⟨A, c, rfl, hc⟩ := res_of (w := w) hr1
 exact ⟨A, c, rfl, hc.1, hc.2, hb2.trans (hb1.mono hb2.size)⟩
theorem eq_lit (A : Option Addr) (c : Nat) (l xs : List Int) (r : Bool) (w : World) (hr : Kd.C (Kd.int .i64) w A l.length l) (hc : l.length ≤ c) (hx : xs.length ≤ 1000000) (F : treemergeref32_Equal.f 10 l xs = some r) :
  Calls Try.prog 16 #[.slice A l.length c, .slice (some ⟨w.heap.size, 0, none⟩) xs.length xs.length] (w.alloc (litO xs)) fun e w' => e = .returned (.bool r) ∧ Below w.heap.size w w' := by
 have hb : Below w.heap.size w (w.alloc (litO xs)) := below_alloc (Below.refl _ _) _
 refine (treemergeref32_Equal.calls 10 A c l _ _ xs r _ (Kd.C_below hr hb) hc (lit_at _ _ xs hx (heap_alloc_new _ _)) (Nat.le_refl _) F).mono ?_
 rintro e w1 ⟨rfl, hd⟩
 exact ⟨rfl, hb.trans (hd.below.mono hb.size)⟩
def awkKeys : List ByteArray := [⟨#[]⟩, ⟨#[]⟩, ⟨#[]⟩, ⟨#[98]⟩, ⟨#[97]⟩]
def treemergelaw32_awake.f (k : Nat) : Option Bool :=
 if sequence_Merge.f k [1, 2, 3] [1, 4, 2, 3] [1, 2, 3, 5] = some ([1, 4, 2, 3, 5], true) ∧ sequence_Merge.f k [1, 2] [1, 3, 2] [1, 4, 2] = some ([], false) ∧ sequence_Free.f k [1, 2] [1, 3, 2] [1, 4, 2] awkKeys = some ([1, 4, 3, 2], false) ∧ sequence_Kept.f [3, 1] [1, 7] [5, 1] = some [1, 5, 7] then some true else none
theorem treemergelaw32_awake.mono : ∀ k, LeO (treemergelaw32_awake.f k) (treemergelaw32_awake.f (k + 1)) := by
 intro k r h
 unfold treemergelaw32_awake.f at *
 by_cases c : sequence_Merge.f k [1, 2, 3] [1, 4, 2, 3] [1, 2, 3, 5] = some ([1, 4, 2, 3, 5], true) ∧ sequence_Merge.f k [1, 2] [1, 3, 2] [1, 4, 2] = some ([], false) ∧ sequence_Free.f k [1, 2] [1, 3, 2] [1, 4, 2] awkKeys = some ([1, 4, 3, 2], false) ∧ sequence_Kept.f [3, 1] [1, 7] [5, 1] = some [1, 5, 7]
 ·rw [if_pos c] at h
  obtain ⟨c1, c2, c3, c4⟩ := c
  rw [if_pos ⟨sequence_Merge.mono _ _ _ _ _ c1, sequence_Merge.mono _ _ _ _ _ c2, sequence_Free.mono _ _ _ _ _ _ c3, c4⟩]
  exact h
 ·rw [if_neg c] at h
  cases h
set_option maxHeartbeats 16000000 in
set_option maxRecDepth 100000 in
theorem treemergelaw32_awake.calls (k : Nat) (r : Bool) (w : World) (h : treemergelaw32_awake.f k = some r) :
  Calls Try.prog 12 #[] w fun e w' => e = .returned (.bool r) ∧ Below w.heap.size w w' := by
 unfold treemergelaw32_awake.f at h
 have c : sequence_Merge.f k [1, 2, 3] [1, 4, 2, 3] [1, 2, 3, 5] = some ([1, 4, 2, 3, 5], true) ∧ sequence_Merge.f k [1, 2] [1, 3, 2] [1, 4, 2] = some ([], false) ∧ sequence_Free.f k [1, 2] [1, 3, 2] [1, 4, 2] awkKeys = some ([1, 4, 3, 2], false) ∧ sequence_Kept.f [3, 1] [1, 7] [5, 1] = some [1, 5, 7] := by
  apply Classical.byContradiction
  intro c
  rw [if_neg c] at h
  cases h
 rw [if_pos c] at h
 injection h with h
 subst h
 obtain ⟨c1, c2, c3, c4⟩ := c
 have F1 := Aside0.mk c1
 have F2 := Aside0.mk c2
 have F3 := Aside0.mk c3
 have F4 := Aside0.mk c4
 clear c1 c2 c3 c4
 have E1 : Aside0 (treemergeref32_Equal.f 10 [1, 4, 2, 3, 5] [1, 4, 2, 3, 5] = some true) := ⟨by decide +kernel⟩
 have E2 : Aside0 (treemergeref32_Equal.f 10 [1, 4, 3, 2] [1, 4, 3, 2] = some true) := ⟨by decide +kernel⟩
 have E3 : Aside0 (treemergeref32_Equal.f 10 [1, 5, 7] [1, 5, 7] = some true) := ⟨by decide +kernel⟩
 have H1 : ∀ w : World, Calls Try.prog 13 #[.slice (some ⟨w.heap.size, 0, none⟩) 3 3, .slice (some ⟨w.heap.size + 1, 0, none⟩) 4 4, .slice (some ⟨w.heap.size + 1 + 1, 0, none⟩) 4 4] (((w.alloc (Obj.cells #[.int .i64 1, .int .i64 2, .int .i64 3] 3)).alloc (Obj.cells #[.int .i64 1, .int .i64 4, .int .i64 2, .int .i64 3] 3)).alloc (Obj.cells #[.int .i64 1, .int .i64 2, .int .i64 3, .int .i64 5] 3)) fun e w' => ∃ (A : Option Addr) (c : Nat), e = .returned (.tuple #[.slice A 5 c, .bool true]) ∧ 5 ≤ c ∧ Kd.C (Kd.int .i64) w' A 5 [1, 4, 2, 3, 5] ∧ Below w.heap.size w w' := fun w => merge_lit k w [1, 2, 3] [1, 4, 2, 3] [1, 2, 3, 5] [1, 4, 2, 3, 5] true (by decide) (by decide) (by decide) F1.out
 have H2 : ∀ w : World, Calls Try.prog 13 #[.slice (some ⟨w.heap.size, 0, none⟩) 2 2, .slice (some ⟨w.heap.size + 1, 0, none⟩) 3 3, .slice (some ⟨w.heap.size + 1 + 1, 0, none⟩) 3 3] (((w.alloc (Obj.cells #[.int .i64 1, .int .i64 2] 3)).alloc (Obj.cells #[.int .i64 1, .int .i64 3, .int .i64 2] 3)).alloc (Obj.cells #[.int .i64 1, .int .i64 4, .int .i64 2] 3)) fun e w' => ∃ (A : Option Addr) (c : Nat), e = .returned (.tuple #[.slice A 0 c, .bool false]) ∧ 0 ≤ c ∧ Kd.C (Kd.int .i64) w' A 0 [] ∧ Below w.heap.size w w' := fun w => merge_lit k w [1, 2] [1, 3, 2] [1, 4, 2] [] false (by decide) (by decide) (by decide) F2.out
 have H3 : ∀ w : World, Calls Try.prog 14 #[.slice (some ⟨w.heap.size, 0, none⟩) 2 2, .slice (some ⟨w.heap.size + 1, 0, none⟩) 3 3, .slice (some ⟨w.heap.size + 1 + 1, 0, none⟩) 3 3, .slice (some ⟨w.heap.size + 1 + 1 + 1, 0, none⟩) 5 5] ((((w.alloc (Obj.cells #[.int .i64 1, .int .i64 2] 3)).alloc (Obj.cells #[.int .i64 1, .int .i64 3, .int .i64 2] 3)).alloc (Obj.cells #[.int .i64 1, .int .i64 4, .int .i64 2] 3)).alloc (Obj.cells #[.string ⟨#[]⟩, .string ⟨#[]⟩, .string ⟨#[]⟩, .string ⟨#[98]⟩, .string ⟨#[97]⟩] 9)) fun e w' => ∃ (A : Option Addr) (c : Nat), e = .returned (.tuple #[.slice A 4 c, .bool false]) ∧ 4 ≤ c ∧ Kd.C (Kd.int .i64) w' A 4 [1, 4, 3, 2] ∧ Below w.heap.size w w' := fun w => free_lit k w [1, 2] [1, 3, 2] [1, 4, 2] [1, 4, 3, 2] awkKeys false (by decide) (by decide) (by decide) (by decide) F3.out
 have H4 : ∀ w : World, Calls Try.prog 20 #[.slice (some ⟨w.heap.size, 0, none⟩) 2 2, .slice (some ⟨w.heap.size + 1, 0, none⟩) 2 2, .slice (some ⟨w.heap.size + 1 + 1, 0, none⟩) 2 2] (((w.alloc (Obj.cells #[.int .i64 3, .int .i64 1] 3)).alloc (Obj.cells #[.int .i64 1, .int .i64 7] 3)).alloc (Obj.cells #[.int .i64 5, .int .i64 1] 3)) fun e w' => ∃ (A : Option Addr) (c : Nat), e = .returned (.slice A 3 c) ∧ 3 ≤ c ∧ Kd.C (Kd.int .i64) w' A 3 [1, 5, 7] ∧ Below w.heap.size w w' := fun w => kept_lit w [3, 1] [1, 7] [5, 1] [1, 5, 7] (by decide) (by decide) (by decide) F4.out
 have H5 : ∀ (w : World) (A : Option Addr) (c : Nat), Kd.C (Kd.int .i64) w A 5 [1, 4, 2, 3, 5] → 5 ≤ c → Calls Try.prog 16 #[.slice A 5 c, .slice (some ⟨w.heap.size, 0, none⟩) 5 5] (w.alloc (Obj.cells #[.int .i64 1, .int .i64 4, .int .i64 2, .int .i64 3, .int .i64 5] 3)) fun e w' => e = .returned (.bool true) ∧ Below w.heap.size w w' := fun w A c hr hc => eq_lit A c [1, 4, 2, 3, 5] [1, 4, 2, 3, 5] true w hr hc (by decide) E1.out
 have H6 : ∀ (w : World) (A : Option Addr) (c : Nat), Kd.C (Kd.int .i64) w A 4 [1, 4, 3, 2] → 4 ≤ c → Calls Try.prog 16 #[.slice A 4 c, .slice (some ⟨w.heap.size, 0, none⟩) 4 4] (w.alloc (Obj.cells #[.int .i64 1, .int .i64 4, .int .i64 3, .int .i64 2] 3)) fun e w' => e = .returned (.bool true) ∧ Below w.heap.size w w' := fun w A c hr hc => eq_lit A c [1, 4, 3, 2] [1, 4, 3, 2] true w hr hc (by decide) E2.out
 have H7 : ∀ (w : World) (A : Option Addr) (c : Nat), Kd.C (Kd.int .i64) w A 3 [1, 5, 7] → 3 ≤ c → Calls Try.prog 16 #[.slice A 3 c, .slice (some ⟨w.heap.size, 0, none⟩) 3 3] (w.alloc (Obj.cells #[.int .i64 1, .int .i64 5, .int .i64 7] 3)) fun e w' => e = .returned (.bool true) ∧ Below w.heap.size w w' := fun w A c hr hc => eq_lit A c [1, 5, 7] [1, 5, 7] true w hr hc (by decide) E3.out
 have H1 := Aside0.mk H1
 have H2 := Aside0.mk H2
 have H3 := Aside0.mk H3
 have H4 := Aside0.mk H4
 have H5 := Aside0.mk H5
 have H6 := Aside0.mk H6
 have H7 := Aside0.mk H7
 go_enter Try.func12, Try.ntmps12
 go_wp2_with (first
  | (go_at_call 13; ((with_reducible refine (H1.out w).mono ?_); rintro e w1 ⟨A1, c1, rfl, hc1, hr1, hb1⟩; have HC1 := Aside0.mk hc1; have HR1 := Aside0.mk hr1; have HB1 := Aside0.mk hb1; clear hc1 hr1 hb1))
  | (go_at_call 13; ((with_reducible refine (H2.out w1).mono ?_); rintro e w2 ⟨A2, c2, rfl, hc2, hr2, hb2⟩; have HR12 := Aside0.mk (Kd.C_below HR1.out hb2); have HB2 := Aside0.mk (HB1.out.trans (hb2.mono HB1.out.size)); clear hc2 hr2 hb2))
  | (go_at_call 14; ((with_reducible refine (H3.out w2).mono ?_); rintro e w3 ⟨A3, c3, rfl, hc3, hr3, hb3⟩; have HR13 := Aside0.mk (Kd.C_below HR12.out hb3); have HC3 := Aside0.mk hc3; have HR3 := Aside0.mk hr3; have HB3 := Aside0.mk (HB2.out.trans (hb3.mono HB2.out.size)); clear hc3 hr3 hb3))
  | (go_at_call 20; ((with_reducible refine (H4.out w3).mono ?_); rintro e w4 ⟨A4, c4, rfl, hc4, hr4, hb4⟩; have HR14 := Aside0.mk (Kd.C_below HR13.out hb4); have HR34 := Aside0.mk (Kd.C_below HR3.out hb4); have HC4 := Aside0.mk hc4; have HR4 := Aside0.mk hr4; have HB4 := Aside0.mk (HB3.out.trans (hb4.mono HB3.out.size)); clear hc4 hr4 hb4))
  | (go_at_call 16; ((with_reducible refine (H5.out w4 A1 c1 HR14.out HC1.out).mono ?_); rintro e w5 ⟨rfl, hb5⟩; have HR35 := Aside0.mk (Kd.C_below HR34.out hb5); have HR45 := Aside0.mk (Kd.C_below HR4.out hb5); have HB5 := Aside0.mk (HB4.out.trans (hb5.mono HB4.out.size)); clear hb5))
  | (go_at_call 16; ((with_reducible refine (H6.out w5 A3 c3 HR35.out HC3.out).mono ?_); rintro e w6 ⟨rfl, hb6⟩; have HR46 := Aside0.mk (Kd.C_below HR45.out hb6); have HB6 := Aside0.mk (HB5.out.trans (hb6.mono HB5.out.size)); clear hb6))
  | (go_at_call 16; ((with_reducible refine (H7.out w6 A4 c4 HR46.out HC4.out).mono ?_); rintro e w7 ⟨rfl, hb7⟩; have HB7 := Aside0.mk (HB6.out.trans (hb7.mono HB6.out.size)); clear hb7)))
 go_ret
 exact ⟨rfl, HB7.out⟩

/-! ### treemergeref32_Has: function 17 -/
def treemergeref32_Has.l0 : Nat → List Int → Int → Int → Option (Bool)
 | 0, _, _, _ => none
 | k + 1, x0, x1, x5 => if x5 < (x0.length : Int) then (if 0 ≤ x5 then (if (rd x0 x5) = x1 then (some true) else (treemergeref32_Has.l0 k x0 x1 (wrap64 (x5 + 1)))) else (none)) else (some false)
def treemergeref32_Has.f (k : Nat) (l0 : List Int) (a1 : Int) : Option (Bool) := treemergeref32_Has.l0 k l0 a1 0
theorem treemergeref32_Has.mono_l : ∀ k, (∀ y0 y1 y2, LeO (treemergeref32_Has.l0 k y0 y1 y2) (treemergeref32_Has.l0 (k + 1) y0 y1 y2))
 | 0 => fun _ _ _ r h => by simp [treemergeref32_Has.l0] at h
 | k + 1 => by
  have ih0 := treemergeref32_Has.mono_l k
  ·intro y0 y1 y2
   unfold treemergeref32_Has.l0
   repeat' first
   | (with_reducible exact ih0 _ _ _)
   | (with_reducible exact LeO.refl _)
   | (with_reducible exact LeO.none _)
   | (with_reducible refine LeO.ite ?_ ?_)
   | (with_reducible refine LeO.bind ?_ (fun _ => ?_))
theorem treemergeref32_Has.mono : ∀ a0 a1 k, LeO (treemergeref32_Has.f k a0 a1) (treemergeref32_Has.f (k + 1) a0 a1) := by
 intro a0 a1 k
 have ih0 := treemergeref32_Has.mono_l k
 unfold treemergeref32_Has.f
 repeat' first
   | (with_reducible exact ih0 _ _ _)
   | (with_reducible exact LeO.refl _)
   | (with_reducible exact LeO.none _)
   | (with_reducible refine LeO.ite ?_ ?_)
   | (with_reducible refine LeO.bind ?_ (fun _ => ?_))
set_option maxHeartbeats 8000000 in
set_option maxRecDepth 100000 in
theorem treemergeref32_Has.calls (k : Nat) (A0 : Option Addr) (c0 : Nat) (l0 : List Int) (a1 : Int) (r : Bool) (w : World) (hr0 : Kd.C (Kd.int .i64) w A0 l0.length l0) (hc0 : l0.length ≤ c0) (h : treemergeref32_Has.f k l0 a1 = some r) :
  Calls Try.prog 17 #[.slice A0 l0.length c0, .int .i64 a1] w fun e w' => e = .returned (.bool r) ∧ Drawn0 w w' := by
 have HR0 := Aside0.mk hr0
 have HC0 := Aside0.mk hc0
 clear hr0 hc0
 have H : (treemergeref32_Has.l0 k l0 a1 0) = some r := h
 clear h
 have H' := Aside0.mk H
 clear H
 go_enter Try.func17, Try.ntmps17
 go_wp2
 go_loopg [5] k (fun kq v5 w' => ∃ (x5_1 : Int), v5 = .int .i64 x5_1 ∧ Aside0 (treemergeref32_Has.l0 kq l0 a1 x5_1 = some r) ∧ Aside0 (kq ≤ k) ∧ Drawn0 w w')
 case atStart => exact ⟨(0), SX, H', ⟨Nat.le_refl _⟩, by repeat (first | exact Drawn0.refl _ | apply Drawn0.step)⟩
 case round =>
  clear H'
  try clear c1
  try clear p2
  obtain ⟨x5_1, rfl, HA, HK1, ⟨m1, rfl⟩⟩ := hrel
  cases gk with
  | zero => exact absurd HA.out (by simp [treemergeref32_Has.l0])
  | succ k1 =>
   have H := HA.out
   clear HA
   simp only [treemergeref32_Has.l0] at H
   by_cases c3 : x5_1 < (l0.length : Int)
   ·rw [if_pos c3] at H
    have c3b0 : decide (x5_1 < (l0.length : Int)) = true := decide_eq_true c3
    clear c3
    by_cases c4 : 0 ≤ x5_1
    ·rw [if_pos c4] at H
     have c4b0 : decide (0 ≤ x5_1) = true := decide_eq_true c4
     clear c4
     by_cases c5 : (rd l0 x5_1) = a1
     ·rw [if_pos c5] at H
      have c5b0 : ((rd l0 x5_1) == a1) = true := beq_iff_eq.mpr c5
      have c5b1 : ((rd l0 x5_1) != a1) = false := bne_eq_false_iff_eq.mpr c5
      clear c5
      obtain rfl := Option.some.inj H
      have p164 : 0 ≤ (x5_1 : Int) := of_decide_eq_true AX
      have q164 : x5_1 < (l0.length : Int) := of_decide_eq_true AX
      obtain ⟨ad164, e164, hx164_0⟩ := Kd.at_int HR0.out x5_1 p164 q164
      cases e164
      replace p164 := eq_true p164
      replace q164 := eq_true q164
      go_wp2
      go_ret
      exact ⟨SX, by repeat (first | exact Drawn0.refl _ | apply Drawn0.step)⟩
     ·rw [if_neg c5] at H
      have c5b0 : ((rd l0 x5_1) == a1) = false := beq_eq_false_iff_ne.mpr c5
      have c5b1 : ((rd l0 x5_1) != a1) = true := bne_iff_ne.mpr c5
      have H' := Aside0.mk H
      clear H
      have p164 : 0 ≤ (x5_1 : Int) := of_decide_eq_true AX
      have q164 : x5_1 < (l0.length : Int) := of_decide_eq_true AX
      obtain ⟨ad164, e164, hx164_0⟩ := Kd.at_int HR0.out x5_1 p164 q164
      cases e164
      replace p164 := eq_true p164
      replace q164 := eq_true q164
      go_wp2
      go_roundg k1
      case measure => have := HK1.out; omega
      case rel => exact ⟨(wrap64 (x5_1 + 1)), SX, H', ⟨by have := HK1.out; omega⟩, by repeat (first | exact Drawn0.refl _ | apply Drawn0.step)⟩
    ·rw [if_neg c4] at H
     exact absurd H (by simp)
   ·rw [if_neg c3] at H
    have c3b0 : decide (x5_1 < (l0.length : Int)) = false := decide_eq_false c3
    clear c3
    obtain rfl := Option.some.inj H
    go_wp2
    go_ret
    exact ⟨SX, by repeat (first | exact Drawn0.refl _ | apply Drawn0.step)⟩

/-! ### treemergeref32_put: function 33 -/
def treemergeref32_put.l0 : Nat → List Int → Int → List Int → Bool → Int → Option (List Int)
 | 0, _, _, _, _, _ => none
 | k + 1, x0, x1, x5, x6, x7 => if x7 < (x0.length : Int) then (if x6 = true then (if 0 ≤ x7 then (if x5.length < 17592186044416 then (treemergeref32_put.l0 k x0 x1 (x5 ++ [rd x0 x7]) x6 (wrap64 (x7 + 1))) else (none)) else (none)) else (if 0 ≤ x7 then (if (rd x0 x7) > x1 then (if x5.length < 17592186044416 then ((some (x5 ++ [x1] : List Int)).bind fun y170 => (if y170.length < 17592186044416 then (treemergeref32_put.l0 k x0 x1 (y170 ++ [rd x0 x7]) true (wrap64 (x7 + 1))) else (none))) else (none)) else (if x5.length < 17592186044416 then (treemergeref32_put.l0 k x0 x1 (x5 ++ [rd x0 x7]) x6 (wrap64 (x7 + 1))) else (none))) else (none))) else (if x6 = true then (some x5) else (if x5.length < 17592186044416 then (some (x5 ++ [x1])) else (none)))
def treemergeref32_put.f (k : Nat) (l0 : List Int) (a1 : Int) : Option (List Int) := treemergeref32_put.l0 k l0 a1 ([] : List Int) false 0
theorem treemergeref32_put.mono_l : ∀ k, (∀ y0 y1 y2 y3 y4, LeO (treemergeref32_put.l0 k y0 y1 y2 y3 y4) (treemergeref32_put.l0 (k + 1) y0 y1 y2 y3 y4))
 | 0 => fun _ _ _ _ _ r h => by simp [treemergeref32_put.l0] at h
 | k + 1 => by
  have ih0 := treemergeref32_put.mono_l k
  ·intro y0 y1 y2 y3 y4
   unfold treemergeref32_put.l0
   repeat' first
   | (with_reducible exact ih0 _ _ _ _ _)
   | (with_reducible exact LeO.refl _)
   | (with_reducible exact LeO.none _)
   | (with_reducible refine LeO.ite ?_ ?_)
   | (with_reducible refine LeO.bind ?_ (fun _ => ?_))
theorem treemergeref32_put.mono : ∀ a0 a1 k, LeO (treemergeref32_put.f k a0 a1) (treemergeref32_put.f (k + 1) a0 a1) := by
 intro a0 a1 k
 have ih0 := treemergeref32_put.mono_l k
 unfold treemergeref32_put.f
 repeat' first
   | (with_reducible exact ih0 _ _ _ _ _)
   | (with_reducible exact LeO.refl _)
   | (with_reducible exact LeO.none _)
   | (with_reducible refine LeO.ite ?_ ?_)
   | (with_reducible refine LeO.bind ?_ (fun _ => ?_))
set_option maxHeartbeats 8000000 in
set_option maxRecDepth 100000 in
theorem treemergeref32_put.calls (k : Nat) (A0 : Option Addr) (c0 : Nat) (l0 : List Int) (a1 : Int) (r : List Int) (w : World) (hr0 : Kd.C (Kd.int .i64) w A0 l0.length l0) (hc0 : l0.length ≤ c0) (h : treemergeref32_put.f k l0 a1 = some r) :
  Calls Try.prog 33 #[.slice A0 l0.length c0, .int .i64 a1] w fun e w' => ∃ v0_ : Value, e = .returned (v0_) ∧ Kd.R (Kd.int .i64) 3 w' w.heap.size (fun _ => True) v0_ r ∧ Below w.heap.size w w' := by
 have HR0 := Aside0.mk hr0
 have HC0 := Aside0.mk hc0
 clear hr0 hc0
 have HB := Aside0.mk (Below.refl w.heap.size w)
 have H : (treemergeref32_put.l0 k l0 a1 ([] : List Int) false 0) = some r := h
 clear h
 have H' := Aside0.mk H
 clear H
 go_enter Try.func33, Try.ntmps33
 go_wp2
 go_loopg [5, 6, 7] k (fun kq v5 v6 v7 w' => ∃ (x5_1 : List Int) (x6_1 : Bool) (x7_1 : Int), v6 = .bool x6_1 ∧ v7 = .int .i64 x7_1 ∧ Aside0 (treemergeref32_put.l0 kq l0 a1 x5_1 x6_1 x7_1 = some r) ∧ Aside0 (kq ≤ k) ∧ Aside0 (Kd.R (Kd.int .i64) 3 w' w.heap.size (fun _ => True) v5 x5_1) ∧ Aside0 (Below w.heap.size w w'))
 case atStart => exact ⟨(([] : List Int)), (false), (0), SX, SX, H', ⟨Nat.le_refl _⟩, ⟨NX⟩, ⟨BX HB.out⟩⟩
 case round =>
  clear H'
  try clear p2
  obtain ⟨x5_1, x6_1, x7_1, rfl, rfl, HA, HK1, HO_5, HB⟩ := hrel
  cases gk with
  | zero => exact absurd HA.out (by simp [treemergeref32_put.l0])
  | succ k1 =>
   have H := HA.out
   clear HA
   simp only [treemergeref32_put.l0] at H
   by_cases c3 : x7_1 < (l0.length : Int)
   ·rw [if_pos c3] at H
    have c3b0 : decide (x7_1 < (l0.length : Int)) = true := decide_eq_true c3
    clear c3
    by_cases c4 : x6_1 = true
    ·subst c4
     have H1 : (if 0 ≤ x7_1 then (if x5_1.length < 17592186044416 then (treemergeref32_put.l0 k1 l0 a1 (x5_1 ++ [rd l0 x7_1]) true (wrap64 (x7_1 + 1))) else (none)) else (none)) = some r := by rw [if_pos rfl] at H; exact H
     clear H
     have H := H1
     clear H1
     by_cases c5 : 0 ≤ x7_1
     ·rw [if_pos c5] at H
      have c5b0 : decide (0 ≤ x7_1) = true := decide_eq_true c5
      clear c5
      by_cases c6 : x5_1.length < 17592186044416
      ·rw [if_pos c6] at H
       have LMc6 := Aside0.mk c6
       clear c6
       obtain ⟨y166, hy166⟩ : ∃ y_ : List Int, y_ = (x5_1 ++ [rd l0 x7_1]) := ⟨_, rfl⟩
       replace H : (treemergeref32_put.l0 k1 l0 a1 y166 true (wrap64 (x7_1 + 1))) = some r := by first | (rw [hy166]; with_reducible exact H) | (have H2_ := (Option.bind_some _ _).symm.trans H; rw [hy166]; with_reducible exact H2_) | (have H2_ := (Option.bind_some _ _).symm.trans H; with_reducible exact H2_) | with_reducible exact H | (rw [hy166]; exact H) | exact H
       have Ny166 := Aside0.mk hy166
       clear hy166
       have H' := Aside0.mk H
       clear H
       have p165 : 0 ≤ (x7_1 : Int) := of_decide_eq_true AX
       have q165 : x7_1 < (l0.length : Int) := of_decide_eq_true AX
       obtain ⟨ad165, e165, hx165_0⟩ := Kd.at_int HR0.out x7_1 p165 q165
       cases e165
       replace hx165_0 := (HB.out.cell (World.block_lt_of_cell? w _ hx165_0)).trans hx165_0
       replace p165 := eq_true p165
       replace q165 := eq_true q165
       go_wp2_with (first | ((with_reducible refine gate_builtin (b := .append) (xs := #[.tmp 28, .tmp 33]) rfl ?_); at_builtin; refine Kd.R_append (Kd.int .i64) (w0 := w) w.heap.size rfl (.tmp 28) (.tmp 33) 22 3 (.int .i64 0) 8 rfl Try.underlying22 info3 rfl (by decide) (by omega) u5 x5_1 (rd l0 x7_1) [.int .i64 (rd l0 x7_1)] (fun _ => True) (fun _ => False) rfl rfl ?aP (fun _ hk => hk.elim) ?aF ?aO ?aB ?aS ?aL ?_; (case aP => exact rfl); (case aB => exact (BX HB.out)); (case aF => exact (fun _ _ => trivial)); (case aO => exact (RX HO_5.out)); (case aS => exact (below_size (BX HB.out))); (case aL => have := LMc6.out; omega); intro v167 w7 ho hb hg hat; rw [← Ny166.out] at ho; have n0_ := Aside0.mk (hb); have n1_ := Aside0.mk (ho); clear HB; clear HO_5; have HB := n0_; have HO168 := n1_; clear n0_ n1_; clear ho hb hg hat))
       go_roundg k1
       case measure => have := HK1.out; omega
       case rel => exact ⟨(y166), (true), (wrap64 (x7_1 + 1)), SX, SX, H', ⟨by have := HK1.out; omega⟩, ⟨RX HO168.out⟩, ⟨BX HB.out⟩⟩
      ·rw [if_neg c6] at H
       exact absurd H (by simp)
     ·rw [if_neg c5] at H
      exact absurd H (by simp)
    ·replace c4 := Bool.eq_false_iff.mpr c4
     subst c4
     have H1 : (if 0 ≤ x7_1 then (if (rd l0 x7_1) > a1 then (if x5_1.length < 17592186044416 then ((some (x5_1 ++ [a1] : List Int)).bind fun y170 => (if y170.length < 17592186044416 then (treemergeref32_put.l0 k1 l0 a1 (y170 ++ [rd l0 x7_1]) true (wrap64 (x7_1 + 1))) else (none))) else (none)) else (if x5_1.length < 17592186044416 then (treemergeref32_put.l0 k1 l0 a1 (x5_1 ++ [rd l0 x7_1]) false (wrap64 (x7_1 + 1))) else (none))) else (none)) = some r := by rw [if_neg (show ¬ (false = true) by decide)] at H; exact H
     clear H
     have H := H1
     clear H1
     by_cases c8 : 0 ≤ x7_1
     ·rw [if_pos c8] at H
      have c8b0 : decide (0 ≤ x7_1) = true := decide_eq_true c8
      clear c8
      by_cases c9 : (rd l0 x7_1) > a1
      ·rw [if_pos c9] at H
       have c9b0 : decide (a1 < (rd l0 x7_1)) = true := decide_eq_true c9
       clear c9
       by_cases c10 : x5_1.length < 17592186044416
       ·rw [if_pos c10] at H
        have LMc10 := Aside0.mk c10
        clear c10
        obtain ⟨y170, hy170⟩ : ∃ y_ : List Int, y_ = (x5_1 ++ [a1]) := ⟨_, rfl⟩
        replace H : (if y170.length < 17592186044416 then (treemergeref32_put.l0 k1 l0 a1 (y170 ++ [rd l0 x7_1]) true (wrap64 (x7_1 + 1))) else (none)) = some r := by first | (rw [hy170]; with_reducible exact H) | (have H2_ := (Option.bind_some _ _).symm.trans H; rw [hy170]; with_reducible exact H2_) | (have H2_ := (Option.bind_some _ _).symm.trans H; with_reducible exact H2_) | with_reducible exact H | (rw [hy170]; exact H) | exact H
        have Ny170 := Aside0.mk hy170
        clear hy170
        by_cases c11 : y170.length < 17592186044416
        ·rw [if_pos c11] at H
         have LMc11 := Aside0.mk c11
         clear c11
         obtain ⟨y174, hy174⟩ : ∃ y_ : List Int, y_ = (y170 ++ [rd l0 x7_1]) := ⟨_, rfl⟩
         replace H : (treemergeref32_put.l0 k1 l0 a1 y174 true (wrap64 (x7_1 + 1))) = some r := by first | (rw [hy174]; with_reducible exact H) | (have H2_ := (Option.bind_some _ _).symm.trans H; rw [hy174]; with_reducible exact H2_) | (have H2_ := (Option.bind_some _ _).symm.trans H; with_reducible exact H2_) | with_reducible exact H | (rw [hy174]; exact H) | exact H
         have Ny174 := Aside0.mk hy174
         clear hy174
         have H' := Aside0.mk H
         clear H
         have p169 : 0 ≤ (x7_1 : Int) := of_decide_eq_true AX
         have q169 : x7_1 < (l0.length : Int) := of_decide_eq_true AX
         obtain ⟨ad169, e169, hx169_0⟩ := Kd.at_int HR0.out x7_1 p169 q169
         cases e169
         replace hx169_0 := (HB.out.cell (World.block_lt_of_cell? w _ hx169_0)).trans hx169_0
         replace p169 := eq_true p169
         replace q169 := eq_true q169
         go_wp2_with (first | ((with_reducible refine gate_builtin (b := .append) (xs := #[.tmp 24, .tmp 26]) rfl ?_); at_builtin; refine Kd.R_append (Kd.int .i64) (w0 := w) w.heap.size rfl (.tmp 24) (.tmp 26) 22 3 (.int .i64 0) 8 rfl Try.underlying22 info3 rfl (by decide) (by omega) u5 x5_1 a1 [.int .i64 a1] (fun _ => True) (fun _ => False) rfl rfl ?aP (fun _ hk => hk.elim) ?aF ?aO ?aB ?aS ?aL ?_; (case aP => exact rfl); (case aB => exact (BX HB.out)); (case aF => exact (fun _ _ => trivial)); (case aO => exact (RX HO_5.out)); (case aS => exact (below_size (BX HB.out))); (case aL => have := LMc10.out; omega); intro v171 w12 ho hb hg hat; rw [← Ny170.out] at ho; have n0_ := Aside0.mk (hb); have n1_ := Aside0.mk (ho); clear HB; clear HO_5; have HB := n0_; have HO172 := n1_; clear n0_ n1_; clear ho hb hg hat; have p173 : 0 ≤ (x7_1 : Int) := of_decide_eq_true AX; have q173 : x7_1 < (l0.length : Int) := of_decide_eq_true AX; obtain ⟨ad173, e173, hx173_0⟩ := Kd.at_int HR0.out x7_1 p173 q173; obtain rfl : ad169 = ad173 := (by injection e173); replace hx173_0 := (HB.out.cell (World.block_lt_of_cell? w _ hx173_0)).trans hx173_0; replace p173 := eq_true p173; replace q173 := eq_true q173) | ((with_reducible refine gate_builtin (b := .append) (xs := #[.tmp 28, .tmp 33]) rfl ?_); at_builtin; refine Kd.R_append (Kd.int .i64) (w0 := w) w.heap.size rfl (.tmp 28) (.tmp 33) 22 3 (.int .i64 0) 8 rfl Try.underlying22 info3 rfl (by decide) (by omega) v171 y170 (rd l0 x7_1) [.int .i64 (rd l0 x7_1)] (fun _ => True) (fun _ => False) rfl rfl ?aP (fun _ hk => hk.elim) ?aF ?aO ?aB ?aS ?aL ?_; (case aP => exact rfl); (case aB => exact (BX HB.out)); (case aF => exact (fun _ _ => trivial)); (case aO => exact (RX HO172.out)); (case aS => exact (below_size (BX HB.out))); (case aL => have := LMc11.out; omega); intro v175 w13 ho hb hg hat; rw [← Ny174.out] at ho; have n0_ := Aside0.mk (hb); have n1_ := Aside0.mk (ho); clear HB; clear HO172; have HB := n0_; have HO176 := n1_; clear n0_ n1_; clear ho hb hg hat))
         go_roundg k1
         case measure => have := HK1.out; omega
         case rel => exact ⟨(y174), (true), (wrap64 (x7_1 + 1)), SX, SX, H', ⟨by have := HK1.out; omega⟩, ⟨RX HO176.out⟩, ⟨BX HB.out⟩⟩
        ·rw [if_neg c11] at H
         exact absurd H (by simp)
       ·rw [if_neg c10] at H
        exact absurd H (by simp)
      ·rw [if_neg c9] at H
       have c9b0 : decide (a1 < (rd l0 x7_1)) = false := decide_eq_false c9
       clear c9
       by_cases c14 : x5_1.length < 17592186044416
       ·rw [if_pos c14] at H
        have LMc14 := Aside0.mk c14
        clear c14
        obtain ⟨y178, hy178⟩ : ∃ y_ : List Int, y_ = (x5_1 ++ [rd l0 x7_1]) := ⟨_, rfl⟩
        replace H : (treemergeref32_put.l0 k1 l0 a1 y178 false (wrap64 (x7_1 + 1))) = some r := by first | (rw [hy178]; with_reducible exact H) | (have H2_ := (Option.bind_some _ _).symm.trans H; rw [hy178]; with_reducible exact H2_) | (have H2_ := (Option.bind_some _ _).symm.trans H; with_reducible exact H2_) | with_reducible exact H | (rw [hy178]; exact H) | exact H
        have Ny178 := Aside0.mk hy178
        clear hy178
        have H' := Aside0.mk H
        clear H
        have p169 : 0 ≤ (x7_1 : Int) := of_decide_eq_true AX
        have q169 : x7_1 < (l0.length : Int) := of_decide_eq_true AX
        obtain ⟨ad169, e169, hx169_0⟩ := Kd.at_int HR0.out x7_1 p169 q169
        cases e169
        replace hx169_0 := (HB.out.cell (World.block_lt_of_cell? w _ hx169_0)).trans hx169_0
        replace p169 := eq_true p169
        replace q169 := eq_true q169
        have p177 : 0 ≤ (x7_1 : Int) := of_decide_eq_true AX
        have q177 : x7_1 < (l0.length : Int) := of_decide_eq_true AX
        obtain ⟨ad177, e177, hx177_0⟩ := Kd.at_int HR0.out x7_1 p177 q177
        obtain rfl : ad169 = ad177 := (by injection e177)
        replace hx177_0 := (HB.out.cell (World.block_lt_of_cell? w _ hx177_0)).trans hx177_0
        replace p177 := eq_true p177
        replace q177 := eq_true q177
        go_wp2_with (first | ((with_reducible refine gate_builtin (b := .append) (xs := #[.tmp 28, .tmp 33]) rfl ?_); at_builtin; refine Kd.R_append (Kd.int .i64) (w0 := w) w.heap.size rfl (.tmp 28) (.tmp 33) 22 3 (.int .i64 0) 8 rfl Try.underlying22 info3 rfl (by decide) (by omega) u5 x5_1 (rd l0 x7_1) [.int .i64 (rd l0 x7_1)] (fun _ => True) (fun _ => False) rfl rfl ?aP (fun _ hk => hk.elim) ?aF ?aO ?aB ?aS ?aL ?_; (case aP => exact rfl); (case aB => exact (BX HB.out)); (case aF => exact (fun _ _ => trivial)); (case aO => exact (RX HO_5.out)); (case aS => exact (below_size (BX HB.out))); (case aL => have := LMc14.out; omega); intro v179 w15 ho hb hg hat; rw [← Ny178.out] at ho; have n0_ := Aside0.mk (hb); have n1_ := Aside0.mk (ho); clear HB; clear HO_5; have HB := n0_; have HO180 := n1_; clear n0_ n1_; clear ho hb hg hat))
        go_roundg k1
        case measure => have := HK1.out; omega
        case rel => exact ⟨(y178), (false), (wrap64 (x7_1 + 1)), SX, SX, H', ⟨by have := HK1.out; omega⟩, ⟨RX HO180.out⟩, ⟨BX HB.out⟩⟩
       ·rw [if_neg c14] at H
        exact absurd H (by simp)
     ·rw [if_neg c8] at H
      exact absurd H (by simp)
   ·rw [if_neg c3] at H
    have c3b0 : decide (x7_1 < (l0.length : Int)) = false := decide_eq_false c3
    clear c3
    by_cases c16 : x6_1 = true
    ·subst c16
     have H1 : (some x5_1) = some r := by rw [if_pos rfl] at H; exact H
     clear H
     have H := H1
     clear H1
     obtain rfl := Option.some.inj H
     go_wp2
     go_ret
     exact ⟨_, by first | rfl | (simp [errW_none, errW_some] <;> rfl) | (simp [*, errW_none, errW_some] <;> rfl), by (with_reducible repeat (first | apply Kd.R_alloc | apply Kd.R_drewN | apply Kd.R_drew)); exact HO_5.out, BX HB.out⟩
    ·replace c16 := Bool.eq_false_iff.mpr c16
     subst c16
     have H1 : (if x5_1.length < 17592186044416 then (some (x5_1 ++ [a1])) else (none)) = some r := by rw [if_neg (show ¬ (false = true) by decide)] at H; exact H
     clear H
     have H := H1
     clear H1
     by_cases c17 : x5_1.length < 17592186044416
     ·rw [if_pos c17] at H
      have LMc17 := Aside0.mk c17
      clear c17
      obtain ⟨y181, hy181⟩ : ∃ y_ : List Int, y_ = (x5_1 ++ [a1]) := ⟨_, rfl⟩
      replace H : (some y181) = some r := by first | (rw [hy181]; with_reducible exact H) | (have H2_ := (Option.bind_some _ _).symm.trans H; rw [hy181]; with_reducible exact H2_) | (have H2_ := (Option.bind_some _ _).symm.trans H; with_reducible exact H2_) | with_reducible exact H | (rw [hy181]; exact H) | exact H
      have Ny181 := Aside0.mk hy181
      clear hy181
      obtain rfl := Option.some.inj H
      go_wp2_with (first | ((with_reducible refine gate_builtin (b := .append) (xs := #[.tmp 37, .tmp 39]) rfl ?_); at_builtin; refine Kd.R_append (Kd.int .i64) (w0 := w) w.heap.size rfl (.tmp 37) (.tmp 39) 22 3 (.int .i64 0) 8 rfl Try.underlying22 info3 rfl (by decide) (by omega) u5 x5_1 a1 [.int .i64 a1] (fun _ => True) (fun _ => False) rfl rfl ?aP (fun _ hk => hk.elim) ?aF ?aO ?aB ?aS ?aL ?_; (case aP => exact rfl); (case aB => exact (BX HB.out)); (case aF => exact (fun _ _ => trivial)); (case aO => exact (RX HO_5.out)); (case aS => exact (below_size (BX HB.out))); (case aL => have := LMc17.out; omega); intro v182 w18 ho hb hg hat; rw [← Ny181.out] at ho; have n0_ := Aside0.mk (hb); have n1_ := Aside0.mk (ho); clear HB; clear HO_5; have HB := n0_; have HO183 := n1_; clear n0_ n1_; clear ho hb hg hat))
      go_ret
      exact ⟨_, by first | rfl | (simp [errW_none, errW_some] <;> rfl) | (simp [*, errW_none, errW_some] <;> rfl), by (with_reducible repeat (first | apply Kd.R_alloc | apply Kd.R_drewN | apply Kd.R_drew)); exact HO183.out, BX HB.out⟩
     ·rw [if_neg c17] at H
      exact absurd H (by simp)

end Go.Proofs.Ytdbgdkbpamekpaa.Q
