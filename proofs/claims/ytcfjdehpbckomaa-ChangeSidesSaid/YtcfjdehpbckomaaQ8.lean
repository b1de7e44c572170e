-- Written by a program of this session (mk.py) out of the translation; Lean checks it.
import Derived.Test.YtcfjdehpbckomaaQ0
import Derived.Test.YtcfjdehpbckomaaQ7
namespace Go.Proofs.Ytcfjdehpbckomaa.Q
open Go.RowKit Go.Proofs.YtcfjdehpbckomaaW.PrintWords Go.Proofs.YtcfjdehpbckomaaW.PrintLast Go.Proofs.YtcfjdehpbckomaaW.PrintMore
attribute [local go_sem] max2_int min2_int max_two min_two max_three min_three max_four min_four   -- for this text's walks alone
set_option linter.unusedVariables false
set_option linter.unusedSimpArgs false

/-! ### treemergeref06_weigh: function 62 -/
mutual
def treemergeref06_weigh.j0 : Nat → Int → Bool → Int → ByteArray → List ByteArray → List (S25) → Option (Int)
  | 0, _, _, _, _, _, _ => none
  | k + 1, x1, x19, x260000, x260001, x260002, x260003 => if x19 = true then (some (-1)) else (treemergeref06_weigh.l0 k (wrap64 (x1 - (x260001.size : Int))) 0 x260000 x260001 x260002 x260003)
def treemergeref06_weigh.l0 : Nat → Int → Int → Int → ByteArray → List ByteArray → List (S25) → Option (Int)
  | 0, _, _, _, _, _, _ => none
  | k + 1, x5, x6, x260000, x260001, x260002, x260003 => if x6 < (x260002.length : Int) then (if 0 ≤ x6 then (if ((rdOf ByteArray.empty x260002 x6).size : Int) ≥ x5 then (some (-1)) else (treemergeref06_weigh.l0 k (wrap64 ((wrap64 (x5 - ((rdOf ByteArray.empty x260002 x6).size : Int))) - 1)) (wrap64 (x6 + 1)) x260000 x260001 x260002 x260003)) else (none)) else (treemergeref06_weigh.l1 k x5 0 x260000 x260001 x260002 x260003)
def treemergeref06_weigh.l1 : Nat → Int → Int → Int → ByteArray → List ByteArray → List (S25) → Option (Int)
  | 0, _, _, _, _, _, _ => none
  | k + 1, x5, x7, x260000, x260001, x260002, x260003 => if x7 < (x260003.length : Int) then (if 0 ≤ x7 then ((treemergeref06_weigh.f k ((rd_T25 x260003 x7).f0) ((rd_T25 x260003 x7).f1) ((rd_T25 x260003 x7).f2) ((rd_T25 x260003 x7).f3) x5).bind fun t263 => (if t263 < 0 then (some (-1)) else (treemergeref06_weigh.l1 k t263 (wrap64 (x7 + 1)) x260000 x260001 x260002 x260003))) else (none)) else (some x5)
def treemergeref06_weigh.f : Nat → Int → ByteArray → List ByteArray → List (S25) → Int → Option (Int)
  | 0, _, _, _, _, _ => none
  | k + 1, a0_0, a0_1, l0_2, l0_3, a1 => if (a0_1.size : Int) > a1 then (treemergeref06_weigh.j0 k a1 true a0_0 a0_1 l0_2 l0_3) else (treemergeref06_weigh.j0 k a1 (decide ((l0_2.length : Int) > a1)) a0_0 a0_1 l0_2 l0_3)
end
theorem treemergeref06_weigh.mono_l : ∀ k, (∀ y0 y1 y2 y3 y4, LeO (treemergeref06_weigh.f k y0 y1 y2 y3 y4) (treemergeref06_weigh.f (k + 1) y0 y1 y2 y3 y4)) ∧ (∀ y0 y1 y2 y3 y4 y5, LeO (treemergeref06_weigh.j0 k y0 y1 y2 y3 y4 y5) (treemergeref06_weigh.j0 (k + 1) y0 y1 y2 y3 y4 y5)) ∧ (∀ y0 y1 y2 y3 y4 y5, LeO (treemergeref06_weigh.l0 k y0 y1 y2 y3 y4 y5) (treemergeref06_weigh.l0 (k + 1) y0 y1 y2 y3 y4 y5)) ∧ (∀ y0 y1 y2 y3 y4 y5, LeO (treemergeref06_weigh.l1 k y0 y1 y2 y3 y4 y5) (treemergeref06_weigh.l1 (k + 1) y0 y1 y2 y3 y4 y5))
  | 0 => ⟨fun _ _ _ _ _ r h => by simp [treemergeref06_weigh.f] at h, fun _ _ _ _ _ _ r h => by simp [treemergeref06_weigh.j0] at h, fun _ _ _ _ _ _ r h => by simp [treemergeref06_weigh.l0] at h, fun _ _ _ _ _ _ r h => by simp [treemergeref06_weigh.l1] at h⟩
  | k + 1 => by
    obtain ⟨ih0, ih1, ih2, ih3⟩ := treemergeref06_weigh.mono_l k
    refine ⟨?_, ?_, ?_, ?_⟩
    · intro y0 y1 y2 y3 y4
      unfold treemergeref06_weigh.f
      repeat' first
      | (with_reducible exact ih0 _ _ _ _ _)
      | (with_reducible exact ih1 _ _ _ _ _ _)
      | (with_reducible exact ih2 _ _ _ _ _ _)
      | (with_reducible exact ih3 _ _ _ _ _ _)
      | (with_reducible exact LeO.refl _)
      | (with_reducible exact LeO.none _)
      | (with_reducible refine LeO.ite ?_ ?_)
      | (with_reducible refine LeO.bind ?_ (fun _ => ?_))
      | exact ih0 _ _ _ _ _
      | exact ih1 _ _ _ _ _ _
      | exact ih2 _ _ _ _ _ _
      | exact ih3 _ _ _ _ _ _
      | exact LeO.none _
      | refine LeO.ite ?_ ?_
      | refine LeO.bind ?_ (fun _ => ?_)
    · intro y0 y1 y2 y3 y4 y5
      unfold treemergeref06_weigh.j0
      repeat' first
      | (with_reducible exact ih0 _ _ _ _ _)
      | (with_reducible exact ih1 _ _ _ _ _ _)
      | (with_reducible exact ih2 _ _ _ _ _ _)
      | (with_reducible exact ih3 _ _ _ _ _ _)
      | (with_reducible exact LeO.refl _)
      | (with_reducible exact LeO.none _)
      | (with_reducible refine LeO.ite ?_ ?_)
      | (with_reducible refine LeO.bind ?_ (fun _ => ?_))
      | exact ih0 _ _ _ _ _
      | exact ih1 _ _ _ _ _ _
      | exact ih2 _ _ _ _ _ _
      | exact ih3 _ _ _ _ _ _
      | exact LeO.none _
      | refine LeO.ite ?_ ?_
      | refine LeO.bind ?_ (fun _ => ?_)
    · intro y0 y1 y2 y3 y4 y5
      unfold treemergeref06_weigh.l0
      repeat' first
      | (with_reducible exact ih0 _ _ _ _ _)
      | (with_reducible exact ih1 _ _ _ _ _ _)
      | (with_reducible exact ih2 _ _ _ _ _ _)
      | (with_reducible exact ih3 _ _ _ _ _ _)
      | (with_reducible exact LeO.refl _)
      | (with_reducible exact LeO.none _)
      | (with_reducible refine LeO.ite ?_ ?_)
      | (with_reducible refine LeO.bind ?_ (fun _ => ?_))
      | exact ih0 _ _ _ _ _
      | exact ih1 _ _ _ _ _ _
      | exact ih2 _ _ _ _ _ _
      | exact ih3 _ _ _ _ _ _
      | exact LeO.none _
      | refine LeO.ite ?_ ?_
      | refine LeO.bind ?_ (fun _ => ?_)
    · intro y0 y1 y2 y3 y4 y5
      unfold treemergeref06_weigh.l1
      repeat' first
      | (with_reducible exact ih0 _ _ _ _ _)
      | (with_reducible exact ih1 _ _ _ _ _ _)
      | (with_reducible exact ih2 _ _ _ _ _ _)
      | (with_reducible exact ih3 _ _ _ _ _ _)
      | (with_reducible exact LeO.refl _)
      | (with_reducible exact LeO.none _)
      | (with_reducible refine LeO.ite ?_ ?_)
      | (with_reducible refine LeO.bind ?_ (fun _ => ?_))
      | exact ih0 _ _ _ _ _
      | exact ih1 _ _ _ _ _ _
      | exact ih2 _ _ _ _ _ _
      | exact ih3 _ _ _ _ _ _
      | exact LeO.none _
      | refine LeO.ite ?_ ?_
      | refine LeO.bind ?_ (fun _ => ?_)
theorem treemergeref06_weigh.mono : ∀ a0 a1 a2 a3 a4 k, LeO (treemergeref06_weigh.f k a0 a1 a2 a3 a4) (treemergeref06_weigh.f (k + 1) a0 a1 a2 a3 a4) := by
  intro a0 a1 a2 a3 a4 k
  obtain ⟨ih0, ih1, ih2, ih3⟩ := treemergeref06_weigh.mono_l k
  exact ih0 a0 a1 a2 a3 a4
set_option maxHeartbeats 8000000 in
set_option maxRecDepth 100000 in
theorem treemergeref06_weigh.calls (k : Nat) : ∀ (a0_0 : Int) (a0_1 : ByteArray) (A0_2 : Option Addr) (c0_2 : Nat) (l0_2 : List ByteArray) (A0_3 : Option Addr) (c0_3 : Nat) (l0_3 : List (S25)) (a1 : Int) (r : Int) (w : World) (hr0_2 : Kd.C Kd.string w A0_2 l0_2.length l0_2) (hc0_2 : l0_2.length ≤ c0_2) (hr0_3 : Kd.C k25 w A0_3 l0_3.length l0_3) (hc0_3 : l0_3.length ≤ c0_3) (h : treemergeref06_weigh.f k a0_0 a0_1 l0_2 l0_3 a1 = some r),
    Calls Try.prog 62 #[.agg #[.int .i64 a0_0, .string a0_1, .slice A0_2 l0_2.length c0_2, .slice A0_3 l0_3.length c0_3], .int .i64 a1] w fun e w' => e = .returned (.int .i64 r) ∧ Below w.heap.size w w' := by
  induction k using Nat.strongRecOn with
  | _ k ih =>
  intro a0_0 a0_1 A0_2 c0_2 l0_2 A0_3 c0_3 l0_3 a1 r w hr0_2 hc0_2 hr0_3 hc0_3 h
  cases k with
  | zero => exact absurd h (by simp [treemergeref06_weigh.f])
  | succ k =>
  simp only [treemergeref06_weigh.f] at h
  have hu25 := Try.underlying25
  have HR0_2 := Aside0.mk hr0_2
  have HC0_2 := Aside0.mk hc0_2
  clear hr0_2 hc0_2
  have HR0_3 := Aside0.mk hr0_3
  have HC0_3 := Aside0.mk hc0_3
  clear hr0_3 hc0_3
  have HB := Aside0.mk (Below.refl w.heap.size w)
  have H : (if (a0_1.size : Int) > a1 then (treemergeref06_weigh.j0 k a1 true a0_0 a0_1 l0_2 l0_3) else (treemergeref06_weigh.j0 k a1 (decide ((l0_2.length : Int) > a1)) a0_0 a0_1 l0_2 l0_3)) = some r := h
  clear h
  have HC3 := Aside0.mk H
  clear H
  go_enter Try.func62, Try.ntmps62
  go_upto_region 1 with (first | ((with_reducible refine gate_dst (N := 2) rfl ?_); (try (refine gate_guard (by rfl) ?_; dsimp only)); refine box_event ?hg (N := 2) ?hd (cs := #[.int .i64 a0_0, .string a0_1, .slice A0_2 l0_2.length c0_2, .slice A0_3 l0_3.length c0_3]) (t := 25) ?hr ?_; (case hd => rfl); (case hg => rfl); (case hr => first | (go_simp; done) | (go_simp; rfl) | (obtain ⟨_, _, rfl⟩ := Kd.R_slice (Aside0.out (by assumption : Aside0 (Kd.R _ _ _ _ _ _ _))); go_simp; done)); intro gb259 hg w4 hbox hb; have n0_ := Aside0.mk (below_step (by repeat (first | (with_reducible first | exact HB.out | apply below_alloc | apply pw_below_drewN | apply below_drew1) | exact HB.out)) hb); have n1_ := Aside0.mk (hbox); have n2_ := Aside0.mk ((by rw [hg]; exact (below_size (by repeat (first | (with_reducible first | exact HB.out | apply below_alloc | apply pw_below_drewN | apply below_drew1) | exact HB.out))) : w.heap.size ≤ gb259)); have n3_ := Aside0.mk ((by rw [hg]; exact (below_size (by repeat (first | (with_reducible first | exact HB.out | apply below_alloc | apply pw_below_drewN | apply below_drew1) | exact HB.out))) : w.heap.size ≤ gb259)); clear HB; have HB := n0_; have BK259 := n1_; have GW259 := n2_; have GE259 := n3_; clear n0_ n1_ n2_ n3_; clear hb hbox hg))
  (try simp only [Act.put, List.setIfInBounds_toArray, List.set_cons_zero, List.set_cons_succ])
  go_cut [19] (fun v19 wc => ∃ (kq : Nat) (x19_2 : Bool), v19 = .bool x19_2 ∧ Aside0 (treemergeref06_weigh.j0 kq a1 x19_2 a0_0 a0_1 l0_2 l0_3 = some r) ∧ Aside0 (kq ≤ k) ∧ Aside0 (wc.heap[gb259]? = some (.cells #[.int .i64 a0_0, .string a0_1, (.slice A0_2 l0_2.length c0_2), (.slice A0_3 l0_3.length c0_3)] 25 (0, 0))) ∧ Aside0 (Below w.heap.size w wc))
  case first =>
    have H := HC3.out
    clear HC3
    by_cases c5 : (a0_1.size : Int) > a1
    · rw [if_pos c5] at H
      have c5b0 : decide (a1 < (a0_1.size : Int)) = true := decide_eq_true c5
      clear c5
      (first | rw [c5b0] | (simp only [i64_w, i32_w]; rw [c5b0]) | skip)
      have H' := Aside0.mk H
      clear H
      have hcz6_0 : w4.cell? ⟨gb259, 0, none⟩ = some (.int .i64 a0_0) := (blk_cell BK259.out 0).trans rfl
      have hcz6_1 : w4.cell? ⟨gb259, 1, none⟩ = some (.string a0_1) := (blk_cell BK259.out 1).trans rfl
      have hcz6_2 : w4.cell? ⟨gb259, 2, none⟩ = some (.slice A0_2 l0_2.length c0_2) := (blk_cell BK259.out 2).trans rfl
      have hcz6_3 : w4.cell? ⟨gb259, 3, none⟩ = some (.slice A0_3 l0_3.length c0_3) := (blk_cell BK259.out 3).trans rfl
      have hfz6_0 := blk_frozen BK259.out 0
      have hfz6_1 := blk_frozen BK259.out 1
      have hfz6_2 := blk_frozen BK259.out 2
      have hfz6_3 := blk_frozen BK259.out 3
      go_wp2
      go_meet
      case rel => exact ⟨_, (true), (by first | rfl | (simp; done) | (simp [*]; done)), H', ⟨by first | omega | exact Nat.le_refl _⟩, ⟨by (with_reducible repeat (first | refine blk_drewN ?_ _ | refine blk_drew ?_ | refine blk_alloc ?_ _)); exact BK259.out⟩, ⟨by repeat (first | (with_reducible first | exact HB.out | apply below_alloc | apply pw_below_drewN | apply below_drew1 | refine below_set ?_ GE259.out) | exact HB.out)⟩⟩
    · rw [if_neg c5] at H
      have c5b0 : decide (a1 < (a0_1.size : Int)) = false := decide_eq_false c5
      clear c5
      (first | rw [c5b0] | (simp only [i64_w, i32_w]; rw [c5b0]) | skip)
      have H' := Aside0.mk H
      clear H
      have hcz7_0 : w4.cell? ⟨gb259, 0, none⟩ = some (.int .i64 a0_0) := (blk_cell BK259.out 0).trans rfl
      have hcz7_1 : w4.cell? ⟨gb259, 1, none⟩ = some (.string a0_1) := (blk_cell BK259.out 1).trans rfl
      have hcz7_2 : w4.cell? ⟨gb259, 2, none⟩ = some (.slice A0_2 l0_2.length c0_2) := (blk_cell BK259.out 2).trans rfl
      have hcz7_3 : w4.cell? ⟨gb259, 3, none⟩ = some (.slice A0_3 l0_3.length c0_3) := (blk_cell BK259.out 3).trans rfl
      have hfz7_0 := blk_frozen BK259.out 0
      have hfz7_1 := blk_frozen BK259.out 1
      have hfz7_2 := blk_frozen BK259.out 2
      have hfz7_3 := blk_frozen BK259.out 3
      go_wp2
      go_meet
      case rel => exact ⟨_, (decide ((l0_2.length : Int) > a1)), (by first | rfl | (simp; done) | (simp [*]; done)), H', ⟨by first | omega | exact Nat.le_refl _⟩, ⟨by (with_reducible repeat (first | refine blk_drewN ?_ _ | refine blk_drew ?_ | refine blk_alloc ?_ _)); exact BK259.out⟩, ⟨by repeat (first | (with_reducible first | exact HB.out | apply below_alloc | apply pw_below_drewN | apply below_drew1 | refine below_set ?_ GE259.out) | exact HB.out)⟩⟩
  case rest =>
    clear HC3
    try clear p2
    try clear c5
    try clear c5b0
    try clear c6
    try clear hcz6_0
    try clear hcz6_1
    try clear hcz6_2
    try clear hcz6_3
    try clear hcz7_0
    try clear hcz7_1
    try clear hcz7_2
    try clear hcz7_3
    try clear hfz6_0
    try clear hfz6_1
    try clear hfz6_2
    try clear hfz6_3
    try clear hfz7_0
    try clear hfz7_1
    try clear hfz7_2
    try clear hfz7_3
    obtain ⟨kq, x19_2, rfl, HA, HJ2, BK259, HB⟩ := hcut
    cases kq with
    | zero => exact absurd HA.out (by simp [treemergeref06_weigh.j0])
    | succ kj2 =>
      have H := HA.out
      clear HA
      simp only [treemergeref06_weigh.j0] at H
      by_cases c8 : x19_2 = true
      · subst c8
        have H1 : (some (-1)) = some r := by rw [if_pos rfl] at H; exact H
        clear H
        have H := H1
        clear H1
        obtain rfl := Option.some.inj H
        go_wp2
        go_ret
        exact ⟨by first | rfl | (simp [errW_none, errW_some] <;> rfl) | (simp [*, errW_none, errW_some] <;> rfl), by repeat (first | (with_reducible first | exact HB.out | apply below_alloc | apply pw_below_drewN | apply below_drew1 | refine below_set ?_ GE259.out) | exact HB.out)⟩
      · replace c8 := Bool.eq_false_iff.mpr c8
        subst c8
        have H1 : (treemergeref06_weigh.l0 kj2 (wrap64 (a1 - (a0_1.size : Int))) 0 a0_0 a0_1 l0_2 l0_3) = some r := by rw [if_neg (show ¬ (false = true) by decide)] at H; exact H
        clear H
        have H := H1
        clear H1
        have H' := Aside0.mk H
        clear H
        have hcz9_0 : wc.cell? ⟨gb259, 0, none⟩ = some (.int .i64 a0_0) := (blk_cell BK259.out 0).trans rfl
        have hcz9_1 : wc.cell? ⟨gb259, 1, none⟩ = some (.string a0_1) := (blk_cell BK259.out 1).trans rfl
        have hcz9_2 : wc.cell? ⟨gb259, 2, none⟩ = some (.slice A0_2 l0_2.length c0_2) := (blk_cell BK259.out 2).trans rfl
        have hcz9_3 : wc.cell? ⟨gb259, 3, none⟩ = some (.slice A0_3 l0_3.length c0_3) := (blk_cell BK259.out 3).trans rfl
        have hfz9_0 := blk_frozen BK259.out 0
        have hfz9_1 := blk_frozen BK259.out 1
        have hfz9_2 := blk_frozen BK259.out 2
        have hfz9_3 := blk_frozen BK259.out 3
        go_wp2
        go_loopg [5, 6] kj2 (fun kq v5 v6 w' => ∃ (x5_2 : Int) (x6_2 : Int), v5 = .int .i64 x5_2 ∧ v6 = .int .i64 x6_2 ∧ Aside0 (treemergeref06_weigh.l0 kq x5_2 x6_2 a0_0 a0_1 l0_2 l0_3 = some r) ∧ Aside0 (kq ≤ kj2) ∧ Aside0 (w'.heap[gb259]? = some (.cells #[.int .i64 a0_0, .string a0_1, (.slice A0_2 l0_2.length c0_2), (.slice A0_3 l0_3.length c0_3)] 25 (0, 0))) ∧ Aside0 (Below w.heap.size w w'))
        case atStart => exact ⟨(wrap64 (a1 - (a0_1.size : Int))), (0), (by first | rfl | (simp; done) | (simp [*]; done)), (by first | rfl | (simp; done) | (simp [*]; done)), H', ⟨Nat.le_refl _⟩, ⟨by (with_reducible repeat (first | refine blk_drewN ?_ _ | refine blk_drew ?_ | refine blk_alloc ?_ _)); exact BK259.out⟩, ⟨by repeat (first | (with_reducible first | exact HB.out | apply below_alloc | apply pw_below_drewN | apply below_drew1 | refine below_set ?_ GE259.out) | exact HB.out)⟩⟩
        case round =>
          clear H'
          try clear p2
          try clear c5
          try clear c5b0
          try clear c6
          try clear p6
          try clear c8
          try clear hcz6_0
          try clear hcz6_1
          try clear hcz6_2
          try clear hcz6_3
          try clear hcz7_0
          try clear hcz7_1
          try clear hcz7_2
          try clear hcz7_3
          try clear hcz9_0
          try clear hcz9_1
          try clear hcz9_2
          try clear hcz9_3
          try clear hfz6_0
          try clear hfz6_1
          try clear hfz6_2
          try clear hfz6_3
          try clear hfz7_0
          try clear hfz7_1
          try clear hfz7_2
          try clear hfz7_3
          try clear hfz9_0
          try clear hfz9_1
          try clear hfz9_2
          try clear hfz9_3
          try clear p2
          obtain ⟨x5_2, x6_2, rfl, rfl, HA, HK2, BK259, HB⟩ := hrel
          cases gk with
          | zero => exact absurd HA.out (by simp [treemergeref06_weigh.l0])
          | succ k2 =>
            have H := HA.out
            clear HA
            simp only [treemergeref06_weigh.l0] at H
            by_cases c10 : x6_2 < (l0_2.length : Int)
            · rw [if_pos c10] at H
              have c10b0 : decide (x6_2 < (l0_2.length : Int)) = true := decide_eq_true c10
              clear c10
              by_cases c11 : 0 ≤ x6_2
              · rw [if_pos c11] at H
                have c11b0 : decide (0 ≤ x6_2) = true := decide_eq_true c11
                clear c11
                by_cases c12 : ((rdOf ByteArray.empty l0_2 x6_2).size : Int) ≥ x5_2
                · rw [if_pos c12] at H
                  have c12b0 : decide (x5_2 ≤ ((rdOf ByteArray.empty l0_2 x6_2).size : Int)) = true := decide_eq_true c12
                  clear c12
                  obtain rfl := Option.some.inj H
                  have hcz13_0 : wr.cell? ⟨gb259, 0, none⟩ = some (.int .i64 a0_0) := (blk_cell BK259.out 0).trans rfl
                  have hcz13_1 : wr.cell? ⟨gb259, 1, none⟩ = some (.string a0_1) := (blk_cell BK259.out 1).trans rfl
                  have hcz13_2 : wr.cell? ⟨gb259, 2, none⟩ = some (.slice A0_2 l0_2.length c0_2) := (blk_cell BK259.out 2).trans rfl
                  have hcz13_3 : wr.cell? ⟨gb259, 3, none⟩ = some (.slice A0_3 l0_3.length c0_3) := (blk_cell BK259.out 3).trans rfl
                  have hfz13_0 := blk_frozen BK259.out 0
                  have hfz13_1 := blk_frozen BK259.out 1
                  have hfz13_2 := blk_frozen BK259.out 2
                  have hfz13_3 := blk_frozen BK259.out 3
                  have p260 : 0 ≤ (x6_2 : Int) := of_decide_eq_true (by first | (with_reducible assumption) | assumption)
                  have q260 : x6_2 < (l0_2.length : Int) := of_decide_eq_true (by first | (with_reducible assumption) | assumption)
                  obtain ⟨ad260, e260, hx260_0⟩ := Kd.at_string HR0_2.out x6_2 p260 q260
                  cases e260
                  replace hx260_0 := (HB.out.cell (World.block_lt_of_cell? w _ hx260_0)).trans hx260_0
                  replace p260 := eq_true p260
                  replace q260 := eq_true q260
                  go_wp2
                  go_ret
                  exact ⟨by first | rfl | (simp [errW_none, errW_some] <;> rfl) | (simp [*, errW_none, errW_some] <;> rfl), by repeat (first | (with_reducible first | exact HB.out | apply below_alloc | apply pw_below_drewN | apply below_drew1 | refine below_set ?_ GE259.out) | exact HB.out)⟩
                · rw [if_neg c12] at H
                  have c12b0 : decide (x5_2 ≤ ((rdOf ByteArray.empty l0_2 x6_2).size : Int)) = false := decide_eq_false c12
                  clear c12
                  have H' := Aside0.mk H
                  clear H
                  have hcz14_0 : wr.cell? ⟨gb259, 0, none⟩ = some (.int .i64 a0_0) := (blk_cell BK259.out 0).trans rfl
                  have hcz14_1 : wr.cell? ⟨gb259, 1, none⟩ = some (.string a0_1) := (blk_cell BK259.out 1).trans rfl
                  have hcz14_2 : wr.cell? ⟨gb259, 2, none⟩ = some (.slice A0_2 l0_2.length c0_2) := (blk_cell BK259.out 2).trans rfl
                  have hcz14_3 : wr.cell? ⟨gb259, 3, none⟩ = some (.slice A0_3 l0_3.length c0_3) := (blk_cell BK259.out 3).trans rfl
                  have hfz14_0 := blk_frozen BK259.out 0
                  have hfz14_1 := blk_frozen BK259.out 1
                  have hfz14_2 := blk_frozen BK259.out 2
                  have hfz14_3 := blk_frozen BK259.out 3
                  have p260 : 0 ≤ (x6_2 : Int) := of_decide_eq_true (by first | (with_reducible assumption) | assumption)
                  have q260 : x6_2 < (l0_2.length : Int) := of_decide_eq_true (by first | (with_reducible assumption) | assumption)
                  obtain ⟨ad260, e260, hx260_0⟩ := Kd.at_string HR0_2.out x6_2 p260 q260
                  cases e260
                  replace hx260_0 := (HB.out.cell (World.block_lt_of_cell? w _ hx260_0)).trans hx260_0
                  replace p260 := eq_true p260
                  replace q260 := eq_true q260
                  have p261 : 0 ≤ (x6_2 : Int) := of_decide_eq_true (by first | (with_reducible assumption) | assumption)
                  have q261 : x6_2 < (l0_2.length : Int) := of_decide_eq_true (by first | (with_reducible assumption) | assumption)
                  obtain ⟨ad261, e261, hx261_0⟩ := Kd.at_string HR0_2.out x6_2 p261 q261
                  obtain rfl : ad260 = ad261 := (by injection e261)
                  replace hx261_0 := (HB.out.cell (World.block_lt_of_cell? w _ hx261_0)).trans hx261_0
                  replace p261 := eq_true p261
                  replace q261 := eq_true q261
                  go_wp2
                  go_roundg k2
                  case measure => have := HJ2.out; have := HK2.out; omega
                  case rel => exact ⟨(wrap64 ((wrap64 (x5_2 - ((rdOf ByteArray.empty l0_2 x6_2).size : Int))) - 1)), (wrap64 (x6_2 + 1)), (by first | rfl | (simp; done) | (simp [*]; done)), (by first | rfl | (simp; done) | (simp [*]; done)), H', ⟨by have := HJ2.out; have := HK2.out; omega⟩, ⟨by (with_reducible repeat (first | refine blk_drewN ?_ _ | refine blk_drew ?_ | refine blk_alloc ?_ _)); exact BK259.out⟩, ⟨by repeat (first | (with_reducible first | exact HB.out | apply below_alloc | apply pw_below_drewN | apply below_drew1 | refine below_set ?_ GE259.out) | exact HB.out)⟩⟩
              · rw [if_neg c11] at H
                exact absurd H (by simp)
            · rw [if_neg c10] at H
              have c10b0 : decide (x6_2 < (l0_2.length : Int)) = false := decide_eq_false c10
              clear c10
              have H' := Aside0.mk H
              clear H
              have hcz15_0 : wr.cell? ⟨gb259, 0, none⟩ = some (.int .i64 a0_0) := (blk_cell BK259.out 0).trans rfl
              have hcz15_1 : wr.cell? ⟨gb259, 1, none⟩ = some (.string a0_1) := (blk_cell BK259.out 1).trans rfl
              have hcz15_2 : wr.cell? ⟨gb259, 2, none⟩ = some (.slice A0_2 l0_2.length c0_2) := (blk_cell BK259.out 2).trans rfl
              have hcz15_3 : wr.cell? ⟨gb259, 3, none⟩ = some (.slice A0_3 l0_3.length c0_3) := (blk_cell BK259.out 3).trans rfl
              have hfz15_0 := blk_frozen BK259.out 0
              have hfz15_1 := blk_frozen BK259.out 1
              have hfz15_2 := blk_frozen BK259.out 2
              have hfz15_3 := blk_frozen BK259.out 3
              go_wp2
              go_loopg [5, 7] k2 (fun kq v5 v7 w' => ∃ (x5_3 : Int) (x7_3 : Int), v5 = .int .i64 x5_3 ∧ v7 = .int .i64 x7_3 ∧ Aside0 (treemergeref06_weigh.l1 kq x5_3 x7_3 a0_0 a0_1 l0_2 l0_3 = some r) ∧ Aside0 (kq ≤ k2) ∧ Aside0 (w'.heap[gb259]? = some (.cells #[.int .i64 a0_0, .string a0_1, (.slice A0_2 l0_2.length c0_2), (.slice A0_3 l0_3.length c0_3)] 25 (0, 0))) ∧ Aside0 (Below w.heap.size w w'))
              case atStart => exact ⟨(x5_2), (0), (by first | rfl | (simp; done) | (simp [*]; done)), (by first | rfl | (simp; done) | (simp [*]; done)), H', ⟨Nat.le_refl _⟩, ⟨by (with_reducible repeat (first | refine blk_drewN ?_ _ | refine blk_drew ?_ | refine blk_alloc ?_ _)); exact BK259.out⟩, ⟨by repeat (first | (with_reducible first | exact HB.out | apply below_alloc | apply pw_below_drewN | apply below_drew1 | refine below_set ?_ GE259.out) | exact HB.out)⟩⟩
              case round =>
                clear H'
                try clear c1
                try clear p2
                try clear q2
                try clear hx2
                try clear c5
                try clear c5b0
                try clear c6
                try clear p6
                try clear c8
                try clear c10
                try clear c10b0
                try clear c11
                try clear c11b0
                try clear c12
                try clear c12b0
                try clear hcz13_0
                try clear hcz13_1
                try clear hcz13_2
                try clear hcz13_3
                try clear hcz14_0
                try clear hcz14_1
                try clear hcz14_2
                try clear hcz14_3
                try clear hcz15_0
                try clear hcz15_1
                try clear hcz15_2
                try clear hcz15_3
                try clear hcz6_0
                try clear hcz6_1
                try clear hcz6_2
                try clear hcz6_3
                try clear hcz7_0
                try clear hcz7_1
                try clear hcz7_2
                try clear hcz7_3
                try clear hcz9_0
                try clear hcz9_1
                try clear hcz9_2
                try clear hcz9_3
                try clear hfz13_0
                try clear hfz13_1
                try clear hfz13_2
                try clear hfz13_3
                try clear hfz14_0
                try clear hfz14_1
                try clear hfz14_2
                try clear hfz14_3
                try clear hfz15_0
                try clear hfz15_1
                try clear hfz15_2
                try clear hfz15_3
                try clear hfz6_0
                try clear hfz6_1
                try clear hfz6_2
                try clear hfz6_3
                try clear hfz7_0
                try clear hfz7_1
                try clear hfz7_2
                try clear hfz7_3
                try clear hfz9_0
                try clear hfz9_1
                try clear hfz9_2
                try clear hfz9_3
                try clear hx260_0
                try clear hx261_0
                try clear p2
                try clear p260
                try clear p261
                try clear p6
                try clear q260
                try clear q261
                obtain ⟨x5_3, x7_3, rfl, rfl, HA, HK3, BK259, HB⟩ := hrel
                cases gk with
                | zero => exact absurd HA.out (by simp [treemergeref06_weigh.l1])
                | succ k3 =>
                  have H := HA.out
                  clear HA
                  simp only [treemergeref06_weigh.l1] at H
                  by_cases c16 : x7_3 < (l0_3.length : Int)
                  · rw [if_pos c16] at H
                    have c16b0 : decide (x7_3 < (l0_3.length : Int)) = true := decide_eq_true c16
                    clear c16
                    by_cases c17 : 0 ≤ x7_3
                    · rw [if_pos c17] at H
                      have c17b0 : decide (0 ≤ x7_3) = true := decide_eq_true c17
                      clear c17
                      replace H := Option.bind_eq_some_iff.mp H
                      obtain ⟨t263, A180, H⟩ := H
                      replace H : (if t263 < 0 then (some (-1)) else (treemergeref06_weigh.l1 k3 t263 (wrap64 (x7_3 + 1)) a0_0 a0_1 l0_2 l0_3)) = some r := H
                      have A18 := Aside0.mk A180
                      clear A180
                      by_cases c19 : t263 < 0
                      · rw [if_pos c19] at H
                        have c19b0 : decide (t263 < 0) = true := decide_eq_true c19
                        clear c19
                        obtain rfl := Option.some.inj H
                        have hcz20_0 : wr.cell? ⟨gb259, 0, none⟩ = some (.int .i64 a0_0) := (blk_cell BK259.out 0).trans rfl
                        have hcz20_1 : wr.cell? ⟨gb259, 1, none⟩ = some (.string a0_1) := (blk_cell BK259.out 1).trans rfl
                        have hcz20_2 : wr.cell? ⟨gb259, 2, none⟩ = some (.slice A0_2 l0_2.length c0_2) := (blk_cell BK259.out 2).trans rfl
                        have hcz20_3 : wr.cell? ⟨gb259, 3, none⟩ = some (.slice A0_3 l0_3.length c0_3) := (blk_cell BK259.out 3).trans rfl
                        have hfz20_0 := blk_frozen BK259.out 0
                        have hfz20_1 := blk_frozen BK259.out 1
                        have hfz20_2 := blk_frozen BK259.out 2
                        have hfz20_3 := blk_frozen BK259.out 3
                        have p262 : 0 ≤ (x7_3 : Int) := of_decide_eq_true (by first | (with_reducible assumption) | assumption)
                        have q262 : x7_3 < (l0_3.length : Int) := of_decide_eq_true (by first | (with_reducible assumption) | assumption)
                        obtain ⟨ad262, A262_2, c262_2, A262_3, c262_3, e262, hx262_0, hx262_1, hx262_2, hx262_3, hl262_2, hi262_2, hl262_3, hi262_3⟩ := at_T25 HR0_3.out x7_3 p262 q262
                        cases e262
                        replace hx262_0 := (HB.out.cell (World.block_lt_of_cell? w _ hx262_0)).trans hx262_0
                        replace hx262_1 := (HB.out.cell (World.block_lt_of_cell? w _ hx262_1)).trans hx262_1
                        replace hx262_2 := (HB.out.cell (World.block_lt_of_cell? w _ hx262_2)).trans hx262_2
                        replace hx262_3 := (HB.out.cell (World.block_lt_of_cell? w _ hx262_3)).trans hx262_3
                        have HR262_2 := Aside0.mk hi262_2
                        have HC262_2 := Aside0.mk hl262_2
                        clear hi262_2 hl262_2
                        have HR262_3 := Aside0.mk hi262_3
                        have HC262_3 := Aside0.mk hl262_3
                        clear hi262_3 hl262_3
                        replace p262 := eq_true p262
                        replace q262 := eq_true q262
                        go_wp2_with (first | ((with_reducible refine gate_callee (f := 62) rfl ?_); refine goesL_ (some 62) rfl rfl Try.func62 (by kernel_rfl) rfl #[.agg #[.int .i64 ((rd_T25 l0_3 x7_3).f0), .string ((rd_T25 l0_3 x7_3).f1), .slice A262_2 ((rd_T25 l0_3 x7_3).f2).length c262_2, .slice A262_3 ((rd_T25 l0_3 x7_3).f3).length c262_3], .int .i64 x5_3] rfl (by (try simp only [List.map_toArray, List.map_cons, List.map_nil]); first | done | rfl | (simp only [List.length_drop, List.length_take]; rfl)) ?_; (with_reducible refine (ih k3 (by have := HJ2.out; have := HK2.out; have := HK3.out; omega) ((rd_T25 l0_3 x7_3).f0) ((rd_T25 l0_3 x7_3).f1) _ _ ((rd_T25 l0_3 x7_3).f2) _ _ ((rd_T25 l0_3 x7_3).f3) x5_3 t263 _ ?side1 ?side2 ?side3 ?side4 A18.out).mono ?_); (case side1 => repeat (first | exact (Kd.C_below HR262_2.out HB.out) | (with_reducible refine Kd.C_alloc ?_ _) | (with_reducible refine Kd.C_drewN ?_ _) | (with_reducible refine Kd.C_drew ?_))); (case side2 => exact HC262_2.out); (case side3 => repeat (first | exact (Kd.C_below HR262_3.out HB.out) | (with_reducible refine Kd.C_alloc ?_ _) | (with_reducible refine Kd.C_drewN ?_ _) | (with_reducible refine Kd.C_drew ?_))); (case side4 => exact HC262_3.out); rintro e w21 ⟨rfl, hb⟩; refine ⟨_, rfl, ?_⟩; have n0_ := Aside0.mk (blk_below (g := gb259) (o := .cells #[.int .i64 a0_0, .string a0_1, .slice A0_2 l0_2.length c0_2, .slice (some ad262) l0_3.length c0_3] 25 (0, 0)) (by (with_reducible repeat (first | refine blk_drewN ?_ _ | refine blk_drew ?_ | refine blk_alloc ?_ _)); exact BK259.out) hb); have n1_ := Aside0.mk (below_step (by repeat (first | (with_reducible first | exact HB.out | apply below_alloc | apply pw_below_drewN | apply below_drew1 | refine below_set ?_ GE259.out) | exact HB.out)) hb); clear BK259; clear HB; have BK259 := n0_; have HB := n1_; clear n0_ n1_; (try clear hb); (try clear hb2); (try clear hk); (try clear hi)))
                        go_ret
                        exact ⟨by first | rfl | (simp [errW_none, errW_some] <;> rfl) | (simp [*, errW_none, errW_some] <;> rfl), by repeat (first | (with_reducible first | exact HB.out | apply below_alloc | apply pw_below_drewN | apply below_drew1 | refine below_set ?_ GE259.out) | exact HB.out)⟩
                      · rw [if_neg c19] at H
                        have c19b0 : decide (t263 < 0) = false := decide_eq_false c19
                        clear c19
                        have H' := Aside0.mk H
                        clear H
                        have hcz22_0 : wr.cell? ⟨gb259, 0, none⟩ = some (.int .i64 a0_0) := (blk_cell BK259.out 0).trans rfl
                        have hcz22_1 : wr.cell? ⟨gb259, 1, none⟩ = some (.string a0_1) := (blk_cell BK259.out 1).trans rfl
                        have hcz22_2 : wr.cell? ⟨gb259, 2, none⟩ = some (.slice A0_2 l0_2.length c0_2) := (blk_cell BK259.out 2).trans rfl
                        have hcz22_3 : wr.cell? ⟨gb259, 3, none⟩ = some (.slice A0_3 l0_3.length c0_3) := (blk_cell BK259.out 3).trans rfl
                        have hfz22_0 := blk_frozen BK259.out 0
                        have hfz22_1 := blk_frozen BK259.out 1
                        have hfz22_2 := blk_frozen BK259.out 2
                        have hfz22_3 := blk_frozen BK259.out 3
                        have p262 : 0 ≤ (x7_3 : Int) := of_decide_eq_true (by first | (with_reducible assumption) | assumption)
                        have q262 : x7_3 < (l0_3.length : Int) := of_decide_eq_true (by first | (with_reducible assumption) | assumption)
                        obtain ⟨ad262, A262_2, c262_2, A262_3, c262_3, e262, hx262_0, hx262_1, hx262_2, hx262_3, hl262_2, hi262_2, hl262_3, hi262_3⟩ := at_T25 HR0_3.out x7_3 p262 q262
                        cases e262
                        replace hx262_0 := (HB.out.cell (World.block_lt_of_cell? w _ hx262_0)).trans hx262_0
                        replace hx262_1 := (HB.out.cell (World.block_lt_of_cell? w _ hx262_1)).trans hx262_1
                        replace hx262_2 := (HB.out.cell (World.block_lt_of_cell? w _ hx262_2)).trans hx262_2
                        replace hx262_3 := (HB.out.cell (World.block_lt_of_cell? w _ hx262_3)).trans hx262_3
                        have HR262_2 := Aside0.mk hi262_2
                        have HC262_2 := Aside0.mk hl262_2
                        clear hi262_2 hl262_2
                        have HR262_3 := Aside0.mk hi262_3
                        have HC262_3 := Aside0.mk hl262_3
                        clear hi262_3 hl262_3
                        replace p262 := eq_true p262
                        replace q262 := eq_true q262
                        go_wp2_with (first | ((with_reducible refine gate_callee (f := 62) rfl ?_); refine goesL_ (some 62) rfl rfl Try.func62 (by kernel_rfl) rfl #[.agg #[.int .i64 ((rd_T25 l0_3 x7_3).f0), .string ((rd_T25 l0_3 x7_3).f1), .slice A262_2 ((rd_T25 l0_3 x7_3).f2).length c262_2, .slice A262_3 ((rd_T25 l0_3 x7_3).f3).length c262_3], .int .i64 x5_3] rfl (by (try simp only [List.map_toArray, List.map_cons, List.map_nil]); first | done | rfl | (simp only [List.length_drop, List.length_take]; rfl)) ?_; (with_reducible refine (ih k3 (by have := HJ2.out; have := HK2.out; have := HK3.out; omega) ((rd_T25 l0_3 x7_3).f0) ((rd_T25 l0_3 x7_3).f1) _ _ ((rd_T25 l0_3 x7_3).f2) _ _ ((rd_T25 l0_3 x7_3).f3) x5_3 t263 _ ?side1 ?side2 ?side3 ?side4 A18.out).mono ?_); (case side1 => repeat (first | exact (Kd.C_below HR262_2.out HB.out) | (with_reducible refine Kd.C_alloc ?_ _) | (with_reducible refine Kd.C_drewN ?_ _) | (with_reducible refine Kd.C_drew ?_))); (case side2 => exact HC262_2.out); (case side3 => repeat (first | exact (Kd.C_below HR262_3.out HB.out) | (with_reducible refine Kd.C_alloc ?_ _) | (with_reducible refine Kd.C_drewN ?_ _) | (with_reducible refine Kd.C_drew ?_))); (case side4 => exact HC262_3.out); rintro e w23 ⟨rfl, hb⟩; refine ⟨_, rfl, ?_⟩; have n0_ := Aside0.mk (blk_below (g := gb259) (o := .cells #[.int .i64 a0_0, .string a0_1, .slice A0_2 l0_2.length c0_2, .slice (some ad262) l0_3.length c0_3] 25 (0, 0)) (by (with_reducible repeat (first | refine blk_drewN ?_ _ | refine blk_drew ?_ | refine blk_alloc ?_ _)); exact BK259.out) hb); have n1_ := Aside0.mk (below_step (by repeat (first | (with_reducible first | exact HB.out | apply below_alloc | apply pw_below_drewN | apply below_drew1 | refine below_set ?_ GE259.out) | exact HB.out)) hb); clear BK259; clear HB; have BK259 := n0_; have HB := n1_; clear n0_ n1_; (try clear hb); (try clear hb2); (try clear hk); (try clear hi)))
                        go_roundg k3
                        case measure => have := HJ2.out; have := HK2.out; have := HK3.out; omega
                        case rel => exact ⟨(t263), (wrap64 (x7_3 + 1)), (by first | rfl | (simp; done) | (simp [*]; done)), (by first | rfl | (simp; done) | (simp [*]; done)), H', ⟨by have := HJ2.out; have := HK2.out; have := HK3.out; omega⟩, ⟨by (with_reducible repeat (first | refine blk_drewN ?_ _ | refine blk_drew ?_ | refine blk_alloc ?_ _)); exact BK259.out⟩, ⟨by repeat (first | (with_reducible first | exact HB.out | apply below_alloc | apply pw_below_drewN | apply below_drew1 | refine below_set ?_ GE259.out) | exact HB.out)⟩⟩
                    · rw [if_neg c17] at H
                      exact absurd H (by simp)
                  · rw [if_neg c16] at H
                    have c16b0 : decide (x7_3 < (l0_3.length : Int)) = false := decide_eq_false c16
                    clear c16
                    obtain rfl := Option.some.inj H
                    have hcz24_0 : wr.cell? ⟨gb259, 0, none⟩ = some (.int .i64 a0_0) := (blk_cell BK259.out 0).trans rfl
                    have hcz24_1 : wr.cell? ⟨gb259, 1, none⟩ = some (.string a0_1) := (blk_cell BK259.out 1).trans rfl
                    have hcz24_2 : wr.cell? ⟨gb259, 2, none⟩ = some (.slice A0_2 l0_2.length c0_2) := (blk_cell BK259.out 2).trans rfl
                    have hcz24_3 : wr.cell? ⟨gb259, 3, none⟩ = some (.slice A0_3 l0_3.length c0_3) := (blk_cell BK259.out 3).trans rfl
                    have hfz24_0 := blk_frozen BK259.out 0
                    have hfz24_1 := blk_frozen BK259.out 1
                    have hfz24_2 := blk_frozen BK259.out 2
                    have hfz24_3 := blk_frozen BK259.out 3
                    go_wp2
                    go_ret
                    exact ⟨by first | rfl | (simp [errW_none, errW_some] <;> rfl) | (simp [*, errW_none, errW_some] <;> rfl), by repeat (first | (with_reducible first | exact HB.out | apply below_alloc | apply pw_below_drewN | apply below_drew1 | refine below_set ?_ GE259.out) | exact HB.out)⟩

/-! ### treemergeref06_Light: function 48 -/
def treemergeref06_Light.f (k : Nat) (a0_0 : Int) (a0_1 : ByteArray) (l0_2 : List ByteArray) (l0_3 : List (S25)) (a1 : Int) (a2 : Int) (a3 : Int) : Option (Bool) := (treemergeref06_Fits.f k a0_0 a0_1 l0_2 l0_3 a1 a2).bind fun t265 => (if t265 = true then ((treemergeref06_weigh.f k a0_0 a0_1 l0_2 l0_3 a3).bind fun t266 => (some (decide (t266 ≥ 0)))) else (some false))
theorem treemergeref06_Light.mono : ∀ a0 a1 a2 a3 a4 a5 a6 k, LeO (treemergeref06_Light.f k a0 a1 a2 a3 a4 a5 a6) (treemergeref06_Light.f (k + 1) a0 a1 a2 a3 a4 a5 a6) := by
  intro a0 a1 a2 a3 a4 a5 a6 k
  unfold treemergeref06_Light.f
  repeat' first
      | (with_reducible exact treemergeref06_Fits.mono _ _ _ _ _ _ _)
      | (with_reducible exact treemergeref06_weigh.mono _ _ _ _ _ _)
      | (with_reducible exact LeO.refl _)
      | (with_reducible exact LeO.none _)
      | (with_reducible refine LeO.ite ?_ ?_)
      | (with_reducible refine LeO.bind ?_ (fun _ => ?_))
      | exact treemergeref06_Fits.mono _ _ _ _ _ _ _
      | exact treemergeref06_weigh.mono _ _ _ _ _ _
      | exact LeO.none _
      | refine LeO.ite ?_ ?_
      | refine LeO.bind ?_ (fun _ => ?_)
set_option maxHeartbeats 8000000 in
set_option maxRecDepth 100000 in
theorem treemergeref06_Light.calls (k : Nat) (a0_0 : Int) (a0_1 : ByteArray) (A0_2 : Option Addr) (c0_2 : Nat) (l0_2 : List ByteArray) (A0_3 : Option Addr) (c0_3 : Nat) (l0_3 : List (S25)) (a1 : Int) (a2 : Int) (a3 : Int) (r : Bool) (w : World) (hr0_2 : Kd.C Kd.string w A0_2 l0_2.length l0_2) (hc0_2 : l0_2.length ≤ c0_2) (hr0_3 : Kd.C k25 w A0_3 l0_3.length l0_3) (hc0_3 : l0_3.length ≤ c0_3) (h : treemergeref06_Light.f k a0_0 a0_1 l0_2 l0_3 a1 a2 a3 = some r) :
    Calls Try.prog 48 #[.agg #[.int .i64 a0_0, .string a0_1, .slice A0_2 l0_2.length c0_2, .slice A0_3 l0_3.length c0_3], .int .i64 a1, .int .i64 a2, .int .i64 a3] w fun e w' => e = .returned (.bool r) ∧ Below w.heap.size w w' := by
  have hu25 := Try.underlying25
  have HR0_2 := Aside0.mk hr0_2
  have HC0_2 := Aside0.mk hc0_2
  clear hr0_2 hc0_2
  have HR0_3 := Aside0.mk hr0_3
  have HC0_3 := Aside0.mk hc0_3
  clear hr0_3 hc0_3
  have HB := Aside0.mk (Below.refl w.heap.size w)
  have H : ((treemergeref06_Fits.f k a0_0 a0_1 l0_2 l0_3 a1 a2).bind fun t265 => (if t265 = true then ((treemergeref06_weigh.f k a0_0 a0_1 l0_2 l0_3 a3).bind fun t266 => (some (decide (t266 ≥ 0)))) else (some false))) = some r := h
  clear h
  replace H := Option.bind_eq_some_iff.mp H
  obtain ⟨t265, A50, H⟩ := H
  replace H : (if t265 = true then ((treemergeref06_weigh.f k a0_0 a0_1 l0_2 l0_3 a3).bind fun t266 => (some (decide (t266 ≥ 0)))) else (some false)) = some r := H
  have A5 := Aside0.mk A50
  clear A50
  by_cases c6 : t265 = true
  · subst c6
    have H1 : ((treemergeref06_weigh.f k a0_0 a0_1 l0_2 l0_3 a3).bind fun t266 => (some (decide (t266 ≥ 0)))) = some r := by rw [if_pos rfl] at H; exact H
    clear H
    have H := H1
    clear H1
    replace H := Option.bind_eq_some_iff.mp H
    obtain ⟨t266, A70, H⟩ := H
    replace H : (some (decide (t266 ≥ 0))) = some r := H
    have A7 := Aside0.mk A70
    clear A70
    obtain rfl := Option.some.inj H
    go_enter Try.func48, Try.ntmps48
    go_wp2_with (first | ((with_reducible refine gate_dst (N := 4) rfl ?_); refine box_event ?hg (N := 4) ?hd (cs := #[.int .i64 a0_0, .string a0_1, .slice A0_2 l0_2.length c0_2, .slice A0_3 l0_3.length c0_3]) (t := 25) ?hr ?_; (case hd => rfl); (case hg => rfl); (case hr => first | (go_simp; done) | (go_simp; rfl) | (obtain ⟨_, _, rfl⟩ := Kd.R_slice (Aside0.out (by assumption : Aside0 (Kd.R _ _ _ _ _ _ _))); go_simp; done)); intro gb264 hg w8 hbox hb; have n0_ := Aside0.mk (below_step (by repeat (first | (with_reducible first | exact HB.out | apply below_alloc | apply pw_below_drewN | apply below_drew1) | exact HB.out)) hb); have n1_ := Aside0.mk (hbox); have n2_ := Aside0.mk ((by rw [hg]; exact (below_size (by repeat (first | (with_reducible first | exact HB.out | apply below_alloc | apply pw_below_drewN | apply below_drew1) | exact HB.out))) : w.heap.size ≤ gb264)); have n3_ := Aside0.mk ((by rw [hg]; exact (below_size (by repeat (first | (with_reducible first | exact HB.out | apply below_alloc | apply pw_below_drewN | apply below_drew1) | exact HB.out))) : w.heap.size ≤ gb264)); clear HB; have HB := n0_; have BK264 := n1_; have GW264 := n2_; have GE264 := n3_; clear n0_ n1_ n2_ n3_; clear hb hbox hg; have hcz9_0 : w8.cell? ⟨gb264, 0, none⟩ = some (.int .i64 a0_0) := (blk_cell BK264.out 0).trans rfl; have hcz9_1 : w8.cell? ⟨gb264, 1, none⟩ = some (.string a0_1) := (blk_cell BK264.out 1).trans rfl; have hcz9_2 : w8.cell? ⟨gb264, 2, none⟩ = some (.slice A0_2 l0_2.length c0_2) := (blk_cell BK264.out 2).trans rfl; have hcz9_3 : w8.cell? ⟨gb264, 3, none⟩ = some (.slice A0_3 l0_3.length c0_3) := (blk_cell BK264.out 3).trans rfl; have hfz9_0 := blk_frozen BK264.out 0; have hfz9_1 := blk_frozen BK264.out 1; have hfz9_2 := blk_frozen BK264.out 2; have hfz9_3 := blk_frozen BK264.out 3) | ((with_reducible refine gate_callee (f := 61) rfl ?_); refine goesL_ (some 12) rfl rfl Try.func61 (by kernel_rfl) rfl #[.agg #[.int .i64 a0_0, .string a0_1, .slice A0_2 l0_2.length c0_2, .slice A0_3 l0_3.length c0_3], .int .i64 a1, .int .i64 a2] rfl (by (try simp only [List.map_toArray, List.map_cons, List.map_nil]); first | done | rfl | (simp only [List.length_drop, List.length_take]; rfl)) ?_; (with_reducible refine (treemergeref06_Fits.calls k a0_0 a0_1 _ _ l0_2 _ _ l0_3 a1 a2 true _ ?side1 ?side2 ?side3 ?side4 A5.out).mono ?_); (case side1 => repeat (first | exact (Kd.C_below HR0_2.out HB.out) | (with_reducible refine Kd.C_alloc ?_ _) | (with_reducible refine Kd.C_drewN ?_ _) | (with_reducible refine Kd.C_drew ?_))); (case side2 => exact HC0_2.out); (case side3 => repeat (first | exact (Kd.C_below HR0_3.out HB.out) | (with_reducible refine Kd.C_alloc ?_ _) | (with_reducible refine Kd.C_drewN ?_ _) | (with_reducible refine Kd.C_drew ?_))); (case side4 => exact HC0_3.out); rintro e w10 ⟨rfl, hb⟩; refine ⟨_, rfl, ?_⟩; have n0_ := Aside0.mk (blk_below (g := gb264) (o := .cells #[.int .i64 a0_0, .string a0_1, .slice A0_2 l0_2.length c0_2, .slice A0_3 l0_3.length c0_3] 25 (0, 0)) (by (with_reducible repeat (first | refine blk_drewN ?_ _ | refine blk_drew ?_ | refine blk_alloc ?_ _)); exact BK264.out) hb); have n1_ := Aside0.mk (below_step (by repeat (first | (with_reducible first | exact HB.out | apply below_alloc | apply pw_below_drewN | apply below_drew1 | refine below_set ?_ GE264.out) | exact HB.out)) hb); clear BK264; clear HB; have BK264 := n0_; have HB := n1_; clear n0_ n1_; (try clear hb); (try clear hb2); (try clear hk); (try clear hi); have hcz11_0 : w10.cell? ⟨gb264, 0, none⟩ = some (.int .i64 a0_0) := (blk_cell BK264.out 0).trans rfl; have hcz11_1 : w10.cell? ⟨gb264, 1, none⟩ = some (.string a0_1) := (blk_cell BK264.out 1).trans rfl; have hcz11_2 : w10.cell? ⟨gb264, 2, none⟩ = some (.slice A0_2 l0_2.length c0_2) := (blk_cell BK264.out 2).trans rfl; have hcz11_3 : w10.cell? ⟨gb264, 3, none⟩ = some (.slice A0_3 l0_3.length c0_3) := (blk_cell BK264.out 3).trans rfl; have hfz11_0 := blk_frozen BK264.out 0; have hfz11_1 := blk_frozen BK264.out 1; have hfz11_2 := blk_frozen BK264.out 2; have hfz11_3 := blk_frozen BK264.out 3) | (go_at_call 62; (with_reducible refine (treemergeref06_weigh.calls k a0_0 a0_1 _ _ l0_2 _ _ l0_3 a3 t266 _ ?side1 ?side2 ?side3 ?side4 A7.out).mono ?_); (case side1 => repeat (first | exact (Kd.C_below HR0_2.out HB.out) | (with_reducible refine Kd.C_alloc ?_ _) | (with_reducible refine Kd.C_drewN ?_ _) | (with_reducible refine Kd.C_drew ?_))); (case side2 => exact HC0_2.out); (case side3 => repeat (first | exact (Kd.C_below HR0_3.out HB.out) | (with_reducible refine Kd.C_alloc ?_ _) | (with_reducible refine Kd.C_drewN ?_ _) | (with_reducible refine Kd.C_drew ?_))); (case side4 => exact HC0_3.out); rintro e w12 ⟨rfl, hb⟩; have n0_ := Aside0.mk (blk_below (g := gb264) (o := .cells #[.int .i64 a0_0, .string a0_1, .slice A0_2 l0_2.length c0_2, .slice A0_3 l0_3.length c0_3] 25 (0, 0)) (by (with_reducible repeat (first | refine blk_drewN ?_ _ | refine blk_drew ?_ | refine blk_alloc ?_ _)); exact BK264.out) hb); have n1_ := Aside0.mk (below_step (by repeat (first | (with_reducible first | exact HB.out | apply below_alloc | apply pw_below_drewN | apply below_drew1 | refine below_set ?_ GE264.out) | exact HB.out)) hb); clear BK264; clear HB; have BK264 := n0_; have HB := n1_; clear n0_ n1_; (try clear hb); (try clear hb2); (try clear hk); (try clear hi)))
    go_ret
    exact ⟨by first | rfl | (simp [errW_none, errW_some] <;> rfl) | (simp [*, errW_none, errW_some] <;> rfl), by repeat (first | (with_reducible first | exact HB.out | apply below_alloc | apply pw_below_drewN | apply below_drew1 | refine below_set ?_ GE264.out) | exact HB.out)⟩
  · replace c6 := Bool.eq_false_iff.mpr c6
    subst c6
    have H1 : (some false) = some r := by rw [if_neg (show ¬ (false = true) by decide)] at H; exact H
    clear H
    have H := H1
    clear H1
    obtain rfl := Option.some.inj H
    go_enter Try.func48, Try.ntmps48
    go_wp2_with (first | ((with_reducible refine gate_dst (N := 4) rfl ?_); refine box_event ?hg (N := 4) ?hd (cs := #[.int .i64 a0_0, .string a0_1, .slice A0_2 l0_2.length c0_2, .slice A0_3 l0_3.length c0_3]) (t := 25) ?hr ?_; (case hd => rfl); (case hg => rfl); (case hr => first | (go_simp; done) | (go_simp; rfl) | (obtain ⟨_, _, rfl⟩ := Kd.R_slice (Aside0.out (by assumption : Aside0 (Kd.R _ _ _ _ _ _ _))); go_simp; done)); intro gb264 hg w13 hbox hb; have n0_ := Aside0.mk (below_step (by repeat (first | (with_reducible first | exact HB.out | apply below_alloc | apply pw_below_drewN | apply below_drew1) | exact HB.out)) hb); have n1_ := Aside0.mk (hbox); have n2_ := Aside0.mk ((by rw [hg]; exact (below_size (by repeat (first | (with_reducible first | exact HB.out | apply below_alloc | apply pw_below_drewN | apply below_drew1) | exact HB.out))) : w.heap.size ≤ gb264)); have n3_ := Aside0.mk ((by rw [hg]; exact (below_size (by repeat (first | (with_reducible first | exact HB.out | apply below_alloc | apply pw_below_drewN | apply below_drew1) | exact HB.out))) : w.heap.size ≤ gb264)); clear HB; have HB := n0_; have BK264 := n1_; have GW264 := n2_; have GE264 := n3_; clear n0_ n1_ n2_ n3_; clear hb hbox hg; have hcz14_0 : w13.cell? ⟨gb264, 0, none⟩ = some (.int .i64 a0_0) := (blk_cell BK264.out 0).trans rfl; have hcz14_1 : w13.cell? ⟨gb264, 1, none⟩ = some (.string a0_1) := (blk_cell BK264.out 1).trans rfl; have hcz14_2 : w13.cell? ⟨gb264, 2, none⟩ = some (.slice A0_2 l0_2.length c0_2) := (blk_cell BK264.out 2).trans rfl; have hcz14_3 : w13.cell? ⟨gb264, 3, none⟩ = some (.slice A0_3 l0_3.length c0_3) := (blk_cell BK264.out 3).trans rfl; have hfz14_0 := blk_frozen BK264.out 0; have hfz14_1 := blk_frozen BK264.out 1; have hfz14_2 := blk_frozen BK264.out 2; have hfz14_3 := blk_frozen BK264.out 3) | ((with_reducible refine gate_callee (f := 61) rfl ?_); refine goesL_ (some 12) rfl rfl Try.func61 (by kernel_rfl) rfl #[.agg #[.int .i64 a0_0, .string a0_1, .slice A0_2 l0_2.length c0_2, .slice A0_3 l0_3.length c0_3], .int .i64 a1, .int .i64 a2] rfl (by (try simp only [List.map_toArray, List.map_cons, List.map_nil]); first | done | rfl | (simp only [List.length_drop, List.length_take]; rfl)) ?_; (with_reducible refine (treemergeref06_Fits.calls k a0_0 a0_1 _ _ l0_2 _ _ l0_3 a1 a2 false _ ?side1 ?side2 ?side3 ?side4 A5.out).mono ?_); (case side1 => repeat (first | exact (Kd.C_below HR0_2.out HB.out) | (with_reducible refine Kd.C_alloc ?_ _) | (with_reducible refine Kd.C_drewN ?_ _) | (with_reducible refine Kd.C_drew ?_))); (case side2 => exact HC0_2.out); (case side3 => repeat (first | exact (Kd.C_below HR0_3.out HB.out) | (with_reducible refine Kd.C_alloc ?_ _) | (with_reducible refine Kd.C_drewN ?_ _) | (with_reducible refine Kd.C_drew ?_))); (case side4 => exact HC0_3.out); rintro e w15 ⟨rfl, hb⟩; refine ⟨_, rfl, ?_⟩; have n0_ := Aside0.mk (blk_below (g := gb264) (o := .cells #[.int .i64 a0_0, .string a0_1, .slice A0_2 l0_2.length c0_2, .slice A0_3 l0_3.length c0_3] 25 (0, 0)) (by (with_reducible repeat (first | refine blk_drewN ?_ _ | refine blk_drew ?_ | refine blk_alloc ?_ _)); exact BK264.out) hb); have n1_ := Aside0.mk (below_step (by repeat (first | (with_reducible first | exact HB.out | apply below_alloc | apply pw_below_drewN | apply below_drew1 | refine below_set ?_ GE264.out) | exact HB.out)) hb); clear BK264; clear HB; have BK264 := n0_; have HB := n1_; clear n0_ n1_; (try clear hb); (try clear hb2); (try clear hk); (try clear hi)))
    go_ret
    exact ⟨by first | rfl | (simp [errW_none, errW_some] <;> rfl) | (simp [*, errW_none, errW_some] <;> rfl), by repeat (first | (with_reducible first | exact HB.out | apply below_alloc | apply pw_below_drewN | apply below_drew1 | refine below_set ?_ GE264.out) | exact HB.out)⟩

/-! ### treemergelaw31_small: function 21 -/
def treemergelaw31_small.f (k : Nat) (a0_0 : Int) (a0_1 : ByteArray) (l0_2 : List ByteArray) (l0_3 : List (S25)) : Option (Bool) := (treemergeref06_Light.f k a0_0 a0_1 l0_2 l0_3 60 60 1000).bind fun t268 => (some t268)
theorem treemergelaw31_small.mono : ∀ a0 a1 a2 a3 k, LeO (treemergelaw31_small.f k a0 a1 a2 a3) (treemergelaw31_small.f (k + 1) a0 a1 a2 a3) := by
  intro a0 a1 a2 a3 k
  unfold treemergelaw31_small.f
  repeat' first
      | (with_reducible exact treemergeref06_Light.mono _ _ _ _ _ _ _ _)
      | (with_reducible exact LeO.refl _)
      | (with_reducible exact LeO.none _)
      | (with_reducible refine LeO.ite ?_ ?_)
      | (with_reducible refine LeO.bind ?_ (fun _ => ?_))
      | exact treemergeref06_Light.mono _ _ _ _ _ _ _ _
      | exact LeO.none _
      | refine LeO.ite ?_ ?_
      | refine LeO.bind ?_ (fun _ => ?_)
set_option maxHeartbeats 8000000 in
set_option maxRecDepth 100000 in
theorem treemergelaw31_small.calls (k : Nat) (a0_0 : Int) (a0_1 : ByteArray) (A0_2 : Option Addr) (c0_2 : Nat) (l0_2 : List ByteArray) (A0_3 : Option Addr) (c0_3 : Nat) (l0_3 : List (S25)) (r : Bool) (w : World) (hr0_2 : Kd.C Kd.string w A0_2 l0_2.length l0_2) (hc0_2 : l0_2.length ≤ c0_2) (hr0_3 : Kd.C k25 w A0_3 l0_3.length l0_3) (hc0_3 : l0_3.length ≤ c0_3) (h : treemergelaw31_small.f k a0_0 a0_1 l0_2 l0_3 = some r) :
    Calls Try.prog 21 #[.agg #[.int .i64 a0_0, .string a0_1, .slice A0_2 l0_2.length c0_2, .slice A0_3 l0_3.length c0_3]] w fun e w' => e = .returned (.bool r) ∧ Below w.heap.size w w' := by
  have hu25 := Try.underlying25
  have HR0_2 := Aside0.mk hr0_2
  have HC0_2 := Aside0.mk hc0_2
  clear hr0_2 hc0_2
  have HR0_3 := Aside0.mk hr0_3
  have HC0_3 := Aside0.mk hc0_3
  clear hr0_3 hc0_3
  have HB := Aside0.mk (Below.refl w.heap.size w)
  have H : ((treemergeref06_Light.f k a0_0 a0_1 l0_2 l0_3 60 60 1000).bind fun t268 => (some t268)) = some r := h
  clear h
  replace H := Option.bind_eq_some_iff.mp H
  obtain ⟨t268, A20, H⟩ := H
  replace H : (some t268) = some r := H
  have A2 := Aside0.mk A20
  clear A20
  obtain rfl := Option.some.inj H
  go_enter Try.func21, Try.ntmps21
  go_wp2_with (first | ((with_reducible refine gate_dst (N := 1) rfl ?_); refine box_event ?hg (N := 1) ?hd (cs := #[.int .i64 a0_0, .string a0_1, .slice A0_2 l0_2.length c0_2, .slice A0_3 l0_3.length c0_3]) (t := 25) ?hr ?_; (case hd => rfl); (case hg => rfl); (case hr => first | (go_simp; done) | (go_simp; rfl) | (obtain ⟨_, _, rfl⟩ := Kd.R_slice (Aside0.out (by assumption : Aside0 (Kd.R _ _ _ _ _ _ _))); go_simp; done)); intro gb267 hg w3 hbox hb; have n0_ := Aside0.mk (below_step (by repeat (first | (with_reducible first | exact HB.out | apply below_alloc | apply pw_below_drewN | apply below_drew1) | exact HB.out)) hb); have n1_ := Aside0.mk (hbox); have n2_ := Aside0.mk ((by rw [hg]; exact (below_size (by repeat (first | (with_reducible first | exact HB.out | apply below_alloc | apply pw_below_drewN | apply below_drew1) | exact HB.out))) : w.heap.size ≤ gb267)); have n3_ := Aside0.mk ((by rw [hg]; exact (below_size (by repeat (first | (with_reducible first | exact HB.out | apply below_alloc | apply pw_below_drewN | apply below_drew1) | exact HB.out))) : w.heap.size ≤ gb267)); clear HB; have HB := n0_; have BK267 := n1_; have GW267 := n2_; have GE267 := n3_; clear n0_ n1_ n2_ n3_; clear hb hbox hg; have hcz4_0 : w3.cell? ⟨gb267, 0, none⟩ = some (.int .i64 a0_0) := (blk_cell BK267.out 0).trans rfl; have hcz4_1 : w3.cell? ⟨gb267, 1, none⟩ = some (.string a0_1) := (blk_cell BK267.out 1).trans rfl; have hcz4_2 : w3.cell? ⟨gb267, 2, none⟩ = some (.slice A0_2 l0_2.length c0_2) := (blk_cell BK267.out 2).trans rfl; have hcz4_3 : w3.cell? ⟨gb267, 3, none⟩ = some (.slice A0_3 l0_3.length c0_3) := (blk_cell BK267.out 3).trans rfl; have hfz4_0 := blk_frozen BK267.out 0; have hfz4_1 := blk_frozen BK267.out 1; have hfz4_2 := blk_frozen BK267.out 2; have hfz4_3 := blk_frozen BK267.out 3) | ((with_reducible refine gate_callee (f := 48) rfl ?_); refine goesL_ (some 4) rfl rfl Try.func48 (by kernel_rfl) rfl #[.agg #[.int .i64 a0_0, .string a0_1, .slice A0_2 l0_2.length c0_2, .slice A0_3 l0_3.length c0_3], .int .i64 60, .int .i64 60, .int .i64 1000] rfl (by (try simp only [List.map_toArray, List.map_cons, List.map_nil]); first | done | rfl | (simp only [List.length_drop, List.length_take]; rfl)) ?_; (with_reducible refine (treemergeref06_Light.calls k a0_0 a0_1 _ _ l0_2 _ _ l0_3 60 60 1000 t268 _ ?side1 ?side2 ?side3 ?side4 A2.out).mono ?_); (case side1 => repeat (first | exact (Kd.C_below HR0_2.out HB.out) | (with_reducible refine Kd.C_alloc ?_ _) | (with_reducible refine Kd.C_drewN ?_ _) | (with_reducible refine Kd.C_drew ?_))); (case side2 => exact HC0_2.out); (case side3 => repeat (first | exact (Kd.C_below HR0_3.out HB.out) | (with_reducible refine Kd.C_alloc ?_ _) | (with_reducible refine Kd.C_drewN ?_ _) | (with_reducible refine Kd.C_drew ?_))); (case side4 => exact HC0_3.out); rintro e w5 ⟨rfl, hb⟩; refine ⟨_, rfl, ?_⟩; have n0_ := Aside0.mk (blk_below (g := gb267) (o := .cells #[.int .i64 a0_0, .string a0_1, .slice A0_2 l0_2.length c0_2, .slice A0_3 l0_3.length c0_3] 25 (0, 0)) (by (with_reducible repeat (first | refine blk_drewN ?_ _ | refine blk_drew ?_ | refine blk_alloc ?_ _)); exact BK267.out) hb); have n1_ := Aside0.mk (below_step (by repeat (first | (with_reducible first | exact HB.out | apply below_alloc | apply pw_below_drewN | apply below_drew1 | refine below_set ?_ GE267.out) | exact HB.out)) hb); clear BK267; clear HB; have BK267 := n0_; have HB := n1_; clear n0_ n1_; (try clear hb); (try clear hb2); (try clear hk); (try clear hi)))
  go_ret
  exact ⟨by first | rfl | (simp [errW_none, errW_some] <;> rfl) | (simp [*, errW_none, errW_some] <;> rfl), by repeat (first | (with_reducible first | exact HB.out | apply below_alloc | apply pw_below_drewN | apply below_drew1 | refine below_set ?_ GE267.out) | exact HB.out)⟩

/-! ### treemergelaw31_few: function 16 -/
def treemergelaw31_few.f (k : Nat) (a0_0 : Int) (a0_1 : ByteArray) (l0_2 : List ByteArray) (l0_3 : List (S25)) (a0_4 : Int) (a0_5 : ByteArray) (l0_6 : List ByteArray) (l0_7 : List (S25)) (a0_8 : Int) (a0_9 : ByteArray) (l0_10 : List ByteArray) (l0_11 : List (S25)) (l0_12 : List Int) (l0_13 : List Int) (l0_14 : List Int) (a0_15 : Int) : Option (Bool) := (treemergelaw31_small.f k a0_0 a0_1 l0_2 l0_3).bind fun t270 => (if t270 = true then ((treemergelaw31_small.f k a0_4 a0_5 l0_6 l0_7).bind fun t271 => (if t271 = true then ((treemergelaw31_small.f k a0_8 a0_9 l0_10 l0_11).bind fun t272 => (if t272 = true then (if (l0_12.length : Int) ≤ 60 then (if (l0_13.length : Int) ≤ 60 then (some (decide ((l0_14.length : Int) ≤ 60))) else (some false)) else (some false)) else (some false))) else (some false))) else (some false))
theorem treemergelaw31_few.mono : ∀ a0 a1 a2 a3 a4 a5 a6 a7 a8 a9 a10 a11 a12 a13 a14 a15 k, LeO (treemergelaw31_few.f k a0 a1 a2 a3 a4 a5 a6 a7 a8 a9 a10 a11 a12 a13 a14 a15) (treemergelaw31_few.f (k + 1) a0 a1 a2 a3 a4 a5 a6 a7 a8 a9 a10 a11 a12 a13 a14 a15) := by
  intro a0 a1 a2 a3 a4 a5 a6 a7 a8 a9 a10 a11 a12 a13 a14 a15 k
  unfold treemergelaw31_few.f
  repeat' first
      | (with_reducible exact treemergelaw31_small.mono _ _ _ _ _)
      | (with_reducible exact LeO.refl _)
      | (with_reducible exact LeO.none _)
      | (with_reducible refine LeO.ite ?_ ?_)
      | (with_reducible refine LeO.bind ?_ (fun _ => ?_))
      | exact treemergelaw31_small.mono _ _ _ _ _
      | exact LeO.none _
      | refine LeO.ite ?_ ?_
      | refine LeO.bind ?_ (fun _ => ?_)
set_option maxHeartbeats 8000000 in
set_option maxRecDepth 100000 in
theorem treemergelaw31_few.calls (k : Nat) (a0_0 : Int) (a0_1 : ByteArray) (A0_2 : Option Addr) (c0_2 : Nat) (l0_2 : List ByteArray) (A0_3 : Option Addr) (c0_3 : Nat) (l0_3 : List (S25)) (a0_4 : Int) (a0_5 : ByteArray) (A0_6 : Option Addr) (c0_6 : Nat) (l0_6 : List ByteArray) (A0_7 : Option Addr) (c0_7 : Nat) (l0_7 : List (S25)) (a0_8 : Int) (a0_9 : ByteArray) (A0_10 : Option Addr) (c0_10 : Nat) (l0_10 : List ByteArray) (A0_11 : Option Addr) (c0_11 : Nat) (l0_11 : List (S25)) (A0_12 : Option Addr) (c0_12 : Nat) (l0_12 : List Int) (A0_13 : Option Addr) (c0_13 : Nat) (l0_13 : List Int) (A0_14 : Option Addr) (c0_14 : Nat) (l0_14 : List Int) (a0_15 : Int) (r : Bool) (w : World) (hr0_2 : Kd.C Kd.string w A0_2 l0_2.length l0_2) (hc0_2 : l0_2.length ≤ c0_2) (hr0_3 : Kd.C k25 w A0_3 l0_3.length l0_3) (hc0_3 : l0_3.length ≤ c0_3) (hr0_6 : Kd.C Kd.string w A0_6 l0_6.length l0_6) (hc0_6 : l0_6.length ≤ c0_6) (hr0_7 : Kd.C k25 w A0_7 l0_7.length l0_7) (hc0_7 : l0_7.length ≤ c0_7) (hr0_10 : Kd.C Kd.string w A0_10 l0_10.length l0_10) (hc0_10 : l0_10.length ≤ c0_10) (hr0_11 : Kd.C k25 w A0_11 l0_11.length l0_11) (hc0_11 : l0_11.length ≤ c0_11) (hr0_12 : Kd.C (Kd.int .i64) w A0_12 l0_12.length l0_12) (hc0_12 : l0_12.length ≤ c0_12) (hr0_13 : Kd.C (Kd.int .i64) w A0_13 l0_13.length l0_13) (hc0_13 : l0_13.length ≤ c0_13) (hr0_14 : Kd.C (Kd.int .i64) w A0_14 l0_14.length l0_14) (hc0_14 : l0_14.length ≤ c0_14) (h : treemergelaw31_few.f k a0_0 a0_1 l0_2 l0_3 a0_4 a0_5 l0_6 l0_7 a0_8 a0_9 l0_10 l0_11 l0_12 l0_13 l0_14 a0_15 = some r) :
    Calls Try.prog 16 #[.agg #[.int .i64 a0_0, .string a0_1, .slice A0_2 l0_2.length c0_2, .slice A0_3 l0_3.length c0_3, .int .i64 a0_4, .string a0_5, .slice A0_6 l0_6.length c0_6, .slice A0_7 l0_7.length c0_7, .int .i64 a0_8, .string a0_9, .slice A0_10 l0_10.length c0_10, .slice A0_11 l0_11.length c0_11, .slice A0_12 l0_12.length c0_12, .slice A0_13 l0_13.length c0_13, .slice A0_14 l0_14.length c0_14, .int .i64 a0_15]] w fun e w' => e = .returned (.bool r) ∧ Below w.heap.size w w' := by
  have hu42 := Try.underlying42
  have hu25 := Try.underlying25
  have HR0_2 := Aside0.mk hr0_2
  have HC0_2 := Aside0.mk hc0_2
  clear hr0_2 hc0_2
  have HR0_3 := Aside0.mk hr0_3
  have HC0_3 := Aside0.mk hc0_3
  clear hr0_3 hc0_3
  have HR0_6 := Aside0.mk hr0_6
  have HC0_6 := Aside0.mk hc0_6
  clear hr0_6 hc0_6
  have HR0_7 := Aside0.mk hr0_7
  have HC0_7 := Aside0.mk hc0_7
  clear hr0_7 hc0_7
  have HR0_10 := Aside0.mk hr0_10
  have HC0_10 := Aside0.mk hc0_10
  clear hr0_10 hc0_10
  have HR0_11 := Aside0.mk hr0_11
  have HC0_11 := Aside0.mk hc0_11
  clear hr0_11 hc0_11
  have HR0_12 := Aside0.mk hr0_12
  have HC0_12 := Aside0.mk hc0_12
  clear hr0_12 hc0_12
  have HR0_13 := Aside0.mk hr0_13
  have HC0_13 := Aside0.mk hc0_13
  clear hr0_13 hc0_13
  have HR0_14 := Aside0.mk hr0_14
  have HC0_14 := Aside0.mk hc0_14
  clear hr0_14 hc0_14
  have HB := Aside0.mk (Below.refl w.heap.size w)
  have H : ((treemergelaw31_small.f k a0_0 a0_1 l0_2 l0_3).bind fun t270 => (if t270 = true then ((treemergelaw31_small.f k a0_4 a0_5 l0_6 l0_7).bind fun t271 => (if t271 = true then ((treemergelaw31_small.f k a0_8 a0_9 l0_10 l0_11).bind fun t272 => (if t272 = true then (if (l0_12.length : Int) ≤ 60 then (if (l0_13.length : Int) ≤ 60 then (some (decide ((l0_14.length : Int) ≤ 60))) else (some false)) else (some false)) else (some false))) else (some false))) else (some false))) = some r := h
  clear h
  replace H := Option.bind_eq_some_iff.mp H
  obtain ⟨t270, A20, H⟩ := H
  replace H : (if t270 = true then ((treemergelaw31_small.f k a0_4 a0_5 l0_6 l0_7).bind fun t271 => (if t271 = true then ((treemergelaw31_small.f k a0_8 a0_9 l0_10 l0_11).bind fun t272 => (if t272 = true then (if (l0_12.length : Int) ≤ 60 then (if (l0_13.length : Int) ≤ 60 then (some (decide ((l0_14.length : Int) ≤ 60))) else (some false)) else (some false)) else (some false))) else (some false))) else (some false)) = some r := H
  have A2 := Aside0.mk A20
  clear A20
  by_cases c3 : t270 = true
  · subst c3
    have H1 : ((treemergelaw31_small.f k a0_4 a0_5 l0_6 l0_7).bind fun t271 => (if t271 = true then ((treemergelaw31_small.f k a0_8 a0_9 l0_10 l0_11).bind fun t272 => (if t272 = true then (if (l0_12.length : Int) ≤ 60 then (if (l0_13.length : Int) ≤ 60 then (some (decide ((l0_14.length : Int) ≤ 60))) else (some false)) else (some false)) else (some false))) else (some false))) = some r := by rw [if_pos rfl] at H; exact H
    clear H
    have H := H1
    clear H1
    replace H := Option.bind_eq_some_iff.mp H
    obtain ⟨t271, A40, H⟩ := H
    replace H : (if t271 = true then ((treemergelaw31_small.f k a0_8 a0_9 l0_10 l0_11).bind fun t272 => (if t272 = true then (if (l0_12.length : Int) ≤ 60 then (if (l0_13.length : Int) ≤ 60 then (some (decide ((l0_14.length : Int) ≤ 60))) else (some false)) else (some false)) else (some false))) else (some false)) = some r := H
    have A4 := Aside0.mk A40
    clear A40
    by_cases c5 : t271 = true
    · subst c5
      have H1 : ((treemergelaw31_small.f k a0_8 a0_9 l0_10 l0_11).bind fun t272 => (if t272 = true then (if (l0_12.length : Int) ≤ 60 then (if (l0_13.length : Int) ≤ 60 then (some (decide ((l0_14.length : Int) ≤ 60))) else (some false)) else (some false)) else (some false))) = some r := by rw [if_pos rfl] at H; exact H
      clear H
      have H := H1
      clear H1
      replace H := Option.bind_eq_some_iff.mp H
      obtain ⟨t272, A60, H⟩ := H
      replace H : (if t272 = true then (if (l0_12.length : Int) ≤ 60 then (if (l0_13.length : Int) ≤ 60 then (some (decide ((l0_14.length : Int) ≤ 60))) else (some false)) else (some false)) else (some false)) = some r := H
      have A6 := Aside0.mk A60
      clear A60
      by_cases c7 : t272 = true
      · subst c7
        have H1 : (if (l0_12.length : Int) ≤ 60 then (if (l0_13.length : Int) ≤ 60 then (some (decide ((l0_14.length : Int) ≤ 60))) else (some false)) else (some false)) = some r := by rw [if_pos rfl] at H; exact H
        clear H
        have H := H1
        clear H1
        by_cases c8 : (l0_12.length : Int) ≤ 60
        · rw [if_pos c8] at H
          have c8b0 : decide ((l0_12.length : Int) ≤ 60) = true := decide_eq_true c8
          have c8b1 : decide (l0_12.length ≤ 60) = true := decide_eq_true (by omega)
          clear c8
          by_cases c9 : (l0_13.length : Int) ≤ 60
          · rw [if_pos c9] at H
            have c9b0 : decide ((l0_13.length : Int) ≤ 60) = true := decide_eq_true c9
            have c9b1 : decide (l0_13.length ≤ 60) = true := decide_eq_true (by omega)
            clear c9
            obtain rfl := Option.some.inj H
            go_enter Try.func16, Try.ntmps16
            go_wp2_with (first | ((with_reducible refine gate_dst (N := 1) rfl ?_); (try (refine gate_guard (by rfl) ?_; dsimp only)); refine box_event ?hg (N := 1) ?hd (cs := #[.int .i64 a0_0, .string a0_1, .slice A0_2 l0_2.length c0_2, .slice A0_3 l0_3.length c0_3, .int .i64 a0_4, .string a0_5, .slice A0_6 l0_6.length c0_6, .slice A0_7 l0_7.length c0_7, .int .i64 a0_8, .string a0_9, .slice A0_10 l0_10.length c0_10, .slice A0_11 l0_11.length c0_11, .slice A0_12 l0_12.length c0_12, .slice A0_13 l0_13.length c0_13, .slice A0_14 l0_14.length c0_14, .int .i64 a0_15]) (t := 42) ?hr ?_; (case hd => rfl); (case hg => rfl); (case hr => first | (go_simp; done) | (go_simp; rfl) | (obtain ⟨_, _, rfl⟩ := Kd.R_slice (Aside0.out (by assumption : Aside0 (Kd.R _ _ _ _ _ _ _))); go_simp; done)); intro gb269 hg w10 hbox hb; have n0_ := Aside0.mk (below_step (by repeat (first | (with_reducible first | exact HB.out | apply below_alloc | apply pw_below_drewN | apply below_drew1) | exact HB.out)) hb); have n1_ := Aside0.mk (hbox); have n2_ := Aside0.mk ((by rw [hg]; exact (below_size (by repeat (first | (with_reducible first | exact HB.out | apply below_alloc | apply pw_below_drewN | apply below_drew1) | exact HB.out))) : w.heap.size ≤ gb269)); have n3_ := Aside0.mk ((by rw [hg]; exact (below_size (by repeat (first | (with_reducible first | exact HB.out | apply below_alloc | apply pw_below_drewN | apply below_drew1) | exact HB.out))) : w.heap.size ≤ gb269)); clear HB; have HB := n0_; have BK269 := n1_; have GW269 := n2_; have GE269 := n3_; clear n0_ n1_ n2_ n3_; clear hb hbox hg; have hcz11_0 : w10.cell? ⟨gb269, 0, none⟩ = some (.int .i64 a0_0) := (blk_cell BK269.out 0).trans rfl; have hcz11_1 : w10.cell? ⟨gb269, 1, none⟩ = some (.string a0_1) := (blk_cell BK269.out 1).trans rfl; have hcz11_2 : w10.cell? ⟨gb269, 2, none⟩ = some (.slice A0_2 l0_2.length c0_2) := (blk_cell BK269.out 2).trans rfl; have hcz11_3 : w10.cell? ⟨gb269, 3, none⟩ = some (.slice A0_3 l0_3.length c0_3) := (blk_cell BK269.out 3).trans rfl; have hcz11_4 : w10.cell? ⟨gb269, 4, none⟩ = some (.int .i64 a0_4) := (blk_cell BK269.out 4).trans rfl; have hcz11_5 : w10.cell? ⟨gb269, 5, none⟩ = some (.string a0_5) := (blk_cell BK269.out 5).trans rfl; have hcz11_6 : w10.cell? ⟨gb269, 6, none⟩ = some (.slice A0_6 l0_6.length c0_6) := (blk_cell BK269.out 6).trans rfl; have hcz11_7 : w10.cell? ⟨gb269, 7, none⟩ = some (.slice A0_7 l0_7.length c0_7) := (blk_cell BK269.out 7).trans rfl; have hcz11_8 : w10.cell? ⟨gb269, 8, none⟩ = some (.int .i64 a0_8) := (blk_cell BK269.out 8).trans rfl; have hcz11_9 : w10.cell? ⟨gb269, 9, none⟩ = some (.string a0_9) := (blk_cell BK269.out 9).trans rfl; have hcz11_10 : w10.cell? ⟨gb269, 10, none⟩ = some (.slice A0_10 l0_10.length c0_10) := (blk_cell BK269.out 10).trans rfl; have hcz11_11 : w10.cell? ⟨gb269, 11, none⟩ = some (.slice A0_11 l0_11.length c0_11) := (blk_cell BK269.out 11).trans rfl; have hcz11_12 : w10.cell? ⟨gb269, 12, none⟩ = some (.slice A0_12 l0_12.length c0_12) := (blk_cell BK269.out 12).trans rfl; have hcz11_13 : w10.cell? ⟨gb269, 13, none⟩ = some (.slice A0_13 l0_13.length c0_13) := (blk_cell BK269.out 13).trans rfl; have hcz11_14 : w10.cell? ⟨gb269, 14, none⟩ = some (.slice A0_14 l0_14.length c0_14) := (blk_cell BK269.out 14).trans rfl; have hcz11_15 : w10.cell? ⟨gb269, 15, none⟩ = some (.int .i64 a0_15) := (blk_cell BK269.out 15).trans rfl; have hfz11_0 := blk_frozen BK269.out 0; have hfz11_1 := blk_frozen BK269.out 1; have hfz11_2 := blk_frozen BK269.out 2; have hfz11_3 := blk_frozen BK269.out 3; have hfz11_4 := blk_frozen BK269.out 4; have hfz11_5 := blk_frozen BK269.out 5; have hfz11_6 := blk_frozen BK269.out 6; have hfz11_7 := blk_frozen BK269.out 7; have hfz11_8 := blk_frozen BK269.out 8; have hfz11_9 := blk_frozen BK269.out 9; have hfz11_10 := blk_frozen BK269.out 10; have hfz11_11 := blk_frozen BK269.out 11; have hfz11_12 := blk_frozen BK269.out 12; have hfz11_13 := blk_frozen BK269.out 13; have hfz11_14 := blk_frozen BK269.out 14; have hfz11_15 := blk_frozen BK269.out 15) | ((with_reducible refine gate_callee (f := 21) rfl ?_); refine goesL_ (some 5) rfl rfl Try.func21 (by kernel_rfl) rfl #[.agg #[.int .i64 a0_0, .string a0_1, .slice A0_2 l0_2.length c0_2, .slice A0_3 l0_3.length c0_3]] rfl (by (try simp only [List.map_toArray, List.map_cons, List.map_nil]); first | done | rfl | (simp only [List.length_drop, List.length_take]; rfl)) ?_; (with_reducible refine (treemergelaw31_small.calls k a0_0 a0_1 _ _ l0_2 _ _ l0_3 true _ ?side1 ?side2 ?side3 ?side4 A2.out).mono ?_); (case side1 => repeat (first | exact (Kd.C_below HR0_2.out HB.out) | (with_reducible refine Kd.C_alloc ?_ _) | (with_reducible refine Kd.C_drewN ?_ _) | (with_reducible refine Kd.C_drew ?_))); (case side2 => exact HC0_2.out); (case side3 => repeat (first | exact (Kd.C_below HR0_3.out HB.out) | (with_reducible refine Kd.C_alloc ?_ _) | (with_reducible refine Kd.C_drewN ?_ _) | (with_reducible refine Kd.C_drew ?_))); (case side4 => exact HC0_3.out); rintro e w12 ⟨rfl, hb⟩; refine ⟨_, rfl, ?_⟩; have n0_ := Aside0.mk (blk_below (g := gb269) (o := .cells #[.int .i64 a0_0, .string a0_1, .slice A0_2 l0_2.length c0_2, .slice A0_3 l0_3.length c0_3, .int .i64 a0_4, .string a0_5, .slice A0_6 l0_6.length c0_6, .slice A0_7 l0_7.length c0_7, .int .i64 a0_8, .string a0_9, .slice A0_10 l0_10.length c0_10, .slice A0_11 l0_11.length c0_11, .slice A0_12 l0_12.length c0_12, .slice A0_13 l0_13.length c0_13, .slice A0_14 l0_14.length c0_14, .int .i64 a0_15] 42 (0, 0)) (by (with_reducible repeat (first | refine blk_drewN ?_ _ | refine blk_drew ?_ | refine blk_alloc ?_ _)); exact BK269.out) hb); have n1_ := Aside0.mk (below_step (by repeat (first | (with_reducible first | exact HB.out | apply below_alloc | apply pw_below_drewN | apply below_drew1 | refine below_set ?_ GE269.out) | exact HB.out)) hb); clear BK269; clear HB; have BK269 := n0_; have HB := n1_; clear n0_ n1_; (try clear hb); (try clear hb2); (try clear hk); (try clear hi); have hcz13_0 : w12.cell? ⟨gb269, 0, none⟩ = some (.int .i64 a0_0) := (blk_cell BK269.out 0).trans rfl; have hcz13_1 : w12.cell? ⟨gb269, 1, none⟩ = some (.string a0_1) := (blk_cell BK269.out 1).trans rfl; have hcz13_2 : w12.cell? ⟨gb269, 2, none⟩ = some (.slice A0_2 l0_2.length c0_2) := (blk_cell BK269.out 2).trans rfl; have hcz13_3 : w12.cell? ⟨gb269, 3, none⟩ = some (.slice A0_3 l0_3.length c0_3) := (blk_cell BK269.out 3).trans rfl; have hcz13_4 : w12.cell? ⟨gb269, 4, none⟩ = some (.int .i64 a0_4) := (blk_cell BK269.out 4).trans rfl; have hcz13_5 : w12.cell? ⟨gb269, 5, none⟩ = some (.string a0_5) := (blk_cell BK269.out 5).trans rfl; have hcz13_6 : w12.cell? ⟨gb269, 6, none⟩ = some (.slice A0_6 l0_6.length c0_6) := (blk_cell BK269.out 6).trans rfl; have hcz13_7 : w12.cell? ⟨gb269, 7, none⟩ = some (.slice A0_7 l0_7.length c0_7) := (blk_cell BK269.out 7).trans rfl; have hcz13_8 : w12.cell? ⟨gb269, 8, none⟩ = some (.int .i64 a0_8) := (blk_cell BK269.out 8).trans rfl; have hcz13_9 : w12.cell? ⟨gb269, 9, none⟩ = some (.string a0_9) := (blk_cell BK269.out 9).trans rfl; have hcz13_10 : w12.cell? ⟨gb269, 10, none⟩ = some (.slice A0_10 l0_10.length c0_10) := (blk_cell BK269.out 10).trans rfl; have hcz13_11 : w12.cell? ⟨gb269, 11, none⟩ = some (.slice A0_11 l0_11.length c0_11) := (blk_cell BK269.out 11).trans rfl; have hcz13_12 : w12.cell? ⟨gb269, 12, none⟩ = some (.slice A0_12 l0_12.length c0_12) := (blk_cell BK269.out 12).trans rfl; have hcz13_13 : w12.cell? ⟨gb269, 13, none⟩ = some (.slice A0_13 l0_13.length c0_13) := (blk_cell BK269.out 13).trans rfl; have hcz13_14 : w12.cell? ⟨gb269, 14, none⟩ = some (.slice A0_14 l0_14.length c0_14) := (blk_cell BK269.out 14).trans rfl; have hcz13_15 : w12.cell? ⟨gb269, 15, none⟩ = some (.int .i64 a0_15) := (blk_cell BK269.out 15).trans rfl; have hfz13_0 := blk_frozen BK269.out 0; have hfz13_1 := blk_frozen BK269.out 1; have hfz13_2 := blk_frozen BK269.out 2; have hfz13_3 := blk_frozen BK269.out 3; have hfz13_4 := blk_frozen BK269.out 4; have hfz13_5 := blk_frozen BK269.out 5; have hfz13_6 := blk_frozen BK269.out 6; have hfz13_7 := blk_frozen BK269.out 7; have hfz13_8 := blk_frozen BK269.out 8; have hfz13_9 := blk_frozen BK269.out 9; have hfz13_10 := blk_frozen BK269.out 10; have hfz13_11 := blk_frozen BK269.out 11; have hfz13_12 := blk_frozen BK269.out 12; have hfz13_13 := blk_frozen BK269.out 13; have hfz13_14 := blk_frozen BK269.out 14; have hfz13_15 := blk_frozen BK269.out 15) | (go_at_call 21; (with_reducible refine (treemergelaw31_small.calls k a0_4 a0_5 _ _ l0_6 _ _ l0_7 true _ ?side1 ?side2 ?side3 ?side4 A4.out).mono ?_); (case side1 => repeat (first | exact (Kd.C_below HR0_6.out HB.out) | (with_reducible refine Kd.C_alloc ?_ _) | (with_reducible refine Kd.C_drewN ?_ _) | (with_reducible refine Kd.C_drew ?_))); (case side2 => exact HC0_6.out); (case side3 => repeat (first | exact (Kd.C_below HR0_7.out HB.out) | (with_reducible refine Kd.C_alloc ?_ _) | (with_reducible refine Kd.C_drewN ?_ _) | (with_reducible refine Kd.C_drew ?_))); (case side4 => exact HC0_7.out); rintro e w14 ⟨rfl, hb⟩; have n0_ := Aside0.mk (blk_below (g := gb269) (o := .cells #[.int .i64 a0_0, .string a0_1, .slice A0_2 l0_2.length c0_2, .slice A0_3 l0_3.length c0_3, .int .i64 a0_4, .string a0_5, .slice A0_6 l0_6.length c0_6, .slice A0_7 l0_7.length c0_7, .int .i64 a0_8, .string a0_9, .slice A0_10 l0_10.length c0_10, .slice A0_11 l0_11.length c0_11, .slice A0_12 l0_12.length c0_12, .slice A0_13 l0_13.length c0_13, .slice A0_14 l0_14.length c0_14, .int .i64 a0_15] 42 (0, 0)) (by (with_reducible repeat (first | refine blk_drewN ?_ _ | refine blk_drew ?_ | refine blk_alloc ?_ _)); exact BK269.out) hb); have n1_ := Aside0.mk (below_step (by repeat (first | (with_reducible first | exact HB.out | apply below_alloc | apply pw_below_drewN | apply below_drew1 | refine below_set ?_ GE269.out) | exact HB.out)) hb); clear BK269; clear HB; have BK269 := n0_; have HB := n1_; clear n0_ n1_; (try clear hb); (try clear hb2); (try clear hk); (try clear hi); have hcz15_0 : w14.cell? ⟨gb269, 0, none⟩ = some (.int .i64 a0_0) := (blk_cell BK269.out 0).trans rfl; have hcz15_1 : w14.cell? ⟨gb269, 1, none⟩ = some (.string a0_1) := (blk_cell BK269.out 1).trans rfl; have hcz15_2 : w14.cell? ⟨gb269, 2, none⟩ = some (.slice A0_2 l0_2.length c0_2) := (blk_cell BK269.out 2).trans rfl; have hcz15_3 : w14.cell? ⟨gb269, 3, none⟩ = some (.slice A0_3 l0_3.length c0_3) := (blk_cell BK269.out 3).trans rfl; have hcz15_4 : w14.cell? ⟨gb269, 4, none⟩ = some (.int .i64 a0_4) := (blk_cell BK269.out 4).trans rfl; have hcz15_5 : w14.cell? ⟨gb269, 5, none⟩ = some (.string a0_5) := (blk_cell BK269.out 5).trans rfl; have hcz15_6 : w14.cell? ⟨gb269, 6, none⟩ = some (.slice A0_6 l0_6.length c0_6) := (blk_cell BK269.out 6).trans rfl; have hcz15_7 : w14.cell? ⟨gb269, 7, none⟩ = some (.slice A0_7 l0_7.length c0_7) := (blk_cell BK269.out 7).trans rfl; have hcz15_8 : w14.cell? ⟨gb269, 8, none⟩ = some (.int .i64 a0_8) := (blk_cell BK269.out 8).trans rfl; have hcz15_9 : w14.cell? ⟨gb269, 9, none⟩ = some (.string a0_9) := (blk_cell BK269.out 9).trans rfl; have hcz15_10 : w14.cell? ⟨gb269, 10, none⟩ = some (.slice A0_10 l0_10.length c0_10) := (blk_cell BK269.out 10).trans rfl; have hcz15_11 : w14.cell? ⟨gb269, 11, none⟩ = some (.slice A0_11 l0_11.length c0_11) := (blk_cell BK269.out 11).trans rfl; have hcz15_12 : w14.cell? ⟨gb269, 12, none⟩ = some (.slice A0_12 l0_12.length c0_12) := (blk_cell BK269.out 12).trans rfl; have hcz15_13 : w14.cell? ⟨gb269, 13, none⟩ = some (.slice A0_13 l0_13.length c0_13) := (blk_cell BK269.out 13).trans rfl; have hcz15_14 : w14.cell? ⟨gb269, 14, none⟩ = some (.slice A0_14 l0_14.length c0_14) := (blk_cell BK269.out 14).trans rfl; have hcz15_15 : w14.cell? ⟨gb269, 15, none⟩ = some (.int .i64 a0_15) := (blk_cell BK269.out 15).trans rfl; have hfz15_0 := blk_frozen BK269.out 0; have hfz15_1 := blk_frozen BK269.out 1; have hfz15_2 := blk_frozen BK269.out 2; have hfz15_3 := blk_frozen BK269.out 3; have hfz15_4 := blk_frozen BK269.out 4; have hfz15_5 := blk_frozen BK269.out 5; have hfz15_6 := blk_frozen BK269.out 6; have hfz15_7 := blk_frozen BK269.out 7; have hfz15_8 := blk_frozen BK269.out 8; have hfz15_9 := blk_frozen BK269.out 9; have hfz15_10 := blk_frozen BK269.out 10; have hfz15_11 := blk_frozen BK269.out 11; have hfz15_12 := blk_frozen BK269.out 12; have hfz15_13 := blk_frozen BK269.out 13; have hfz15_14 := blk_frozen BK269.out 14; have hfz15_15 := blk_frozen BK269.out 15) | (go_at_call 21; (with_reducible refine (treemergelaw31_small.calls k a0_8 a0_9 _ _ l0_10 _ _ l0_11 true _ ?side1 ?side2 ?side3 ?side4 A6.out).mono ?_); (case side1 => repeat (first | exact (Kd.C_below HR0_10.out HB.out) | (with_reducible refine Kd.C_alloc ?_ _) | (with_reducible refine Kd.C_drewN ?_ _) | (with_reducible refine Kd.C_drew ?_))); (case side2 => exact HC0_10.out); (case side3 => repeat (first | exact (Kd.C_below HR0_11.out HB.out) | (with_reducible refine Kd.C_alloc ?_ _) | (with_reducible refine Kd.C_drewN ?_ _) | (with_reducible refine Kd.C_drew ?_))); (case side4 => exact HC0_11.out); rintro e w16 ⟨rfl, hb⟩; have n0_ := Aside0.mk (blk_below (g := gb269) (o := .cells #[.int .i64 a0_0, .string a0_1, .slice A0_2 l0_2.length c0_2, .slice A0_3 l0_3.length c0_3, .int .i64 a0_4, .string a0_5, .slice A0_6 l0_6.length c0_6, .slice A0_7 l0_7.length c0_7, .int .i64 a0_8, .string a0_9, .slice A0_10 l0_10.length c0_10, .slice A0_11 l0_11.length c0_11, .slice A0_12 l0_12.length c0_12, .slice A0_13 l0_13.length c0_13, .slice A0_14 l0_14.length c0_14, .int .i64 a0_15] 42 (0, 0)) (by (with_reducible repeat (first | refine blk_drewN ?_ _ | refine blk_drew ?_ | refine blk_alloc ?_ _)); exact BK269.out) hb); have n1_ := Aside0.mk (below_step (by repeat (first | (with_reducible first | exact HB.out | apply below_alloc | apply pw_below_drewN | apply below_drew1 | refine below_set ?_ GE269.out) | exact HB.out)) hb); clear BK269; clear HB; have BK269 := n0_; have HB := n1_; clear n0_ n1_; (try clear hb); (try clear hb2); (try clear hk); (try clear hi); have hcz17_0 : w16.cell? ⟨gb269, 0, none⟩ = some (.int .i64 a0_0) := (blk_cell BK269.out 0).trans rfl; have hcz17_1 : w16.cell? ⟨gb269, 1, none⟩ = some (.string a0_1) := (blk_cell BK269.out 1).trans rfl; have hcz17_2 : w16.cell? ⟨gb269, 2, none⟩ = some (.slice A0_2 l0_2.length c0_2) := (blk_cell BK269.out 2).trans rfl; have hcz17_3 : w16.cell? ⟨gb269, 3, none⟩ = some (.slice A0_3 l0_3.length c0_3) := (blk_cell BK269.out 3).trans rfl; have hcz17_4 : w16.cell? ⟨gb269, 4, none⟩ = some (.int .i64 a0_4) := (blk_cell BK269.out 4).trans rfl; have hcz17_5 : w16.cell? ⟨gb269, 5, none⟩ = some (.string a0_5) := (blk_cell BK269.out 5).trans rfl; have hcz17_6 : w16.cell? ⟨gb269, 6, none⟩ = some (.slice A0_6 l0_6.length c0_6) := (blk_cell BK269.out 6).trans rfl; have hcz17_7 : w16.cell? ⟨gb269, 7, none⟩ = some (.slice A0_7 l0_7.length c0_7) := (blk_cell BK269.out 7).trans rfl; have hcz17_8 : w16.cell? ⟨gb269, 8, none⟩ = some (.int .i64 a0_8) := (blk_cell BK269.out 8).trans rfl; have hcz17_9 : w16.cell? ⟨gb269, 9, none⟩ = some (.string a0_9) := (blk_cell BK269.out 9).trans rfl; have hcz17_10 : w16.cell? ⟨gb269, 10, none⟩ = some (.slice A0_10 l0_10.length c0_10) := (blk_cell BK269.out 10).trans rfl; have hcz17_11 : w16.cell? ⟨gb269, 11, none⟩ = some (.slice A0_11 l0_11.length c0_11) := (blk_cell BK269.out 11).trans rfl; have hcz17_12 : w16.cell? ⟨gb269, 12, none⟩ = some (.slice A0_12 l0_12.length c0_12) := (blk_cell BK269.out 12).trans rfl; have hcz17_13 : w16.cell? ⟨gb269, 13, none⟩ = some (.slice A0_13 l0_13.length c0_13) := (blk_cell BK269.out 13).trans rfl; have hcz17_14 : w16.cell? ⟨gb269, 14, none⟩ = some (.slice A0_14 l0_14.length c0_14) := (blk_cell BK269.out 14).trans rfl; have hcz17_15 : w16.cell? ⟨gb269, 15, none⟩ = some (.int .i64 a0_15) := (blk_cell BK269.out 15).trans rfl; have hfz17_0 := blk_frozen BK269.out 0; have hfz17_1 := blk_frozen BK269.out 1; have hfz17_2 := blk_frozen BK269.out 2; have hfz17_3 := blk_frozen BK269.out 3; have hfz17_4 := blk_frozen BK269.out 4; have hfz17_5 := blk_frozen BK269.out 5; have hfz17_6 := blk_frozen BK269.out 6; have hfz17_7 := blk_frozen BK269.out 7; have hfz17_8 := blk_frozen BK269.out 8; have hfz17_9 := blk_frozen BK269.out 9; have hfz17_10 := blk_frozen BK269.out 10; have hfz17_11 := blk_frozen BK269.out 11; have hfz17_12 := blk_frozen BK269.out 12; have hfz17_13 := blk_frozen BK269.out 13; have hfz17_14 := blk_frozen BK269.out 14; have hfz17_15 := blk_frozen BK269.out 15))
            go_ret
            exact ⟨by first | rfl | (simp [errW_none, errW_some] <;> rfl) | (simp [*, errW_none, errW_some] <;> rfl), by repeat (first | (with_reducible first | exact HB.out | apply below_alloc | apply pw_below_drewN | apply below_drew1 | refine below_set ?_ GE269.out) | exact HB.out)⟩
          · rw [if_neg c9] at H
            have c9b0 : decide ((l0_13.length : Int) ≤ 60) = false := decide_eq_false c9
            have c9b1 : decide (l0_13.length ≤ 60) = false := decide_eq_false (by omega)
            clear c9
            obtain rfl := Option.some.inj H
            go_enter Try.func16, Try.ntmps16
            go_wp2_with (first | ((with_reducible refine gate_dst (N := 1) rfl ?_); (try (refine gate_guard (by rfl) ?_; dsimp only)); refine box_event ?hg (N := 1) ?hd (cs := #[.int .i64 a0_0, .string a0_1, .slice A0_2 l0_2.length c0_2, .slice A0_3 l0_3.length c0_3, .int .i64 a0_4, .string a0_5, .slice A0_6 l0_6.length c0_6, .slice A0_7 l0_7.length c0_7, .int .i64 a0_8, .string a0_9, .slice A0_10 l0_10.length c0_10, .slice A0_11 l0_11.length c0_11, .slice A0_12 l0_12.length c0_12, .slice A0_13 l0_13.length c0_13, .slice A0_14 l0_14.length c0_14, .int .i64 a0_15]) (t := 42) ?hr ?_; (case hd => rfl); (case hg => rfl); (case hr => first | (go_simp; done) | (go_simp; rfl) | (obtain ⟨_, _, rfl⟩ := Kd.R_slice (Aside0.out (by assumption : Aside0 (Kd.R _ _ _ _ _ _ _))); go_simp; done)); intro gb269 hg w18 hbox hb; have n0_ := Aside0.mk (below_step (by repeat (first | (with_reducible first | exact HB.out | apply below_alloc | apply pw_below_drewN | apply below_drew1) | exact HB.out)) hb); have n1_ := Aside0.mk (hbox); have n2_ := Aside0.mk ((by rw [hg]; exact (below_size (by repeat (first | (with_reducible first | exact HB.out | apply below_alloc | apply pw_below_drewN | apply below_drew1) | exact HB.out))) : w.heap.size ≤ gb269)); have n3_ := Aside0.mk ((by rw [hg]; exact (below_size (by repeat (first | (with_reducible first | exact HB.out | apply below_alloc | apply pw_below_drewN | apply below_drew1) | exact HB.out))) : w.heap.size ≤ gb269)); clear HB; have HB := n0_; have BK269 := n1_; have GW269 := n2_; have GE269 := n3_; clear n0_ n1_ n2_ n3_; clear hb hbox hg; have hcz19_0 : w18.cell? ⟨gb269, 0, none⟩ = some (.int .i64 a0_0) := (blk_cell BK269.out 0).trans rfl; have hcz19_1 : w18.cell? ⟨gb269, 1, none⟩ = some (.string a0_1) := (blk_cell BK269.out 1).trans rfl; have hcz19_2 : w18.cell? ⟨gb269, 2, none⟩ = some (.slice A0_2 l0_2.length c0_2) := (blk_cell BK269.out 2).trans rfl; have hcz19_3 : w18.cell? ⟨gb269, 3, none⟩ = some (.slice A0_3 l0_3.length c0_3) := (blk_cell BK269.out 3).trans rfl; have hcz19_4 : w18.cell? ⟨gb269, 4, none⟩ = some (.int .i64 a0_4) := (blk_cell BK269.out 4).trans rfl; have hcz19_5 : w18.cell? ⟨gb269, 5, none⟩ = some (.string a0_5) := (blk_cell BK269.out 5).trans rfl; have hcz19_6 : w18.cell? ⟨gb269, 6, none⟩ = some (.slice A0_6 l0_6.length c0_6) := (blk_cell BK269.out 6).trans rfl; have hcz19_7 : w18.cell? ⟨gb269, 7, none⟩ = some (.slice A0_7 l0_7.length c0_7) := (blk_cell BK269.out 7).trans rfl; have hcz19_8 : w18.cell? ⟨gb269, 8, none⟩ = some (.int .i64 a0_8) := (blk_cell BK269.out 8).trans rfl; have hcz19_9 : w18.cell? ⟨gb269, 9, none⟩ = some (.string a0_9) := (blk_cell BK269.out 9).trans rfl; have hcz19_10 : w18.cell? ⟨gb269, 10, none⟩ = some (.slice A0_10 l0_10.length c0_10) := (blk_cell BK269.out 10).trans rfl; have hcz19_11 : w18.cell? ⟨gb269, 11, none⟩ = some (.slice A0_11 l0_11.length c0_11) := (blk_cell BK269.out 11).trans rfl; have hcz19_12 : w18.cell? ⟨gb269, 12, none⟩ = some (.slice A0_12 l0_12.length c0_12) := (blk_cell BK269.out 12).trans rfl; have hcz19_13 : w18.cell? ⟨gb269, 13, none⟩ = some (.slice A0_13 l0_13.length c0_13) := (blk_cell BK269.out 13).trans rfl; have hcz19_14 : w18.cell? ⟨gb269, 14, none⟩ = some (.slice A0_14 l0_14.length c0_14) := (blk_cell BK269.out 14).trans rfl; have hcz19_15 : w18.cell? ⟨gb269, 15, none⟩ = some (.int .i64 a0_15) := (blk_cell BK269.out 15).trans rfl; have hfz19_0 := blk_frozen BK269.out 0; have hfz19_1 := blk_frozen BK269.out 1; have hfz19_2 := blk_frozen BK269.out 2; have hfz19_3 := blk_frozen BK269.out 3; have hfz19_4 := blk_frozen BK269.out 4; have hfz19_5 := blk_frozen BK269.out 5; have hfz19_6 := blk_frozen BK269.out 6; have hfz19_7 := blk_frozen BK269.out 7; have hfz19_8 := blk_frozen BK269.out 8; have hfz19_9 := blk_frozen BK269.out 9; have hfz19_10 := blk_frozen BK269.out 10; have hfz19_11 := blk_frozen BK269.out 11; have hfz19_12 := blk_frozen BK269.out 12; have hfz19_13 := blk_frozen BK269.out 13; have hfz19_14 := blk_frozen BK269.out 14; have hfz19_15 := blk_frozen BK269.out 15) | ((with_reducible refine gate_callee (f := 21) rfl ?_); refine goesL_ (some 5) rfl rfl Try.func21 (by kernel_rfl) rfl #[.agg #[.int .i64 a0_0, .string a0_1, .slice A0_2 l0_2.length c0_2, .slice A0_3 l0_3.length c0_3]] rfl (by (try simp only [List.map_toArray, List.map_cons, List.map_nil]); first | done | rfl | (simp only [List.length_drop, List.length_take]; rfl)) ?_; (with_reducible refine (treemergelaw31_small.calls k a0_0 a0_1 _ _ l0_2 _ _ l0_3 true _ ?side1 ?side2 ?side3 ?side4 A2.out).mono ?_); (case side1 => repeat (first | exact (Kd.C_below HR0_2.out HB.out) | (with_reducible refine Kd.C_alloc ?_ _) | (with_reducible refine Kd.C_drewN ?_ _) | (with_reducible refine Kd.C_drew ?_))); (case side2 => exact HC0_2.out); (case side3 => repeat (first | exact (Kd.C_below HR0_3.out HB.out) | (with_reducible refine Kd.C_alloc ?_ _) | (with_reducible refine Kd.C_drewN ?_ _) | (with_reducible refine Kd.C_drew ?_))); (case side4 => exact HC0_3.out); rintro e w20 ⟨rfl, hb⟩; refine ⟨_, rfl, ?_⟩; have n0_ := Aside0.mk (blk_below (g := gb269) (o := .cells #[.int .i64 a0_0, .string a0_1, .slice A0_2 l0_2.length c0_2, .slice A0_3 l0_3.length c0_3, .int .i64 a0_4, .string a0_5, .slice A0_6 l0_6.length c0_6, .slice A0_7 l0_7.length c0_7, .int .i64 a0_8, .string a0_9, .slice A0_10 l0_10.length c0_10, .slice A0_11 l0_11.length c0_11, .slice A0_12 l0_12.length c0_12, .slice A0_13 l0_13.length c0_13, .slice A0_14 l0_14.length c0_14, .int .i64 a0_15] 42 (0, 0)) (by (with_reducible repeat (first | refine blk_drewN ?_ _ | refine blk_drew ?_ | refine blk_alloc ?_ _)); exact BK269.out) hb); have n1_ := Aside0.mk (below_step (by repeat (first | (with_reducible first | exact HB.out | apply below_alloc | apply pw_below_drewN | apply below_drew1 | refine below_set ?_ GE269.out) | exact HB.out)) hb); clear BK269; clear HB; have BK269 := n0_; have HB := n1_; clear n0_ n1_; (try clear hb); (try clear hb2); (try clear hk); (try clear hi); have hcz21_0 : w20.cell? ⟨gb269, 0, none⟩ = some (.int .i64 a0_0) := (blk_cell BK269.out 0).trans rfl; have hcz21_1 : w20.cell? ⟨gb269, 1, none⟩ = some (.string a0_1) := (blk_cell BK269.out 1).trans rfl; have hcz21_2 : w20.cell? ⟨gb269, 2, none⟩ = some (.slice A0_2 l0_2.length c0_2) := (blk_cell BK269.out 2).trans rfl; have hcz21_3 : w20.cell? ⟨gb269, 3, none⟩ = some (.slice A0_3 l0_3.length c0_3) := (blk_cell BK269.out 3).trans rfl; have hcz21_4 : w20.cell? ⟨gb269, 4, none⟩ = some (.int .i64 a0_4) := (blk_cell BK269.out 4).trans rfl; have hcz21_5 : w20.cell? ⟨gb269, 5, none⟩ = some (.string a0_5) := (blk_cell BK269.out 5).trans rfl; have hcz21_6 : w20.cell? ⟨gb269, 6, none⟩ = some (.slice A0_6 l0_6.length c0_6) := (blk_cell BK269.out 6).trans rfl; have hcz21_7 : w20.cell? ⟨gb269, 7, none⟩ = some (.slice A0_7 l0_7.length c0_7) := (blk_cell BK269.out 7).trans rfl; have hcz21_8 : w20.cell? ⟨gb269, 8, none⟩ = some (.int .i64 a0_8) := (blk_cell BK269.out 8).trans rfl; have hcz21_9 : w20.cell? ⟨gb269, 9, none⟩ = some (.string a0_9) := (blk_cell BK269.out 9).trans rfl; have hcz21_10 : w20.cell? ⟨gb269, 10, none⟩ = some (.slice A0_10 l0_10.length c0_10) := (blk_cell BK269.out 10).trans rfl; have hcz21_11 : w20.cell? ⟨gb269, 11, none⟩ = some (.slice A0_11 l0_11.length c0_11) := (blk_cell BK269.out 11).trans rfl; have hcz21_12 : w20.cell? ⟨gb269, 12, none⟩ = some (.slice A0_12 l0_12.length c0_12) := (blk_cell BK269.out 12).trans rfl; have hcz21_13 : w20.cell? ⟨gb269, 13, none⟩ = some (.slice A0_13 l0_13.length c0_13) := (blk_cell BK269.out 13).trans rfl; have hcz21_14 : w20.cell? ⟨gb269, 14, none⟩ = some (.slice A0_14 l0_14.length c0_14) := (blk_cell BK269.out 14).trans rfl; have hcz21_15 : w20.cell? ⟨gb269, 15, none⟩ = some (.int .i64 a0_15) := (blk_cell BK269.out 15).trans rfl; have hfz21_0 := blk_frozen BK269.out 0; have hfz21_1 := blk_frozen BK269.out 1; have hfz21_2 := blk_frozen BK269.out 2; have hfz21_3 := blk_frozen BK269.out 3; have hfz21_4 := blk_frozen BK269.out 4; have hfz21_5 := blk_frozen BK269.out 5; have hfz21_6 := blk_frozen BK269.out 6; have hfz21_7 := blk_frozen BK269.out 7; have hfz21_8 := blk_frozen BK269.out 8; have hfz21_9 := blk_frozen BK269.out 9; have hfz21_10 := blk_frozen BK269.out 10; have hfz21_11 := blk_frozen BK269.out 11; have hfz21_12 := blk_frozen BK269.out 12; have hfz21_13 := blk_frozen BK269.out 13; have hfz21_14 := blk_frozen BK269.out 14; have hfz21_15 := blk_frozen BK269.out 15) | (go_at_call 21; (with_reducible refine (treemergelaw31_small.calls k a0_4 a0_5 _ _ l0_6 _ _ l0_7 true _ ?side1 ?side2 ?side3 ?side4 A4.out).mono ?_); (case side1 => repeat (first | exact (Kd.C_below HR0_6.out HB.out) | (with_reducible refine Kd.C_alloc ?_ _) | (with_reducible refine Kd.C_drewN ?_ _) | (with_reducible refine Kd.C_drew ?_))); (case side2 => exact HC0_6.out); (case side3 => repeat (first | exact (Kd.C_below HR0_7.out HB.out) | (with_reducible refine Kd.C_alloc ?_ _) | (with_reducible refine Kd.C_drewN ?_ _) | (with_reducible refine Kd.C_drew ?_))); (case side4 => exact HC0_7.out); rintro e w22 ⟨rfl, hb⟩; have n0_ := Aside0.mk (blk_below (g := gb269) (o := .cells #[.int .i64 a0_0, .string a0_1, .slice A0_2 l0_2.length c0_2, .slice A0_3 l0_3.length c0_3, .int .i64 a0_4, .string a0_5, .slice A0_6 l0_6.length c0_6, .slice A0_7 l0_7.length c0_7, .int .i64 a0_8, .string a0_9, .slice A0_10 l0_10.length c0_10, .slice A0_11 l0_11.length c0_11, .slice A0_12 l0_12.length c0_12, .slice A0_13 l0_13.length c0_13, .slice A0_14 l0_14.length c0_14, .int .i64 a0_15] 42 (0, 0)) (by (with_reducible repeat (first | refine blk_drewN ?_ _ | refine blk_drew ?_ | refine blk_alloc ?_ _)); exact BK269.out) hb); have n1_ := Aside0.mk (below_step (by repeat (first | (with_reducible first | exact HB.out | apply below_alloc | apply pw_below_drewN | apply below_drew1 | refine below_set ?_ GE269.out) | exact HB.out)) hb); clear BK269; clear HB; have BK269 := n0_; have HB := n1_; clear n0_ n1_; (try clear hb); (try clear hb2); (try clear hk); (try clear hi); have hcz23_0 : w22.cell? ⟨gb269, 0, none⟩ = some (.int .i64 a0_0) := (blk_cell BK269.out 0).trans rfl; have hcz23_1 : w22.cell? ⟨gb269, 1, none⟩ = some (.string a0_1) := (blk_cell BK269.out 1).trans rfl; have hcz23_2 : w22.cell? ⟨gb269, 2, none⟩ = some (.slice A0_2 l0_2.length c0_2) := (blk_cell BK269.out 2).trans rfl; have hcz23_3 : w22.cell? ⟨gb269, 3, none⟩ = some (.slice A0_3 l0_3.length c0_3) := (blk_cell BK269.out 3).trans rfl; have hcz23_4 : w22.cell? ⟨gb269, 4, none⟩ = some (.int .i64 a0_4) := (blk_cell BK269.out 4).trans rfl; have hcz23_5 : w22.cell? ⟨gb269, 5, none⟩ = some (.string a0_5) := (blk_cell BK269.out 5).trans rfl; have hcz23_6 : w22.cell? ⟨gb269, 6, none⟩ = some (.slice A0_6 l0_6.length c0_6) := (blk_cell BK269.out 6).trans rfl; have hcz23_7 : w22.cell? ⟨gb269, 7, none⟩ = some (.slice A0_7 l0_7.length c0_7) := (blk_cell BK269.out 7).trans rfl; have hcz23_8 : w22.cell? ⟨gb269, 8, none⟩ = some (.int .i64 a0_8) := (blk_cell BK269.out 8).trans rfl; have hcz23_9 : w22.cell? ⟨gb269, 9, none⟩ = some (.string a0_9) := (blk_cell BK269.out 9).trans rfl; have hcz23_10 : w22.cell? ⟨gb269, 10, none⟩ = some (.slice A0_10 l0_10.length c0_10) := (blk_cell BK269.out 10).trans rfl; have hcz23_11 : w22.cell? ⟨gb269, 11, none⟩ = some (.slice A0_11 l0_11.length c0_11) := (blk_cell BK269.out 11).trans rfl; have hcz23_12 : w22.cell? ⟨gb269, 12, none⟩ = some (.slice A0_12 l0_12.length c0_12) := (blk_cell BK269.out 12).trans rfl; have hcz23_13 : w22.cell? ⟨gb269, 13, none⟩ = some (.slice A0_13 l0_13.length c0_13) := (blk_cell BK269.out 13).trans rfl; have hcz23_14 : w22.cell? ⟨gb269, 14, none⟩ = some (.slice A0_14 l0_14.length c0_14) := (blk_cell BK269.out 14).trans rfl; have hcz23_15 : w22.cell? ⟨gb269, 15, none⟩ = some (.int .i64 a0_15) := (blk_cell BK269.out 15).trans rfl; have hfz23_0 := blk_frozen BK269.out 0; have hfz23_1 := blk_frozen BK269.out 1; have hfz23_2 := blk_frozen BK269.out 2; have hfz23_3 := blk_frozen BK269.out 3; have hfz23_4 := blk_frozen BK269.out 4; have hfz23_5 := blk_frozen BK269.out 5; have hfz23_6 := blk_frozen BK269.out 6; have hfz23_7 := blk_frozen BK269.out 7; have hfz23_8 := blk_frozen BK269.out 8; have hfz23_9 := blk_frozen BK269.out 9; have hfz23_10 := blk_frozen BK269.out 10; have hfz23_11 := blk_frozen BK269.out 11; have hfz23_12 := blk_frozen BK269.out 12; have hfz23_13 := blk_frozen BK269.out 13; have hfz23_14 := blk_frozen BK269.out 14; have hfz23_15 := blk_frozen BK269.out 15) | (go_at_call 21; (with_reducible refine (treemergelaw31_small.calls k a0_8 a0_9 _ _ l0_10 _ _ l0_11 true _ ?side1 ?side2 ?side3 ?side4 A6.out).mono ?_); (case side1 => repeat (first | exact (Kd.C_below HR0_10.out HB.out) | (with_reducible refine Kd.C_alloc ?_ _) | (with_reducible refine Kd.C_drewN ?_ _) | (with_reducible refine Kd.C_drew ?_))); (case side2 => exact HC0_10.out); (case side3 => repeat (first | exact (Kd.C_below HR0_11.out HB.out) | (with_reducible refine Kd.C_alloc ?_ _) | (with_reducible refine Kd.C_drewN ?_ _) | (with_reducible refine Kd.C_drew ?_))); (case side4 => exact HC0_11.out); rintro e w24 ⟨rfl, hb⟩; have n0_ := Aside0.mk (blk_below (g := gb269) (o := .cells #[.int .i64 a0_0, .string a0_1, .slice A0_2 l0_2.length c0_2, .slice A0_3 l0_3.length c0_3, .int .i64 a0_4, .string a0_5, .slice A0_6 l0_6.length c0_6, .slice A0_7 l0_7.length c0_7, .int .i64 a0_8, .string a0_9, .slice A0_10 l0_10.length c0_10, .slice A0_11 l0_11.length c0_11, .slice A0_12 l0_12.length c0_12, .slice A0_13 l0_13.length c0_13, .slice A0_14 l0_14.length c0_14, .int .i64 a0_15] 42 (0, 0)) (by (with_reducible repeat (first | refine blk_drewN ?_ _ | refine blk_drew ?_ | refine blk_alloc ?_ _)); exact BK269.out) hb); have n1_ := Aside0.mk (below_step (by repeat (first | (with_reducible first | exact HB.out | apply below_alloc | apply pw_below_drewN | apply below_drew1 | refine below_set ?_ GE269.out) | exact HB.out)) hb); clear BK269; clear HB; have BK269 := n0_; have HB := n1_; clear n0_ n1_; (try clear hb); (try clear hb2); (try clear hk); (try clear hi); have hcz25_0 : w24.cell? ⟨gb269, 0, none⟩ = some (.int .i64 a0_0) := (blk_cell BK269.out 0).trans rfl; have hcz25_1 : w24.cell? ⟨gb269, 1, none⟩ = some (.string a0_1) := (blk_cell BK269.out 1).trans rfl; have hcz25_2 : w24.cell? ⟨gb269, 2, none⟩ = some (.slice A0_2 l0_2.length c0_2) := (blk_cell BK269.out 2).trans rfl; have hcz25_3 : w24.cell? ⟨gb269, 3, none⟩ = some (.slice A0_3 l0_3.length c0_3) := (blk_cell BK269.out 3).trans rfl; have hcz25_4 : w24.cell? ⟨gb269, 4, none⟩ = some (.int .i64 a0_4) := (blk_cell BK269.out 4).trans rfl; have hcz25_5 : w24.cell? ⟨gb269, 5, none⟩ = some (.string a0_5) := (blk_cell BK269.out 5).trans rfl; have hcz25_6 : w24.cell? ⟨gb269, 6, none⟩ = some (.slice A0_6 l0_6.length c0_6) := (blk_cell BK269.out 6).trans rfl; have hcz25_7 : w24.cell? ⟨gb269, 7, none⟩ = some (.slice A0_7 l0_7.length c0_7) := (blk_cell BK269.out 7).trans rfl; have hcz25_8 : w24.cell? ⟨gb269, 8, none⟩ = some (.int .i64 a0_8) := (blk_cell BK269.out 8).trans rfl; have hcz25_9 : w24.cell? ⟨gb269, 9, none⟩ = some (.string a0_9) := (blk_cell BK269.out 9).trans rfl; have hcz25_10 : w24.cell? ⟨gb269, 10, none⟩ = some (.slice A0_10 l0_10.length c0_10) := (blk_cell BK269.out 10).trans rfl; have hcz25_11 : w24.cell? ⟨gb269, 11, none⟩ = some (.slice A0_11 l0_11.length c0_11) := (blk_cell BK269.out 11).trans rfl; have hcz25_12 : w24.cell? ⟨gb269, 12, none⟩ = some (.slice A0_12 l0_12.length c0_12) := (blk_cell BK269.out 12).trans rfl; have hcz25_13 : w24.cell? ⟨gb269, 13, none⟩ = some (.slice A0_13 l0_13.length c0_13) := (blk_cell BK269.out 13).trans rfl; have hcz25_14 : w24.cell? ⟨gb269, 14, none⟩ = some (.slice A0_14 l0_14.length c0_14) := (blk_cell BK269.out 14).trans rfl; have hcz25_15 : w24.cell? ⟨gb269, 15, none⟩ = some (.int .i64 a0_15) := (blk_cell BK269.out 15).trans rfl; have hfz25_0 := blk_frozen BK269.out 0; have hfz25_1 := blk_frozen BK269.out 1; have hfz25_2 := blk_frozen BK269.out 2; have hfz25_3 := blk_frozen BK269.out 3; have hfz25_4 := blk_frozen BK269.out 4; have hfz25_5 := blk_frozen BK269.out 5; have hfz25_6 := blk_frozen BK269.out 6; have hfz25_7 := blk_frozen BK269.out 7; have hfz25_8 := blk_frozen BK269.out 8; have hfz25_9 := blk_frozen BK269.out 9; have hfz25_10 := blk_frozen BK269.out 10; have hfz25_11 := blk_frozen BK269.out 11; have hfz25_12 := blk_frozen BK269.out 12; have hfz25_13 := blk_frozen BK269.out 13; have hfz25_14 := blk_frozen BK269.out 14; have hfz25_15 := blk_frozen BK269.out 15))
            go_ret
            exact ⟨by first | rfl | (simp [errW_none, errW_some] <;> rfl) | (simp [*, errW_none, errW_some] <;> rfl), by repeat (first | (with_reducible first | exact HB.out | apply below_alloc | apply pw_below_drewN | apply below_drew1 | refine below_set ?_ GE269.out) | exact HB.out)⟩
        · rw [if_neg c8] at H
          have c8b0 : decide ((l0_12.length : Int) ≤ 60) = false := decide_eq_false c8
          have c8b1 : decide (l0_12.length ≤ 60) = false := decide_eq_false (by omega)
          clear c8
          obtain rfl := Option.some.inj H
          go_enter Try.func16, Try.ntmps16
          go_wp2_with (first | ((with_reducible refine gate_dst (N := 1) rfl ?_); (try (refine gate_guard (by rfl) ?_; dsimp only)); refine box_event ?hg (N := 1) ?hd (cs := #[.int .i64 a0_0, .string a0_1, .slice A0_2 l0_2.length c0_2, .slice A0_3 l0_3.length c0_3, .int .i64 a0_4, .string a0_5, .slice A0_6 l0_6.length c0_6, .slice A0_7 l0_7.length c0_7, .int .i64 a0_8, .string a0_9, .slice A0_10 l0_10.length c0_10, .slice A0_11 l0_11.length c0_11, .slice A0_12 l0_12.length c0_12, .slice A0_13 l0_13.length c0_13, .slice A0_14 l0_14.length c0_14, .int .i64 a0_15]) (t := 42) ?hr ?_; (case hd => rfl); (case hg => rfl); (case hr => first | (go_simp; done) | (go_simp; rfl) | (obtain ⟨_, _, rfl⟩ := Kd.R_slice (Aside0.out (by assumption : Aside0 (Kd.R _ _ _ _ _ _ _))); go_simp; done)); intro gb269 hg w26 hbox hb; have n0_ := Aside0.mk (below_step (by repeat (first | (with_reducible first | exact HB.out | apply below_alloc | apply pw_below_drewN | apply below_drew1) | exact HB.out)) hb); have n1_ := Aside0.mk (hbox); have n2_ := Aside0.mk ((by rw [hg]; exact (below_size (by repeat (first | (with_reducible first | exact HB.out | apply below_alloc | apply pw_below_drewN | apply below_drew1) | exact HB.out))) : w.heap.size ≤ gb269)); have n3_ := Aside0.mk ((by rw [hg]; exact (below_size (by repeat (first | (with_reducible first | exact HB.out | apply below_alloc | apply pw_below_drewN | apply below_drew1) | exact HB.out))) : w.heap.size ≤ gb269)); clear HB; have HB := n0_; have BK269 := n1_; have GW269 := n2_; have GE269 := n3_; clear n0_ n1_ n2_ n3_; clear hb hbox hg; have hcz27_0 : w26.cell? ⟨gb269, 0, none⟩ = some (.int .i64 a0_0) := (blk_cell BK269.out 0).trans rfl; have hcz27_1 : w26.cell? ⟨gb269, 1, none⟩ = some (.string a0_1) := (blk_cell BK269.out 1).trans rfl; have hcz27_2 : w26.cell? ⟨gb269, 2, none⟩ = some (.slice A0_2 l0_2.length c0_2) := (blk_cell BK269.out 2).trans rfl; have hcz27_3 : w26.cell? ⟨gb269, 3, none⟩ = some (.slice A0_3 l0_3.length c0_3) := (blk_cell BK269.out 3).trans rfl; have hcz27_4 : w26.cell? ⟨gb269, 4, none⟩ = some (.int .i64 a0_4) := (blk_cell BK269.out 4).trans rfl; have hcz27_5 : w26.cell? ⟨gb269, 5, none⟩ = some (.string a0_5) := (blk_cell BK269.out 5).trans rfl; have hcz27_6 : w26.cell? ⟨gb269, 6, none⟩ = some (.slice A0_6 l0_6.length c0_6) := (blk_cell BK269.out 6).trans rfl; have hcz27_7 : w26.cell? ⟨gb269, 7, none⟩ = some (.slice A0_7 l0_7.length c0_7) := (blk_cell BK269.out 7).trans rfl; have hcz27_8 : w26.cell? ⟨gb269, 8, none⟩ = some (.int .i64 a0_8) := (blk_cell BK269.out 8).trans rfl; have hcz27_9 : w26.cell? ⟨gb269, 9, none⟩ = some (.string a0_9) := (blk_cell BK269.out 9).trans rfl; have hcz27_10 : w26.cell? ⟨gb269, 10, none⟩ = some (.slice A0_10 l0_10.length c0_10) := (blk_cell BK269.out 10).trans rfl; have hcz27_11 : w26.cell? ⟨gb269, 11, none⟩ = some (.slice A0_11 l0_11.length c0_11) := (blk_cell BK269.out 11).trans rfl; have hcz27_12 : w26.cell? ⟨gb269, 12, none⟩ = some (.slice A0_12 l0_12.length c0_12) := (blk_cell BK269.out 12).trans rfl; have hcz27_13 : w26.cell? ⟨gb269, 13, none⟩ = some (.slice A0_13 l0_13.length c0_13) := (blk_cell BK269.out 13).trans rfl; have hcz27_14 : w26.cell? ⟨gb269, 14, none⟩ = some (.slice A0_14 l0_14.length c0_14) := (blk_cell BK269.out 14).trans rfl; have hcz27_15 : w26.cell? ⟨gb269, 15, none⟩ = some (.int .i64 a0_15) := (blk_cell BK269.out 15).trans rfl; have hfz27_0 := blk_frozen BK269.out 0; have hfz27_1 := blk_frozen BK269.out 1; have hfz27_2 := blk_frozen BK269.out 2; have hfz27_3 := blk_frozen BK269.out 3; have hfz27_4 := blk_frozen BK269.out 4; have hfz27_5 := blk_frozen BK269.out 5; have hfz27_6 := blk_frozen BK269.out 6; have hfz27_7 := blk_frozen BK269.out 7; have hfz27_8 := blk_frozen BK269.out 8; have hfz27_9 := blk_frozen BK269.out 9; have hfz27_10 := blk_frozen BK269.out 10; have hfz27_11 := blk_frozen BK269.out 11; have hfz27_12 := blk_frozen BK269.out 12; have hfz27_13 := blk_frozen BK269.out 13; have hfz27_14 := blk_frozen BK269.out 14; have hfz27_15 := blk_frozen BK269.out 15) | ((with_reducible refine gate_callee (f := 21) rfl ?_); refine goesL_ (some 5) rfl rfl Try.func21 (by kernel_rfl) rfl #[.agg #[.int .i64 a0_0, .string a0_1, .slice A0_2 l0_2.length c0_2, .slice A0_3 l0_3.length c0_3]] rfl (by (try simp only [List.map_toArray, List.map_cons, List.map_nil]); first | done | rfl | (simp only [List.length_drop, List.length_take]; rfl)) ?_; (with_reducible refine (treemergelaw31_small.calls k a0_0 a0_1 _ _ l0_2 _ _ l0_3 true _ ?side1 ?side2 ?side3 ?side4 A2.out).mono ?_); (case side1 => repeat (first | exact (Kd.C_below HR0_2.out HB.out) | (with_reducible refine Kd.C_alloc ?_ _) | (with_reducible refine Kd.C_drewN ?_ _) | (with_reducible refine Kd.C_drew ?_))); (case side2 => exact HC0_2.out); (case side3 => repeat (first | exact (Kd.C_below HR0_3.out HB.out) | (with_reducible refine Kd.C_alloc ?_ _) | (with_reducible refine Kd.C_drewN ?_ _) | (with_reducible refine Kd.C_drew ?_))); (case side4 => exact HC0_3.out); rintro e w28 ⟨rfl, hb⟩; refine ⟨_, rfl, ?_⟩; have n0_ := Aside0.mk (blk_below (g := gb269) (o := .cells #[.int .i64 a0_0, .string a0_1, .slice A0_2 l0_2.length c0_2, .slice A0_3 l0_3.length c0_3, .int .i64 a0_4, .string a0_5, .slice A0_6 l0_6.length c0_6, .slice A0_7 l0_7.length c0_7, .int .i64 a0_8, .string a0_9, .slice A0_10 l0_10.length c0_10, .slice A0_11 l0_11.length c0_11, .slice A0_12 l0_12.length c0_12, .slice A0_13 l0_13.length c0_13, .slice A0_14 l0_14.length c0_14, .int .i64 a0_15] 42 (0, 0)) (by (with_reducible repeat (first | refine blk_drewN ?_ _ | refine blk_drew ?_ | refine blk_alloc ?_ _)); exact BK269.out) hb); have n1_ := Aside0.mk (below_step (by repeat (first | (with_reducible first | exact HB.out | apply below_alloc | apply pw_below_drewN | apply below_drew1 | refine below_set ?_ GE269.out) | exact HB.out)) hb); clear BK269; clear HB; have BK269 := n0_; have HB := n1_; clear n0_ n1_; (try clear hb); (try clear hb2); (try clear hk); (try clear hi); have hcz29_0 : w28.cell? ⟨gb269, 0, none⟩ = some (.int .i64 a0_0) := (blk_cell BK269.out 0).trans rfl; have hcz29_1 : w28.cell? ⟨gb269, 1, none⟩ = some (.string a0_1) := (blk_cell BK269.out 1).trans rfl; have hcz29_2 : w28.cell? ⟨gb269, 2, none⟩ = some (.slice A0_2 l0_2.length c0_2) := (blk_cell BK269.out 2).trans rfl; have hcz29_3 : w28.cell? ⟨gb269, 3, none⟩ = some (.slice A0_3 l0_3.length c0_3) := (blk_cell BK269.out 3).trans rfl; have hcz29_4 : w28.cell? ⟨gb269, 4, none⟩ = some (.int .i64 a0_4) := (blk_cell BK269.out 4).trans rfl; have hcz29_5 : w28.cell? ⟨gb269, 5, none⟩ = some (.string a0_5) := (blk_cell BK269.out 5).trans rfl; have hcz29_6 : w28.cell? ⟨gb269, 6, none⟩ = some (.slice A0_6 l0_6.length c0_6) := (blk_cell BK269.out 6).trans rfl; have hcz29_7 : w28.cell? ⟨gb269, 7, none⟩ = some (.slice A0_7 l0_7.length c0_7) := (blk_cell BK269.out 7).trans rfl; have hcz29_8 : w28.cell? ⟨gb269, 8, none⟩ = some (.int .i64 a0_8) := (blk_cell BK269.out 8).trans rfl; have hcz29_9 : w28.cell? ⟨gb269, 9, none⟩ = some (.string a0_9) := (blk_cell BK269.out 9).trans rfl; have hcz29_10 : w28.cell? ⟨gb269, 10, none⟩ = some (.slice A0_10 l0_10.length c0_10) := (blk_cell BK269.out 10).trans rfl; have hcz29_11 : w28.cell? ⟨gb269, 11, none⟩ = some (.slice A0_11 l0_11.length c0_11) := (blk_cell BK269.out 11).trans rfl; have hcz29_12 : w28.cell? ⟨gb269, 12, none⟩ = some (.slice A0_12 l0_12.length c0_12) := (blk_cell BK269.out 12).trans rfl; have hcz29_13 : w28.cell? ⟨gb269, 13, none⟩ = some (.slice A0_13 l0_13.length c0_13) := (blk_cell BK269.out 13).trans rfl; have hcz29_14 : w28.cell? ⟨gb269, 14, none⟩ = some (.slice A0_14 l0_14.length c0_14) := (blk_cell BK269.out 14).trans rfl; have hcz29_15 : w28.cell? ⟨gb269, 15, none⟩ = some (.int .i64 a0_15) := (blk_cell BK269.out 15).trans rfl; have hfz29_0 := blk_frozen BK269.out 0; have hfz29_1 := blk_frozen BK269.out 1; have hfz29_2 := blk_frozen BK269.out 2; have hfz29_3 := blk_frozen BK269.out 3; have hfz29_4 := blk_frozen BK269.out 4; have hfz29_5 := blk_frozen BK269.out 5; have hfz29_6 := blk_frozen BK269.out 6; have hfz29_7 := blk_frozen BK269.out 7; have hfz29_8 := blk_frozen BK269.out 8; have hfz29_9 := blk_frozen BK269.out 9; have hfz29_10 := blk_frozen BK269.out 10; have hfz29_11 := blk_frozen BK269.out 11; have hfz29_12 := blk_frozen BK269.out 12; have hfz29_13 := blk_frozen BK269.out 13; have hfz29_14 := blk_frozen BK269.out 14; have hfz29_15 := blk_frozen BK269.out 15) | (go_at_call 21; (with_reducible refine (treemergelaw31_small.calls k a0_4 a0_5 _ _ l0_6 _ _ l0_7 true _ ?side1 ?side2 ?side3 ?side4 A4.out).mono ?_); (case side1 => repeat (first | exact (Kd.C_below HR0_6.out HB.out) | (with_reducible refine Kd.C_alloc ?_ _) | (with_reducible refine Kd.C_drewN ?_ _) | (with_reducible refine Kd.C_drew ?_))); (case side2 => exact HC0_6.out); (case side3 => repeat (first | exact (Kd.C_below HR0_7.out HB.out) | (with_reducible refine Kd.C_alloc ?_ _) | (with_reducible refine Kd.C_drewN ?_ _) | (with_reducible refine Kd.C_drew ?_))); (case side4 => exact HC0_7.out); rintro e w30 ⟨rfl, hb⟩; have n0_ := Aside0.mk (blk_below (g := gb269) (o := .cells #[.int .i64 a0_0, .string a0_1, .slice A0_2 l0_2.length c0_2, .slice A0_3 l0_3.length c0_3, .int .i64 a0_4, .string a0_5, .slice A0_6 l0_6.length c0_6, .slice A0_7 l0_7.length c0_7, .int .i64 a0_8, .string a0_9, .slice A0_10 l0_10.length c0_10, .slice A0_11 l0_11.length c0_11, .slice A0_12 l0_12.length c0_12, .slice A0_13 l0_13.length c0_13, .slice A0_14 l0_14.length c0_14, .int .i64 a0_15] 42 (0, 0)) (by (with_reducible repeat (first | refine blk_drewN ?_ _ | refine blk_drew ?_ | refine blk_alloc ?_ _)); exact BK269.out) hb); have n1_ := Aside0.mk (below_step (by repeat (first | (with_reducible first | exact HB.out | apply below_alloc | apply pw_below_drewN | apply below_drew1 | refine below_set ?_ GE269.out) | exact HB.out)) hb); clear BK269; clear HB; have BK269 := n0_; have HB := n1_; clear n0_ n1_; (try clear hb); (try clear hb2); (try clear hk); (try clear hi); have hcz31_0 : w30.cell? ⟨gb269, 0, none⟩ = some (.int .i64 a0_0) := (blk_cell BK269.out 0).trans rfl; have hcz31_1 : w30.cell? ⟨gb269, 1, none⟩ = some (.string a0_1) := (blk_cell BK269.out 1).trans rfl; have hcz31_2 : w30.cell? ⟨gb269, 2, none⟩ = some (.slice A0_2 l0_2.length c0_2) := (blk_cell BK269.out 2).trans rfl; have hcz31_3 : w30.cell? ⟨gb269, 3, none⟩ = some (.slice A0_3 l0_3.length c0_3) := (blk_cell BK269.out 3).trans rfl; have hcz31_4 : w30.cell? ⟨gb269, 4, none⟩ = some (.int .i64 a0_4) := (blk_cell BK269.out 4).trans rfl; have hcz31_5 : w30.cell? ⟨gb269, 5, none⟩ = some (.string a0_5) := (blk_cell BK269.out 5).trans rfl; have hcz31_6 : w30.cell? ⟨gb269, 6, none⟩ = some (.slice A0_6 l0_6.length c0_6) := (blk_cell BK269.out 6).trans rfl; have hcz31_7 : w30.cell? ⟨gb269, 7, none⟩ = some (.slice A0_7 l0_7.length c0_7) := (blk_cell BK269.out 7).trans rfl; have hcz31_8 : w30.cell? ⟨gb269, 8, none⟩ = some (.int .i64 a0_8) := (blk_cell BK269.out 8).trans rfl; have hcz31_9 : w30.cell? ⟨gb269, 9, none⟩ = some (.string a0_9) := (blk_cell BK269.out 9).trans rfl; have hcz31_10 : w30.cell? ⟨gb269, 10, none⟩ = some (.slice A0_10 l0_10.length c0_10) := (blk_cell BK269.out 10).trans rfl; have hcz31_11 : w30.cell? ⟨gb269, 11, none⟩ = some (.slice A0_11 l0_11.length c0_11) := (blk_cell BK269.out 11).trans rfl; have hcz31_12 : w30.cell? ⟨gb269, 12, none⟩ = some (.slice A0_12 l0_12.length c0_12) := (blk_cell BK269.out 12).trans rfl; have hcz31_13 : w30.cell? ⟨gb269, 13, none⟩ = some (.slice A0_13 l0_13.length c0_13) := (blk_cell BK269.out 13).trans rfl; have hcz31_14 : w30.cell? ⟨gb269, 14, none⟩ = some (.slice A0_14 l0_14.length c0_14) := (blk_cell BK269.out 14).trans rfl; have hcz31_15 : w30.cell? ⟨gb269, 15, none⟩ = some (.int .i64 a0_15) := (blk_cell BK269.out 15).trans rfl; have hfz31_0 := blk_frozen BK269.out 0; have hfz31_1 := blk_frozen BK269.out 1; have hfz31_2 := blk_frozen BK269.out 2; have hfz31_3 := blk_frozen BK269.out 3; have hfz31_4 := blk_frozen BK269.out 4; have hfz31_5 := blk_frozen BK269.out 5; have hfz31_6 := blk_frozen BK269.out 6; have hfz31_7 := blk_frozen BK269.out 7; have hfz31_8 := blk_frozen BK269.out 8; have hfz31_9 := blk_frozen BK269.out 9; have hfz31_10 := blk_frozen BK269.out 10; have hfz31_11 := blk_frozen BK269.out 11; have hfz31_12 := blk_frozen BK269.out 12; have hfz31_13 := blk_frozen BK269.out 13; have hfz31_14 := blk_frozen BK269.out 14; have hfz31_15 := blk_frozen BK269.out 15) | (go_at_call 21; (with_reducible refine (treemergelaw31_small.calls k a0_8 a0_9 _ _ l0_10 _ _ l0_11 true _ ?side1 ?side2 ?side3 ?side4 A6.out).mono ?_); (case side1 => repeat (first | exact (Kd.C_below HR0_10.out HB.out) | (with_reducible refine Kd.C_alloc ?_ _) | (with_reducible refine Kd.C_drewN ?_ _) | (with_reducible refine Kd.C_drew ?_))); (case side2 => exact HC0_10.out); (case side3 => repeat (first | exact (Kd.C_below HR0_11.out HB.out) | (with_reducible refine Kd.C_alloc ?_ _) | (with_reducible refine Kd.C_drewN ?_ _) | (with_reducible refine Kd.C_drew ?_))); (case side4 => exact HC0_11.out); rintro e w32 ⟨rfl, hb⟩; have n0_ := Aside0.mk (blk_below (g := gb269) (o := .cells #[.int .i64 a0_0, .string a0_1, .slice A0_2 l0_2.length c0_2, .slice A0_3 l0_3.length c0_3, .int .i64 a0_4, .string a0_5, .slice A0_6 l0_6.length c0_6, .slice A0_7 l0_7.length c0_7, .int .i64 a0_8, .string a0_9, .slice A0_10 l0_10.length c0_10, .slice A0_11 l0_11.length c0_11, .slice A0_12 l0_12.length c0_12, .slice A0_13 l0_13.length c0_13, .slice A0_14 l0_14.length c0_14, .int .i64 a0_15] 42 (0, 0)) (by (with_reducible repeat (first | refine blk_drewN ?_ _ | refine blk_drew ?_ | refine blk_alloc ?_ _)); exact BK269.out) hb); have n1_ := Aside0.mk (below_step (by repeat (first | (with_reducible first | exact HB.out | apply below_alloc | apply pw_below_drewN | apply below_drew1 | refine below_set ?_ GE269.out) | exact HB.out)) hb); clear BK269; clear HB; have BK269 := n0_; have HB := n1_; clear n0_ n1_; (try clear hb); (try clear hb2); (try clear hk); (try clear hi); have hcz33_0 : w32.cell? ⟨gb269, 0, none⟩ = some (.int .i64 a0_0) := (blk_cell BK269.out 0).trans rfl; have hcz33_1 : w32.cell? ⟨gb269, 1, none⟩ = some (.string a0_1) := (blk_cell BK269.out 1).trans rfl; have hcz33_2 : w32.cell? ⟨gb269, 2, none⟩ = some (.slice A0_2 l0_2.length c0_2) := (blk_cell BK269.out 2).trans rfl; have hcz33_3 : w32.cell? ⟨gb269, 3, none⟩ = some (.slice A0_3 l0_3.length c0_3) := (blk_cell BK269.out 3).trans rfl; have hcz33_4 : w32.cell? ⟨gb269, 4, none⟩ = some (.int .i64 a0_4) := (blk_cell BK269.out 4).trans rfl; have hcz33_5 : w32.cell? ⟨gb269, 5, none⟩ = some (.string a0_5) := (blk_cell BK269.out 5).trans rfl; have hcz33_6 : w32.cell? ⟨gb269, 6, none⟩ = some (.slice A0_6 l0_6.length c0_6) := (blk_cell BK269.out 6).trans rfl; have hcz33_7 : w32.cell? ⟨gb269, 7, none⟩ = some (.slice A0_7 l0_7.length c0_7) := (blk_cell BK269.out 7).trans rfl; have hcz33_8 : w32.cell? ⟨gb269, 8, none⟩ = some (.int .i64 a0_8) := (blk_cell BK269.out 8).trans rfl; have hcz33_9 : w32.cell? ⟨gb269, 9, none⟩ = some (.string a0_9) := (blk_cell BK269.out 9).trans rfl; have hcz33_10 : w32.cell? ⟨gb269, 10, none⟩ = some (.slice A0_10 l0_10.length c0_10) := (blk_cell BK269.out 10).trans rfl; have hcz33_11 : w32.cell? ⟨gb269, 11, none⟩ = some (.slice A0_11 l0_11.length c0_11) := (blk_cell BK269.out 11).trans rfl; have hcz33_12 : w32.cell? ⟨gb269, 12, none⟩ = some (.slice A0_12 l0_12.length c0_12) := (blk_cell BK269.out 12).trans rfl; have hcz33_13 : w32.cell? ⟨gb269, 13, none⟩ = some (.slice A0_13 l0_13.length c0_13) := (blk_cell BK269.out 13).trans rfl; have hcz33_14 : w32.cell? ⟨gb269, 14, none⟩ = some (.slice A0_14 l0_14.length c0_14) := (blk_cell BK269.out 14).trans rfl; have hcz33_15 : w32.cell? ⟨gb269, 15, none⟩ = some (.int .i64 a0_15) := (blk_cell BK269.out 15).trans rfl; have hfz33_0 := blk_frozen BK269.out 0; have hfz33_1 := blk_frozen BK269.out 1; have hfz33_2 := blk_frozen BK269.out 2; have hfz33_3 := blk_frozen BK269.out 3; have hfz33_4 := blk_frozen BK269.out 4; have hfz33_5 := blk_frozen BK269.out 5; have hfz33_6 := blk_frozen BK269.out 6; have hfz33_7 := blk_frozen BK269.out 7; have hfz33_8 := blk_frozen BK269.out 8; have hfz33_9 := blk_frozen BK269.out 9; have hfz33_10 := blk_frozen BK269.out 10; have hfz33_11 := blk_frozen BK269.out 11; have hfz33_12 := blk_frozen BK269.out 12; have hfz33_13 := blk_frozen BK269.out 13; have hfz33_14 := blk_frozen BK269.out 14; have hfz33_15 := blk_frozen BK269.out 15))
          go_ret
          exact ⟨by first | rfl | (simp [errW_none, errW_some] <;> rfl) | (simp [*, errW_none, errW_some] <;> rfl), by repeat (first | (with_reducible first | exact HB.out | apply below_alloc | apply pw_below_drewN | apply below_drew1 | refine below_set ?_ GE269.out) | exact HB.out)⟩
      · replace c7 := Bool.eq_false_iff.mpr c7
        subst c7
        have H1 : (some false) = some r := by rw [if_neg (show ¬ (false = true) by decide)] at H; exact H
        clear H
        have H := H1
        clear H1
        obtain rfl := Option.some.inj H
        go_enter Try.func16, Try.ntmps16
        go_wp2_with (first | ((with_reducible refine gate_dst (N := 1) rfl ?_); (try (refine gate_guard (by rfl) ?_; dsimp only)); refine box_event ?hg (N := 1) ?hd (cs := #[.int .i64 a0_0, .string a0_1, .slice A0_2 l0_2.length c0_2, .slice A0_3 l0_3.length c0_3, .int .i64 a0_4, .string a0_5, .slice A0_6 l0_6.length c0_6, .slice A0_7 l0_7.length c0_7, .int .i64 a0_8, .string a0_9, .slice A0_10 l0_10.length c0_10, .slice A0_11 l0_11.length c0_11, .slice A0_12 l0_12.length c0_12, .slice A0_13 l0_13.length c0_13, .slice A0_14 l0_14.length c0_14, .int .i64 a0_15]) (t := 42) ?hr ?_; (case hd => rfl); (case hg => rfl); (case hr => first | (go_simp; done) | (go_simp; rfl) | (obtain ⟨_, _, rfl⟩ := Kd.R_slice (Aside0.out (by assumption : Aside0 (Kd.R _ _ _ _ _ _ _))); go_simp; done)); intro gb269 hg w34 hbox hb; have n0_ := Aside0.mk (below_step (by repeat (first | (with_reducible first | exact HB.out | apply below_alloc | apply pw_below_drewN | apply below_drew1) | exact HB.out)) hb); have n1_ := Aside0.mk (hbox); have n2_ := Aside0.mk ((by rw [hg]; exact (below_size (by repeat (first | (with_reducible first | exact HB.out | apply below_alloc | apply pw_below_drewN | apply below_drew1) | exact HB.out))) : w.heap.size ≤ gb269)); have n3_ := Aside0.mk ((by rw [hg]; exact (below_size (by repeat (first | (with_reducible first | exact HB.out | apply below_alloc | apply pw_below_drewN | apply below_drew1) | exact HB.out))) : w.heap.size ≤ gb269)); clear HB; have HB := n0_; have BK269 := n1_; have GW269 := n2_; have GE269 := n3_; clear n0_ n1_ n2_ n3_; clear hb hbox hg; have hcz35_0 : w34.cell? ⟨gb269, 0, none⟩ = some (.int .i64 a0_0) := (blk_cell BK269.out 0).trans rfl; have hcz35_1 : w34.cell? ⟨gb269, 1, none⟩ = some (.string a0_1) := (blk_cell BK269.out 1).trans rfl; have hcz35_2 : w34.cell? ⟨gb269, 2, none⟩ = some (.slice A0_2 l0_2.length c0_2) := (blk_cell BK269.out 2).trans rfl; have hcz35_3 : w34.cell? ⟨gb269, 3, none⟩ = some (.slice A0_3 l0_3.length c0_3) := (blk_cell BK269.out 3).trans rfl; have hcz35_4 : w34.cell? ⟨gb269, 4, none⟩ = some (.int .i64 a0_4) := (blk_cell BK269.out 4).trans rfl; have hcz35_5 : w34.cell? ⟨gb269, 5, none⟩ = some (.string a0_5) := (blk_cell BK269.out 5).trans rfl; have hcz35_6 : w34.cell? ⟨gb269, 6, none⟩ = some (.slice A0_6 l0_6.length c0_6) := (blk_cell BK269.out 6).trans rfl; have hcz35_7 : w34.cell? ⟨gb269, 7, none⟩ = some (.slice A0_7 l0_7.length c0_7) := (blk_cell BK269.out 7).trans rfl; have hcz35_8 : w34.cell? ⟨gb269, 8, none⟩ = some (.int .i64 a0_8) := (blk_cell BK269.out 8).trans rfl; have hcz35_9 : w34.cell? ⟨gb269, 9, none⟩ = some (.string a0_9) := (blk_cell BK269.out 9).trans rfl; have hcz35_10 : w34.cell? ⟨gb269, 10, none⟩ = some (.slice A0_10 l0_10.length c0_10) := (blk_cell BK269.out 10).trans rfl; have hcz35_11 : w34.cell? ⟨gb269, 11, none⟩ = some (.slice A0_11 l0_11.length c0_11) := (blk_cell BK269.out 11).trans rfl; have hcz35_12 : w34.cell? ⟨gb269, 12, none⟩ = some (.slice A0_12 l0_12.length c0_12) := (blk_cell BK269.out 12).trans rfl; have hcz35_13 : w34.cell? ⟨gb269, 13, none⟩ = some (.slice A0_13 l0_13.length c0_13) := (blk_cell BK269.out 13).trans rfl; have hcz35_14 : w34.cell? ⟨gb269, 14, none⟩ = some (.slice A0_14 l0_14.length c0_14) := (blk_cell BK269.out 14).trans rfl; have hcz35_15 : w34.cell? ⟨gb269, 15, none⟩ = some (.int .i64 a0_15) := (blk_cell BK269.out 15).trans rfl; have hfz35_0 := blk_frozen BK269.out 0; have hfz35_1 := blk_frozen BK269.out 1; have hfz35_2 := blk_frozen BK269.out 2; have hfz35_3 := blk_frozen BK269.out 3; have hfz35_4 := blk_frozen BK269.out 4; have hfz35_5 := blk_frozen BK269.out 5; have hfz35_6 := blk_frozen BK269.out 6; have hfz35_7 := blk_frozen BK269.out 7; have hfz35_8 := blk_frozen BK269.out 8; have hfz35_9 := blk_frozen BK269.out 9; have hfz35_10 := blk_frozen BK269.out 10; have hfz35_11 := blk_frozen BK269.out 11; have hfz35_12 := blk_frozen BK269.out 12; have hfz35_13 := blk_frozen BK269.out 13; have hfz35_14 := blk_frozen BK269.out 14; have hfz35_15 := blk_frozen BK269.out 15) | ((with_reducible refine gate_callee (f := 21) rfl ?_); refine goesL_ (some 5) rfl rfl Try.func21 (by kernel_rfl) rfl #[.agg #[.int .i64 a0_0, .string a0_1, .slice A0_2 l0_2.length c0_2, .slice A0_3 l0_3.length c0_3]] rfl (by (try simp only [List.map_toArray, List.map_cons, List.map_nil]); first | done | rfl | (simp only [List.length_drop, List.length_take]; rfl)) ?_; (with_reducible refine (treemergelaw31_small.calls k a0_0 a0_1 _ _ l0_2 _ _ l0_3 true _ ?side1 ?side2 ?side3 ?side4 A2.out).mono ?_); (case side1 => repeat (first | exact (Kd.C_below HR0_2.out HB.out) | (with_reducible refine Kd.C_alloc ?_ _) | (with_reducible refine Kd.C_drewN ?_ _) | (with_reducible refine Kd.C_drew ?_))); (case side2 => exact HC0_2.out); (case side3 => repeat (first | exact (Kd.C_below HR0_3.out HB.out) | (with_reducible refine Kd.C_alloc ?_ _) | (with_reducible refine Kd.C_drewN ?_ _) | (with_reducible refine Kd.C_drew ?_))); (case side4 => exact HC0_3.out); rintro e w36 ⟨rfl, hb⟩; refine ⟨_, rfl, ?_⟩; have n0_ := Aside0.mk (blk_below (g := gb269) (o := .cells #[.int .i64 a0_0, .string a0_1, .slice A0_2 l0_2.length c0_2, .slice A0_3 l0_3.length c0_3, .int .i64 a0_4, .string a0_5, .slice A0_6 l0_6.length c0_6, .slice A0_7 l0_7.length c0_7, .int .i64 a0_8, .string a0_9, .slice A0_10 l0_10.length c0_10, .slice A0_11 l0_11.length c0_11, .slice A0_12 l0_12.length c0_12, .slice A0_13 l0_13.length c0_13, .slice A0_14 l0_14.length c0_14, .int .i64 a0_15] 42 (0, 0)) (by (with_reducible repeat (first | refine blk_drewN ?_ _ | refine blk_drew ?_ | refine blk_alloc ?_ _)); exact BK269.out) hb); have n1_ := Aside0.mk (below_step (by repeat (first | (with_reducible first | exact HB.out | apply below_alloc | apply pw_below_drewN | apply below_drew1 | refine below_set ?_ GE269.out) | exact HB.out)) hb); clear BK269; clear HB; have BK269 := n0_; have HB := n1_; clear n0_ n1_; (try clear hb); (try clear hb2); (try clear hk); (try clear hi); have hcz37_0 : w36.cell? ⟨gb269, 0, none⟩ = some (.int .i64 a0_0) := (blk_cell BK269.out 0).trans rfl; have hcz37_1 : w36.cell? ⟨gb269, 1, none⟩ = some (.string a0_1) := (blk_cell BK269.out 1).trans rfl; have hcz37_2 : w36.cell? ⟨gb269, 2, none⟩ = some (.slice A0_2 l0_2.length c0_2) := (blk_cell BK269.out 2).trans rfl; have hcz37_3 : w36.cell? ⟨gb269, 3, none⟩ = some (.slice A0_3 l0_3.length c0_3) := (blk_cell BK269.out 3).trans rfl; have hcz37_4 : w36.cell? ⟨gb269, 4, none⟩ = some (.int .i64 a0_4) := (blk_cell BK269.out 4).trans rfl; have hcz37_5 : w36.cell? ⟨gb269, 5, none⟩ = some (.string a0_5) := (blk_cell BK269.out 5).trans rfl; have hcz37_6 : w36.cell? ⟨gb269, 6, none⟩ = some (.slice A0_6 l0_6.length c0_6) := (blk_cell BK269.out 6).trans rfl; have hcz37_7 : w36.cell? ⟨gb269, 7, none⟩ = some (.slice A0_7 l0_7.length c0_7) := (blk_cell BK269.out 7).trans rfl; have hcz37_8 : w36.cell? ⟨gb269, 8, none⟩ = some (.int .i64 a0_8) := (blk_cell BK269.out 8).trans rfl; have hcz37_9 : w36.cell? ⟨gb269, 9, none⟩ = some (.string a0_9) := (blk_cell BK269.out 9).trans rfl; have hcz37_10 : w36.cell? ⟨gb269, 10, none⟩ = some (.slice A0_10 l0_10.length c0_10) := (blk_cell BK269.out 10).trans rfl; have hcz37_11 : w36.cell? ⟨gb269, 11, none⟩ = some (.slice A0_11 l0_11.length c0_11) := (blk_cell BK269.out 11).trans rfl; have hcz37_12 : w36.cell? ⟨gb269, 12, none⟩ = some (.slice A0_12 l0_12.length c0_12) := (blk_cell BK269.out 12).trans rfl; have hcz37_13 : w36.cell? ⟨gb269, 13, none⟩ = some (.slice A0_13 l0_13.length c0_13) := (blk_cell BK269.out 13).trans rfl; have hcz37_14 : w36.cell? ⟨gb269, 14, none⟩ = some (.slice A0_14 l0_14.length c0_14) := (blk_cell BK269.out 14).trans rfl; have hcz37_15 : w36.cell? ⟨gb269, 15, none⟩ = some (.int .i64 a0_15) := (blk_cell BK269.out 15).trans rfl; have hfz37_0 := blk_frozen BK269.out 0; have hfz37_1 := blk_frozen BK269.out 1; have hfz37_2 := blk_frozen BK269.out 2; have hfz37_3 := blk_frozen BK269.out 3; have hfz37_4 := blk_frozen BK269.out 4; have hfz37_5 := blk_frozen BK269.out 5; have hfz37_6 := blk_frozen BK269.out 6; have hfz37_7 := blk_frozen BK269.out 7; have hfz37_8 := blk_frozen BK269.out 8; have hfz37_9 := blk_frozen BK269.out 9; have hfz37_10 := blk_frozen BK269.out 10; have hfz37_11 := blk_frozen BK269.out 11; have hfz37_12 := blk_frozen BK269.out 12; have hfz37_13 := blk_frozen BK269.out 13; have hfz37_14 := blk_frozen BK269.out 14; have hfz37_15 := blk_frozen BK269.out 15) | (go_at_call 21; (with_reducible refine (treemergelaw31_small.calls k a0_4 a0_5 _ _ l0_6 _ _ l0_7 true _ ?side1 ?side2 ?side3 ?side4 A4.out).mono ?_); (case side1 => repeat (first | exact (Kd.C_below HR0_6.out HB.out) | (with_reducible refine Kd.C_alloc ?_ _) | (with_reducible refine Kd.C_drewN ?_ _) | (with_reducible refine Kd.C_drew ?_))); (case side2 => exact HC0_6.out); (case side3 => repeat (first | exact (Kd.C_below HR0_7.out HB.out) | (with_reducible refine Kd.C_alloc ?_ _) | (with_reducible refine Kd.C_drewN ?_ _) | (with_reducible refine Kd.C_drew ?_))); (case side4 => exact HC0_7.out); rintro e w38 ⟨rfl, hb⟩; have n0_ := Aside0.mk (blk_below (g := gb269) (o := .cells #[.int .i64 a0_0, .string a0_1, .slice A0_2 l0_2.length c0_2, .slice A0_3 l0_3.length c0_3, .int .i64 a0_4, .string a0_5, .slice A0_6 l0_6.length c0_6, .slice A0_7 l0_7.length c0_7, .int .i64 a0_8, .string a0_9, .slice A0_10 l0_10.length c0_10, .slice A0_11 l0_11.length c0_11, .slice A0_12 l0_12.length c0_12, .slice A0_13 l0_13.length c0_13, .slice A0_14 l0_14.length c0_14, .int .i64 a0_15] 42 (0, 0)) (by (with_reducible repeat (first | refine blk_drewN ?_ _ | refine blk_drew ?_ | refine blk_alloc ?_ _)); exact BK269.out) hb); have n1_ := Aside0.mk (below_step (by repeat (first | (with_reducible first | exact HB.out | apply below_alloc | apply pw_below_drewN | apply below_drew1 | refine below_set ?_ GE269.out) | exact HB.out)) hb); clear BK269; clear HB; have BK269 := n0_; have HB := n1_; clear n0_ n1_; (try clear hb); (try clear hb2); (try clear hk); (try clear hi); have hcz39_0 : w38.cell? ⟨gb269, 0, none⟩ = some (.int .i64 a0_0) := (blk_cell BK269.out 0).trans rfl; have hcz39_1 : w38.cell? ⟨gb269, 1, none⟩ = some (.string a0_1) := (blk_cell BK269.out 1).trans rfl; have hcz39_2 : w38.cell? ⟨gb269, 2, none⟩ = some (.slice A0_2 l0_2.length c0_2) := (blk_cell BK269.out 2).trans rfl; have hcz39_3 : w38.cell? ⟨gb269, 3, none⟩ = some (.slice A0_3 l0_3.length c0_3) := (blk_cell BK269.out 3).trans rfl; have hcz39_4 : w38.cell? ⟨gb269, 4, none⟩ = some (.int .i64 a0_4) := (blk_cell BK269.out 4).trans rfl; have hcz39_5 : w38.cell? ⟨gb269, 5, none⟩ = some (.string a0_5) := (blk_cell BK269.out 5).trans rfl; have hcz39_6 : w38.cell? ⟨gb269, 6, none⟩ = some (.slice A0_6 l0_6.length c0_6) := (blk_cell BK269.out 6).trans rfl; have hcz39_7 : w38.cell? ⟨gb269, 7, none⟩ = some (.slice A0_7 l0_7.length c0_7) := (blk_cell BK269.out 7).trans rfl; have hcz39_8 : w38.cell? ⟨gb269, 8, none⟩ = some (.int .i64 a0_8) := (blk_cell BK269.out 8).trans rfl; have hcz39_9 : w38.cell? ⟨gb269, 9, none⟩ = some (.string a0_9) := (blk_cell BK269.out 9).trans rfl; have hcz39_10 : w38.cell? ⟨gb269, 10, none⟩ = some (.slice A0_10 l0_10.length c0_10) := (blk_cell BK269.out 10).trans rfl; have hcz39_11 : w38.cell? ⟨gb269, 11, none⟩ = some (.slice A0_11 l0_11.length c0_11) := (blk_cell BK269.out 11).trans rfl; have hcz39_12 : w38.cell? ⟨gb269, 12, none⟩ = some (.slice A0_12 l0_12.length c0_12) := (blk_cell BK269.out 12).trans rfl; have hcz39_13 : w38.cell? ⟨gb269, 13, none⟩ = some (.slice A0_13 l0_13.length c0_13) := (blk_cell BK269.out 13).trans rfl; have hcz39_14 : w38.cell? ⟨gb269, 14, none⟩ = some (.slice A0_14 l0_14.length c0_14) := (blk_cell BK269.out 14).trans rfl; have hcz39_15 : w38.cell? ⟨gb269, 15, none⟩ = some (.int .i64 a0_15) := (blk_cell BK269.out 15).trans rfl; have hfz39_0 := blk_frozen BK269.out 0; have hfz39_1 := blk_frozen BK269.out 1; have hfz39_2 := blk_frozen BK269.out 2; have hfz39_3 := blk_frozen BK269.out 3; have hfz39_4 := blk_frozen BK269.out 4; have hfz39_5 := blk_frozen BK269.out 5; have hfz39_6 := blk_frozen BK269.out 6; have hfz39_7 := blk_frozen BK269.out 7; have hfz39_8 := blk_frozen BK269.out 8; have hfz39_9 := blk_frozen BK269.out 9; have hfz39_10 := blk_frozen BK269.out 10; have hfz39_11 := blk_frozen BK269.out 11; have hfz39_12 := blk_frozen BK269.out 12; have hfz39_13 := blk_frozen BK269.out 13; have hfz39_14 := blk_frozen BK269.out 14; have hfz39_15 := blk_frozen BK269.out 15) | (go_at_call 21; (with_reducible refine (treemergelaw31_small.calls k a0_8 a0_9 _ _ l0_10 _ _ l0_11 false _ ?side1 ?side2 ?side3 ?side4 A6.out).mono ?_); (case side1 => repeat (first | exact (Kd.C_below HR0_10.out HB.out) | (with_reducible refine Kd.C_alloc ?_ _) | (with_reducible refine Kd.C_drewN ?_ _) | (with_reducible refine Kd.C_drew ?_))); (case side2 => exact HC0_10.out); (case side3 => repeat (first | exact (Kd.C_below HR0_11.out HB.out) | (with_reducible refine Kd.C_alloc ?_ _) | (with_reducible refine Kd.C_drewN ?_ _) | (with_reducible refine Kd.C_drew ?_))); (case side4 => exact HC0_11.out); rintro e w40 ⟨rfl, hb⟩; have n0_ := Aside0.mk (blk_below (g := gb269) (o := .cells #[.int .i64 a0_0, .string a0_1, .slice A0_2 l0_2.length c0_2, .slice A0_3 l0_3.length c0_3, .int .i64 a0_4, .string a0_5, .slice A0_6 l0_6.length c0_6, .slice A0_7 l0_7.length c0_7, .int .i64 a0_8, .string a0_9, .slice A0_10 l0_10.length c0_10, .slice A0_11 l0_11.length c0_11, .slice A0_12 l0_12.length c0_12, .slice A0_13 l0_13.length c0_13, .slice A0_14 l0_14.length c0_14, .int .i64 a0_15] 42 (0, 0)) (by (with_reducible repeat (first | refine blk_drewN ?_ _ | refine blk_drew ?_ | refine blk_alloc ?_ _)); exact BK269.out) hb); have n1_ := Aside0.mk (below_step (by repeat (first | (with_reducible first | exact HB.out | apply below_alloc | apply pw_below_drewN | apply below_drew1 | refine below_set ?_ GE269.out) | exact HB.out)) hb); clear BK269; clear HB; have BK269 := n0_; have HB := n1_; clear n0_ n1_; (try clear hb); (try clear hb2); (try clear hk); (try clear hi)))
        go_ret
        exact ⟨by first | rfl | (simp [errW_none, errW_some] <;> rfl) | (simp [*, errW_none, errW_some] <;> rfl), by repeat (first | (with_reducible first | exact HB.out | apply below_alloc | apply pw_below_drewN | apply below_drew1 | refine below_set ?_ GE269.out) | exact HB.out)⟩
    · replace c5 := Bool.eq_false_iff.mpr c5
      subst c5
      have H1 : (some false) = some r := by rw [if_neg (show ¬ (false = true) by decide)] at H; exact H
      clear H
      have H := H1
      clear H1
      obtain rfl := Option.some.inj H
      go_enter Try.func16, Try.ntmps16
      go_wp2_with (first | ((with_reducible refine gate_dst (N := 1) rfl ?_); (try (refine gate_guard (by rfl) ?_; dsimp only)); refine box_event ?hg (N := 1) ?hd (cs := #[.int .i64 a0_0, .string a0_1, .slice A0_2 l0_2.length c0_2, .slice A0_3 l0_3.length c0_3, .int .i64 a0_4, .string a0_5, .slice A0_6 l0_6.length c0_6, .slice A0_7 l0_7.length c0_7, .int .i64 a0_8, .string a0_9, .slice A0_10 l0_10.length c0_10, .slice A0_11 l0_11.length c0_11, .slice A0_12 l0_12.length c0_12, .slice A0_13 l0_13.length c0_13, .slice A0_14 l0_14.length c0_14, .int .i64 a0_15]) (t := 42) ?hr ?_; (case hd => rfl); (case hg => rfl); (case hr => first | (go_simp; done) | (go_simp; rfl) | (obtain ⟨_, _, rfl⟩ := Kd.R_slice (Aside0.out (by assumption : Aside0 (Kd.R _ _ _ _ _ _ _))); go_simp; done)); intro gb269 hg w41 hbox hb; have n0_ := Aside0.mk (below_step (by repeat (first | (with_reducible first | exact HB.out | apply below_alloc | apply pw_below_drewN | apply below_drew1) | exact HB.out)) hb); have n1_ := Aside0.mk (hbox); have n2_ := Aside0.mk ((by rw [hg]; exact (below_size (by repeat (first | (with_reducible first | exact HB.out | apply below_alloc | apply pw_below_drewN | apply below_drew1) | exact HB.out))) : w.heap.size ≤ gb269)); have n3_ := Aside0.mk ((by rw [hg]; exact (below_size (by repeat (first | (with_reducible first | exact HB.out | apply below_alloc | apply pw_below_drewN | apply below_drew1) | exact HB.out))) : w.heap.size ≤ gb269)); clear HB; have HB := n0_; have BK269 := n1_; have GW269 := n2_; have GE269 := n3_; clear n0_ n1_ n2_ n3_; clear hb hbox hg; have hcz42_0 : w41.cell? ⟨gb269, 0, none⟩ = some (.int .i64 a0_0) := (blk_cell BK269.out 0).trans rfl; have hcz42_1 : w41.cell? ⟨gb269, 1, none⟩ = some (.string a0_1) := (blk_cell BK269.out 1).trans rfl; have hcz42_2 : w41.cell? ⟨gb269, 2, none⟩ = some (.slice A0_2 l0_2.length c0_2) := (blk_cell BK269.out 2).trans rfl; have hcz42_3 : w41.cell? ⟨gb269, 3, none⟩ = some (.slice A0_3 l0_3.length c0_3) := (blk_cell BK269.out 3).trans rfl; have hcz42_4 : w41.cell? ⟨gb269, 4, none⟩ = some (.int .i64 a0_4) := (blk_cell BK269.out 4).trans rfl; have hcz42_5 : w41.cell? ⟨gb269, 5, none⟩ = some (.string a0_5) := (blk_cell BK269.out 5).trans rfl; have hcz42_6 : w41.cell? ⟨gb269, 6, none⟩ = some (.slice A0_6 l0_6.length c0_6) := (blk_cell BK269.out 6).trans rfl; have hcz42_7 : w41.cell? ⟨gb269, 7, none⟩ = some (.slice A0_7 l0_7.length c0_7) := (blk_cell BK269.out 7).trans rfl; have hcz42_8 : w41.cell? ⟨gb269, 8, none⟩ = some (.int .i64 a0_8) := (blk_cell BK269.out 8).trans rfl; have hcz42_9 : w41.cell? ⟨gb269, 9, none⟩ = some (.string a0_9) := (blk_cell BK269.out 9).trans rfl; have hcz42_10 : w41.cell? ⟨gb269, 10, none⟩ = some (.slice A0_10 l0_10.length c0_10) := (blk_cell BK269.out 10).trans rfl; have hcz42_11 : w41.cell? ⟨gb269, 11, none⟩ = some (.slice A0_11 l0_11.length c0_11) := (blk_cell BK269.out 11).trans rfl; have hcz42_12 : w41.cell? ⟨gb269, 12, none⟩ = some (.slice A0_12 l0_12.length c0_12) := (blk_cell BK269.out 12).trans rfl; have hcz42_13 : w41.cell? ⟨gb269, 13, none⟩ = some (.slice A0_13 l0_13.length c0_13) := (blk_cell BK269.out 13).trans rfl; have hcz42_14 : w41.cell? ⟨gb269, 14, none⟩ = some (.slice A0_14 l0_14.length c0_14) := (blk_cell BK269.out 14).trans rfl; have hcz42_15 : w41.cell? ⟨gb269, 15, none⟩ = some (.int .i64 a0_15) := (blk_cell BK269.out 15).trans rfl; have hfz42_0 := blk_frozen BK269.out 0; have hfz42_1 := blk_frozen BK269.out 1; have hfz42_2 := blk_frozen BK269.out 2; have hfz42_3 := blk_frozen BK269.out 3; have hfz42_4 := blk_frozen BK269.out 4; have hfz42_5 := blk_frozen BK269.out 5; have hfz42_6 := blk_frozen BK269.out 6; have hfz42_7 := blk_frozen BK269.out 7; have hfz42_8 := blk_frozen BK269.out 8; have hfz42_9 := blk_frozen BK269.out 9; have hfz42_10 := blk_frozen BK269.out 10; have hfz42_11 := blk_frozen BK269.out 11; have hfz42_12 := blk_frozen BK269.out 12; have hfz42_13 := blk_frozen BK269.out 13; have hfz42_14 := blk_frozen BK269.out 14; have hfz42_15 := blk_frozen BK269.out 15) | ((with_reducible refine gate_callee (f := 21) rfl ?_); refine goesL_ (some 5) rfl rfl Try.func21 (by kernel_rfl) rfl #[.agg #[.int .i64 a0_0, .string a0_1, .slice A0_2 l0_2.length c0_2, .slice A0_3 l0_3.length c0_3]] rfl (by (try simp only [List.map_toArray, List.map_cons, List.map_nil]); first | done | rfl | (simp only [List.length_drop, List.length_take]; rfl)) ?_; (with_reducible refine (treemergelaw31_small.calls k a0_0 a0_1 _ _ l0_2 _ _ l0_3 true _ ?side1 ?side2 ?side3 ?side4 A2.out).mono ?_); (case side1 => repeat (first | exact (Kd.C_below HR0_2.out HB.out) | (with_reducible refine Kd.C_alloc ?_ _) | (with_reducible refine Kd.C_drewN ?_ _) | (with_reducible refine Kd.C_drew ?_))); (case side2 => exact HC0_2.out); (case side3 => repeat (first | exact (Kd.C_below HR0_3.out HB.out) | (with_reducible refine Kd.C_alloc ?_ _) | (with_reducible refine Kd.C_drewN ?_ _) | (with_reducible refine Kd.C_drew ?_))); (case side4 => exact HC0_3.out); rintro e w43 ⟨rfl, hb⟩; refine ⟨_, rfl, ?_⟩; have n0_ := Aside0.mk (blk_below (g := gb269) (o := .cells #[.int .i64 a0_0, .string a0_1, .slice A0_2 l0_2.length c0_2, .slice A0_3 l0_3.length c0_3, .int .i64 a0_4, .string a0_5, .slice A0_6 l0_6.length c0_6, .slice A0_7 l0_7.length c0_7, .int .i64 a0_8, .string a0_9, .slice A0_10 l0_10.length c0_10, .slice A0_11 l0_11.length c0_11, .slice A0_12 l0_12.length c0_12, .slice A0_13 l0_13.length c0_13, .slice A0_14 l0_14.length c0_14, .int .i64 a0_15] 42 (0, 0)) (by (with_reducible repeat (first | refine blk_drewN ?_ _ | refine blk_drew ?_ | refine blk_alloc ?_ _)); exact BK269.out) hb); have n1_ := Aside0.mk (below_step (by repeat (first | (with_reducible first | exact HB.out | apply below_alloc | apply pw_below_drewN | apply below_drew1 | refine below_set ?_ GE269.out) | exact HB.out)) hb); clear BK269; clear HB; have BK269 := n0_; have HB := n1_; clear n0_ n1_; (try clear hb); (try clear hb2); (try clear hk); (try clear hi); have hcz44_0 : w43.cell? ⟨gb269, 0, none⟩ = some (.int .i64 a0_0) := (blk_cell BK269.out 0).trans rfl; have hcz44_1 : w43.cell? ⟨gb269, 1, none⟩ = some (.string a0_1) := (blk_cell BK269.out 1).trans rfl; have hcz44_2 : w43.cell? ⟨gb269, 2, none⟩ = some (.slice A0_2 l0_2.length c0_2) := (blk_cell BK269.out 2).trans rfl; have hcz44_3 : w43.cell? ⟨gb269, 3, none⟩ = some (.slice A0_3 l0_3.length c0_3) := (blk_cell BK269.out 3).trans rfl; have hcz44_4 : w43.cell? ⟨gb269, 4, none⟩ = some (.int .i64 a0_4) := (blk_cell BK269.out 4).trans rfl; have hcz44_5 : w43.cell? ⟨gb269, 5, none⟩ = some (.string a0_5) := (blk_cell BK269.out 5).trans rfl; have hcz44_6 : w43.cell? ⟨gb269, 6, none⟩ = some (.slice A0_6 l0_6.length c0_6) := (blk_cell BK269.out 6).trans rfl; have hcz44_7 : w43.cell? ⟨gb269, 7, none⟩ = some (.slice A0_7 l0_7.length c0_7) := (blk_cell BK269.out 7).trans rfl; have hcz44_8 : w43.cell? ⟨gb269, 8, none⟩ = some (.int .i64 a0_8) := (blk_cell BK269.out 8).trans rfl; have hcz44_9 : w43.cell? ⟨gb269, 9, none⟩ = some (.string a0_9) := (blk_cell BK269.out 9).trans rfl; have hcz44_10 : w43.cell? ⟨gb269, 10, none⟩ = some (.slice A0_10 l0_10.length c0_10) := (blk_cell BK269.out 10).trans rfl; have hcz44_11 : w43.cell? ⟨gb269, 11, none⟩ = some (.slice A0_11 l0_11.length c0_11) := (blk_cell BK269.out 11).trans rfl; have hcz44_12 : w43.cell? ⟨gb269, 12, none⟩ = some (.slice A0_12 l0_12.length c0_12) := (blk_cell BK269.out 12).trans rfl; have hcz44_13 : w43.cell? ⟨gb269, 13, none⟩ = some (.slice A0_13 l0_13.length c0_13) := (blk_cell BK269.out 13).trans rfl; have hcz44_14 : w43.cell? ⟨gb269, 14, none⟩ = some (.slice A0_14 l0_14.length c0_14) := (blk_cell BK269.out 14).trans rfl; have hcz44_15 : w43.cell? ⟨gb269, 15, none⟩ = some (.int .i64 a0_15) := (blk_cell BK269.out 15).trans rfl; have hfz44_0 := blk_frozen BK269.out 0; have hfz44_1 := blk_frozen BK269.out 1; have hfz44_2 := blk_frozen BK269.out 2; have hfz44_3 := blk_frozen BK269.out 3; have hfz44_4 := blk_frozen BK269.out 4; have hfz44_5 := blk_frozen BK269.out 5; have hfz44_6 := blk_frozen BK269.out 6; have hfz44_7 := blk_frozen BK269.out 7; have hfz44_8 := blk_frozen BK269.out 8; have hfz44_9 := blk_frozen BK269.out 9; have hfz44_10 := blk_frozen BK269.out 10; have hfz44_11 := blk_frozen BK269.out 11; have hfz44_12 := blk_frozen BK269.out 12; have hfz44_13 := blk_frozen BK269.out 13; have hfz44_14 := blk_frozen BK269.out 14; have hfz44_15 := blk_frozen BK269.out 15) | (go_at_call 21; (with_reducible refine (treemergelaw31_small.calls k a0_4 a0_5 _ _ l0_6 _ _ l0_7 false _ ?side1 ?side2 ?side3 ?side4 A4.out).mono ?_); (case side1 => repeat (first | exact (Kd.C_below HR0_6.out HB.out) | (with_reducible refine Kd.C_alloc ?_ _) | (with_reducible refine Kd.C_drewN ?_ _) | (with_reducible refine Kd.C_drew ?_))); (case side2 => exact HC0_6.out); (case side3 => repeat (first | exact (Kd.C_below HR0_7.out HB.out) | (with_reducible refine Kd.C_alloc ?_ _) | (with_reducible refine Kd.C_drewN ?_ _) | (with_reducible refine Kd.C_drew ?_))); (case side4 => exact HC0_7.out); rintro e w45 ⟨rfl, hb⟩; have n0_ := Aside0.mk (blk_below (g := gb269) (o := .cells #[.int .i64 a0_0, .string a0_1, .slice A0_2 l0_2.length c0_2, .slice A0_3 l0_3.length c0_3, .int .i64 a0_4, .string a0_5, .slice A0_6 l0_6.length c0_6, .slice A0_7 l0_7.length c0_7, .int .i64 a0_8, .string a0_9, .slice A0_10 l0_10.length c0_10, .slice A0_11 l0_11.length c0_11, .slice A0_12 l0_12.length c0_12, .slice A0_13 l0_13.length c0_13, .slice A0_14 l0_14.length c0_14, .int .i64 a0_15] 42 (0, 0)) (by (with_reducible repeat (first | refine blk_drewN ?_ _ | refine blk_drew ?_ | refine blk_alloc ?_ _)); exact BK269.out) hb); have n1_ := Aside0.mk (below_step (by repeat (first | (with_reducible first | exact HB.out | apply below_alloc | apply pw_below_drewN | apply below_drew1 | refine below_set ?_ GE269.out) | exact HB.out)) hb); clear BK269; clear HB; have BK269 := n0_; have HB := n1_; clear n0_ n1_; (try clear hb); (try clear hb2); (try clear hk); (try clear hi)))
      go_ret
      exact ⟨by first | rfl | (simp [errW_none, errW_some] <;> rfl) | (simp [*, errW_none, errW_some] <;> rfl), by repeat (first | (with_reducible first | exact HB.out | apply below_alloc | apply pw_below_drewN | apply below_drew1 | refine below_set ?_ GE269.out) | exact HB.out)⟩
  · replace c3 := Bool.eq_false_iff.mpr c3
    subst c3
    have H1 : (some false) = some r := by rw [if_neg (show ¬ (false = true) by decide)] at H; exact H
    clear H
    have H := H1
    clear H1
    obtain rfl := Option.some.inj H
    go_enter Try.func16, Try.ntmps16
    go_wp2_with (first | ((with_reducible refine gate_dst (N := 1) rfl ?_); (try (refine gate_guard (by rfl) ?_; dsimp only)); refine box_event ?hg (N := 1) ?hd (cs := #[.int .i64 a0_0, .string a0_1, .slice A0_2 l0_2.length c0_2, .slice A0_3 l0_3.length c0_3, .int .i64 a0_4, .string a0_5, .slice A0_6 l0_6.length c0_6, .slice A0_7 l0_7.length c0_7, .int .i64 a0_8, .string a0_9, .slice A0_10 l0_10.length c0_10, .slice A0_11 l0_11.length c0_11, .slice A0_12 l0_12.length c0_12, .slice A0_13 l0_13.length c0_13, .slice A0_14 l0_14.length c0_14, .int .i64 a0_15]) (t := 42) ?hr ?_; (case hd => rfl); (case hg => rfl); (case hr => first | (go_simp; done) | (go_simp; rfl) | (obtain ⟨_, _, rfl⟩ := Kd.R_slice (Aside0.out (by assumption : Aside0 (Kd.R _ _ _ _ _ _ _))); go_simp; done)); intro gb269 hg w46 hbox hb; have n0_ := Aside0.mk (below_step (by repeat (first | (with_reducible first | exact HB.out | apply below_alloc | apply pw_below_drewN | apply below_drew1) | exact HB.out)) hb); have n1_ := Aside0.mk (hbox); have n2_ := Aside0.mk ((by rw [hg]; exact (below_size (by repeat (first | (with_reducible first | exact HB.out | apply below_alloc | apply pw_below_drewN | apply below_drew1) | exact HB.out))) : w.heap.size ≤ gb269)); have n3_ := Aside0.mk ((by rw [hg]; exact (below_size (by repeat (first | (with_reducible first | exact HB.out | apply below_alloc | apply pw_below_drewN | apply below_drew1) | exact HB.out))) : w.heap.size ≤ gb269)); clear HB; have HB := n0_; have BK269 := n1_; have GW269 := n2_; have GE269 := n3_; clear n0_ n1_ n2_ n3_; clear hb hbox hg; have hcz47_0 : w46.cell? ⟨gb269, 0, none⟩ = some (.int .i64 a0_0) := (blk_cell BK269.out 0).trans rfl; have hcz47_1 : w46.cell? ⟨gb269, 1, none⟩ = some (.string a0_1) := (blk_cell BK269.out 1).trans rfl; have hcz47_2 : w46.cell? ⟨gb269, 2, none⟩ = some (.slice A0_2 l0_2.length c0_2) := (blk_cell BK269.out 2).trans rfl; have hcz47_3 : w46.cell? ⟨gb269, 3, none⟩ = some (.slice A0_3 l0_3.length c0_3) := (blk_cell BK269.out 3).trans rfl; have hcz47_4 : w46.cell? ⟨gb269, 4, none⟩ = some (.int .i64 a0_4) := (blk_cell BK269.out 4).trans rfl; have hcz47_5 : w46.cell? ⟨gb269, 5, none⟩ = some (.string a0_5) := (blk_cell BK269.out 5).trans rfl; have hcz47_6 : w46.cell? ⟨gb269, 6, none⟩ = some (.slice A0_6 l0_6.length c0_6) := (blk_cell BK269.out 6).trans rfl; have hcz47_7 : w46.cell? ⟨gb269, 7, none⟩ = some (.slice A0_7 l0_7.length c0_7) := (blk_cell BK269.out 7).trans rfl; have hcz47_8 : w46.cell? ⟨gb269, 8, none⟩ = some (.int .i64 a0_8) := (blk_cell BK269.out 8).trans rfl; have hcz47_9 : w46.cell? ⟨gb269, 9, none⟩ = some (.string a0_9) := (blk_cell BK269.out 9).trans rfl; have hcz47_10 : w46.cell? ⟨gb269, 10, none⟩ = some (.slice A0_10 l0_10.length c0_10) := (blk_cell BK269.out 10).trans rfl; have hcz47_11 : w46.cell? ⟨gb269, 11, none⟩ = some (.slice A0_11 l0_11.length c0_11) := (blk_cell BK269.out 11).trans rfl; have hcz47_12 : w46.cell? ⟨gb269, 12, none⟩ = some (.slice A0_12 l0_12.length c0_12) := (blk_cell BK269.out 12).trans rfl; have hcz47_13 : w46.cell? ⟨gb269, 13, none⟩ = some (.slice A0_13 l0_13.length c0_13) := (blk_cell BK269.out 13).trans rfl; have hcz47_14 : w46.cell? ⟨gb269, 14, none⟩ = some (.slice A0_14 l0_14.length c0_14) := (blk_cell BK269.out 14).trans rfl; have hcz47_15 : w46.cell? ⟨gb269, 15, none⟩ = some (.int .i64 a0_15) := (blk_cell BK269.out 15).trans rfl; have hfz47_0 := blk_frozen BK269.out 0; have hfz47_1 := blk_frozen BK269.out 1; have hfz47_2 := blk_frozen BK269.out 2; have hfz47_3 := blk_frozen BK269.out 3; have hfz47_4 := blk_frozen BK269.out 4; have hfz47_5 := blk_frozen BK269.out 5; have hfz47_6 := blk_frozen BK269.out 6; have hfz47_7 := blk_frozen BK269.out 7; have hfz47_8 := blk_frozen BK269.out 8; have hfz47_9 := blk_frozen BK269.out 9; have hfz47_10 := blk_frozen BK269.out 10; have hfz47_11 := blk_frozen BK269.out 11; have hfz47_12 := blk_frozen BK269.out 12; have hfz47_13 := blk_frozen BK269.out 13; have hfz47_14 := blk_frozen BK269.out 14; have hfz47_15 := blk_frozen BK269.out 15) | ((with_reducible refine gate_callee (f := 21) rfl ?_); refine goesL_ (some 5) rfl rfl Try.func21 (by kernel_rfl) rfl #[.agg #[.int .i64 a0_0, .string a0_1, .slice A0_2 l0_2.length c0_2, .slice A0_3 l0_3.length c0_3]] rfl (by (try simp only [List.map_toArray, List.map_cons, List.map_nil]); first | done | rfl | (simp only [List.length_drop, List.length_take]; rfl)) ?_; (with_reducible refine (treemergelaw31_small.calls k a0_0 a0_1 _ _ l0_2 _ _ l0_3 false _ ?side1 ?side2 ?side3 ?side4 A2.out).mono ?_); (case side1 => repeat (first | exact (Kd.C_below HR0_2.out HB.out) | (with_reducible refine Kd.C_alloc ?_ _) | (with_reducible refine Kd.C_drewN ?_ _) | (with_reducible refine Kd.C_drew ?_))); (case side2 => exact HC0_2.out); (case side3 => repeat (first | exact (Kd.C_below HR0_3.out HB.out) | (with_reducible refine Kd.C_alloc ?_ _) | (with_reducible refine Kd.C_drewN ?_ _) | (with_reducible refine Kd.C_drew ?_))); (case side4 => exact HC0_3.out); rintro e w48 ⟨rfl, hb⟩; refine ⟨_, rfl, ?_⟩; have n0_ := Aside0.mk (blk_below (g := gb269) (o := .cells #[.int .i64 a0_0, .string a0_1, .slice A0_2 l0_2.length c0_2, .slice A0_3 l0_3.length c0_3, .int .i64 a0_4, .string a0_5, .slice A0_6 l0_6.length c0_6, .slice A0_7 l0_7.length c0_7, .int .i64 a0_8, .string a0_9, .slice A0_10 l0_10.length c0_10, .slice A0_11 l0_11.length c0_11, .slice A0_12 l0_12.length c0_12, .slice A0_13 l0_13.length c0_13, .slice A0_14 l0_14.length c0_14, .int .i64 a0_15] 42 (0, 0)) (by (with_reducible repeat (first | refine blk_drewN ?_ _ | refine blk_drew ?_ | refine blk_alloc ?_ _)); exact BK269.out) hb); have n1_ := Aside0.mk (below_step (by repeat (first | (with_reducible first | exact HB.out | apply below_alloc | apply pw_below_drewN | apply below_drew1 | refine below_set ?_ GE269.out) | exact HB.out)) hb); clear BK269; clear HB; have BK269 := n0_; have HB := n1_; clear n0_ n1_; (try clear hb); (try clear hb2); (try clear hk); (try clear hi)))
    go_ret
    exact ⟨by first | rfl | (simp [errW_none, errW_some] <;> rfl) | (simp [*, errW_none, errW_some] <;> rfl), by repeat (first | (with_reducible first | exact HB.out | apply below_alloc | apply pw_below_drewN | apply below_drew1 | refine below_set ?_ GE269.out) | exact HB.out)⟩

end Go.Proofs.Ytcfjdehpbckomaa.Q
