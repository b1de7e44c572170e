-- Written by a program of this session (mk.py) out of the translation; Lean checks it.
import Derived.Test.YtcajhkbobpakaaaDoorQ0
import Derived.Test.YtcajhkbobpakaaaDoorQ1
import Derived.Test.YtcajhkbobpakaaaDoorQ7
namespace Go.Proofs.YtcajhkbobpakaaaDoor.Q
open Go.RowKit Go.Proofs.YtcajhkbobpakaaaDoorW.PrintWords Go.Proofs.YtcajhkbobpakaaaDoorW.PrintLast Go.Proofs.YtcajhkbobpakaaaDoorW.PrintMore
attribute [local go_sem] max2_int min2_int max_two min_two max_three min_three max_four min_four   -- for this text's walks alone
set_option linter.unusedVariables false
set_option linter.unusedSimpArgs false

/-! ### treemergeref01_Split: function 49 -/
def treemergeref01_Split.l0 : Nat → ByteArray → List ByteArray → Int → Int → Option (List ByteArray)
  | 0, _, _, _, _ => none
  | k + 1, x0, x3, x4, x5 => if x5 < (x0.size : Int) then (if 0 ≤ x5 then (if (bt x0 x5) = 10 then (if 0 ≤ x4 then (if x4 ≤ (wrap64 (x5 + 1)) then (if (wrap64 (x5 + 1)) ≤ (x0.size : Int) then (if x3.length < 8796093022208 then (treemergeref01_Split.l0 k x0 (x3 ++ [x0.extract (x4 : Int).toNat ((wrap64 (x5 + 1)) : Int).toNat]) (wrap64 (x5 + 1)) (wrap64 (x5 + 1))) else (none)) else (none)) else (none)) else (none)) else (treemergeref01_Split.l0 k x0 x3 x4 (wrap64 (x5 + 1)))) else (none)) else (if x4 < (x0.size : Int) then (if 0 ≤ x4 then (if x4 ≤ (x0.size : Int) then (if x3.length < 8796093022208 then (some (x3 ++ [x0.extract (x4 : Int).toNat x0.size])) else (none)) else (none)) else (none)) else (some x3))
def treemergeref01_Split.f (k : Nat) (a0 : ByteArray) : Option (List ByteArray) := treemergeref01_Split.l0 k a0 ([] : List ByteArray) 0 0
theorem treemergeref01_Split.mono_l : ∀ k, (∀ y0 y1 y2 y3, LeO (treemergeref01_Split.l0 k y0 y1 y2 y3) (treemergeref01_Split.l0 (k + 1) y0 y1 y2 y3))
  | 0 => fun _ _ _ _ r h => by simp [treemergeref01_Split.l0] at h
  | k + 1 => by
    have ih0 := treemergeref01_Split.mono_l k
    · intro y0 y1 y2 y3
      unfold treemergeref01_Split.l0
      repeat' first
      | (with_reducible exact ih0 _ _ _ _)
      | (with_reducible exact LeO.refl _)
      | (with_reducible exact LeO.none _)
      | (with_reducible refine LeO.ite ?_ ?_)
      | (with_reducible refine LeO.bind ?_ (fun _ => ?_))
      | exact ih0 _ _ _ _
      | exact LeO.none _
      | refine LeO.ite ?_ ?_
      | refine LeO.bind ?_ (fun _ => ?_)
theorem treemergeref01_Split.mono : ∀ a0 k, LeO (treemergeref01_Split.f k a0) (treemergeref01_Split.f (k + 1) a0) := by
  intro a0 k
  have ih0 := treemergeref01_Split.mono_l k
  unfold treemergeref01_Split.f
  repeat' first
      | (with_reducible exact ih0 _ _ _ _)
      | (with_reducible exact LeO.refl _)
      | (with_reducible exact LeO.none _)
      | (with_reducible refine LeO.ite ?_ ?_)
      | (with_reducible refine LeO.bind ?_ (fun _ => ?_))
      | exact ih0 _ _ _ _
      | exact LeO.none _
      | refine LeO.ite ?_ ?_
      | refine LeO.bind ?_ (fun _ => ?_)
set_option maxHeartbeats 8000000 in
set_option maxRecDepth 100000 in
theorem treemergeref01_Split.calls (k : Nat) (a0 : ByteArray) (r : List ByteArray) (w : World) (h : treemergeref01_Split.f k a0 = some r) :
    Calls Tryd.prog 49 #[.string a0] w fun e w' => ∃ v0_ : Value, e = .returned (v0_) ∧ Kd.R Kd.string 9 w' w.heap.size (fun _ => True) v0_ r ∧ Below w.heap.size w w' := by
  have HB := Aside0.mk (Below.refl w.heap.size w)
  have H : (treemergeref01_Split.l0 k a0 ([] : List ByteArray) 0 0) = some r := h
  clear h
  have H' := Aside0.mk H
  clear H
  go_enter Tryd.func49, Tryd.ntmps49
  go_wp2
  go_loopg [3, 4, 5] k (fun kq v3 v4 v5 w' => ∃ (x3_1 : List ByteArray) (x4_1 : Int) (x5_1 : Int), v4 = .int .i64 x4_1 ∧ v5 = .int .i64 x5_1 ∧ Aside0 (treemergeref01_Split.l0 kq a0 x3_1 x4_1 x5_1 = some r) ∧ Aside0 (kq ≤ k) ∧ Aside0 (Kd.R Kd.string 9 w' w.heap.size (fun _ => True) v3 x3_1) ∧ Aside0 (Below w.heap.size w w'))
  case atStart => exact ⟨(([] : List ByteArray)), (0), (0), (by first | rfl | (simp; done) | (simp [*]; done)), (by first | rfl | (simp; done) | (simp [*]; done)), H', ⟨Nat.le_refl _⟩, ⟨by first | exact Kd.R_nil _ _ _ _ _ | exact Kd.N_nil _ _ _ _ _ | exact Kd.V_nil _ _ _ _ _ | exact Kd.Q_nil _ _ _ _ _ | exact Kd.S_nil _ _ _ _ _⟩, ⟨by repeat (first | (with_reducible first | exact HB.out | apply below_alloc | apply pw_below_drewN | apply below_drew1) | exact HB.out)⟩⟩
  case round =>
    clear H'
    obtain ⟨x3_1, x4_1, x5_1, rfl, rfl, HA, HK1, HO_3, HB⟩ := hrel
    cases gk with
    | zero => exact absurd HA.out (by simp [treemergeref01_Split.l0])
    | succ k1 =>
      have H := HA.out
      clear HA
      simp only [treemergeref01_Split.l0] at H
      by_cases c2 : x5_1 < (a0.size : Int)
      · rw [if_pos c2] at H
        have c2b0 : decide (x5_1 < (a0.size : Int)) = true := decide_eq_true c2
        clear c2
        by_cases c3 : 0 ≤ x5_1
        · rw [if_pos c3] at H
          have c3b0 : decide (0 ≤ x5_1) = true := decide_eq_true c3
          clear c3
          by_cases c5 : (bt a0 x5_1) = 10
          · rw [if_pos c5] at H
            have c5b0 : ((bt a0 x5_1) == 10) = true := beq_iff_eq.mpr c5
            have c5b1 : ((bt a0 x5_1) != 10) = false := bne_eq_false_iff_eq.mpr c5
            clear c5
            by_cases c6 : 0 ≤ x4_1
            · rw [if_pos c6] at H
              have c6b0 := eq_true c6
              have c6b1 : decide (0 ≤ x4_1) = true := decide_eq_true c6
              clear c6
              by_cases c7 : x4_1 ≤ (wrap64 (x5_1 + 1))
              · rw [if_pos c7] at H
                have c7b0 := eq_true c7
                have c7b1 : decide (x4_1 ≤ (wrap64 (x5_1 + 1))) = true := decide_eq_true c7
                by_cases c8 : (wrap64 (x5_1 + 1)) ≤ (a0.size : Int)
                · rw [if_pos c8] at H
                  have c8b0 := eq_true c8
                  have c8b1 : decide ((wrap64 (x5_1 + 1)) ≤ (a0.size : Int)) = true := decide_eq_true c8
                  by_cases c9 : x3_1.length < 8796093022208
                  · rw [if_pos c9] at H
                    have LMc9 := Aside0.mk c9
                    clear c9
                    obtain ⟨y212, hy212⟩ : ∃ y_ : List ByteArray, y_ = (x3_1 ++ [a0.extract (x4_1 : Int).toNat ((wrap64 (x5_1 + 1)) : Int).toNat]) := ⟨_, rfl⟩
                    replace H : (treemergeref01_Split.l0 k1 a0 y212 (wrap64 (x5_1 + 1)) (wrap64 (x5_1 + 1))) = some r := by first | (rw [hy212]; with_reducible exact H) | (have H2_ := (Option.bind_some _ _).symm.trans H; rw [hy212]; with_reducible exact H2_) | (have H2_ := (Option.bind_some _ _).symm.trans H; with_reducible exact H2_) | with_reducible exact H | (rw [hy212]; exact H) | exact H
                    have Ny212 := Aside0.mk hy212
                    clear hy212
                    have H' := Aside0.mk H
                    clear H
                    have p4 : 0 ≤ (x5_1 : Int) := of_decide_eq_true (by first | (with_reducible assumption) | assumption)
                    have q4 : x5_1 < (a0.size : Int) := of_decide_eq_true (by first | (with_reducible assumption) | assumption)
                    have hx4 := bt_at a0 x5_1
                    replace p4 := eq_true p4
                    replace q4 := eq_true q4
                    go_wp2_with (first | ((with_reducible refine gate_builtin (b := .append) (xs := #[.tmp 16, .tmp 22]) rfl ?_); at_builtin; refine Kd.R_append Kd.string (w0 := w) w.heap.size rfl (.tmp 16) (.tmp 22) 28 9 (.string ⟨#[]⟩) 16 rfl Tryd.underlying28 info9 rfl (by decide) (by omega) u3 x3_1 (a0.extract (x4_1 : Int).toNat ((wrap64 (x5_1 + 1)) : Int).toNat) [.string (a0.extract (x4_1 : Int).toNat ((wrap64 (x5_1 + 1)) : Int).toNat)] (fun _ => True) (fun _ => False) rfl rfl ?aP (fun _ hk => hk.elim) ?aF ?aO ?aB ?aS ?aL ?_; (case aP => exact rfl); (case aB => exact (by repeat (first | (with_reducible first | exact HB.out | apply below_alloc | apply pw_below_drewN | apply below_drew1) | exact HB.out))); (case aF => exact (fun _ _ => trivial)); (case aO => exact (by (with_reducible repeat (first | apply Kd.R_alloc | apply Kd.R_drewN | apply Kd.R_drew)); exact HO_3.out)); (case aS => exact (below_size (by repeat (first | (with_reducible first | exact HB.out | apply below_alloc | apply pw_below_drewN | apply below_drew1) | exact HB.out)))); (case aL => have := LMc9.out; omega); intro v213 w10 ho hb hg hat; rw [← Ny212.out] at ho; have n0_ := Aside0.mk (hb); have n1_ := Aside0.mk (ho); clear HB; clear HO_3; have HB := n0_; have HO214 := n1_; clear n0_ n1_; clear ho hb hg hat))
                    go_roundg k1
                    case measure => have := HK1.out; omega
                    case rel => exact ⟨(y212), (wrap64 (x5_1 + 1)), (wrap64 (x5_1 + 1)), (by first | rfl | (simp; done) | (simp [*]; done)), (by first | rfl | (simp; done) | (simp [*]; done)), H', ⟨by have := HK1.out; omega⟩, ⟨by (with_reducible repeat (first | apply Kd.R_alloc | apply Kd.R_drewN | apply Kd.R_drew)); exact HO214.out⟩, ⟨by repeat (first | (with_reducible first | exact HB.out | apply below_alloc | apply pw_below_drewN | apply below_drew1) | exact HB.out)⟩⟩
                  · rw [if_neg c9] at H
                    exact absurd H (by simp)
                · rw [if_neg c8] at H
                  exact absurd H (by simp)
              · rw [if_neg c7] at H
                exact absurd H (by simp)
            · rw [if_neg c6] at H
              exact absurd H (by simp)
          · rw [if_neg c5] at H
            have c5b0 : ((bt a0 x5_1) == 10) = false := beq_eq_false_iff_ne.mpr c5
            have c5b1 : ((bt a0 x5_1) != 10) = true := bne_iff_ne.mpr c5
            have H' := Aside0.mk H
            clear H
            have p4 : 0 ≤ (x5_1 : Int) := of_decide_eq_true (by first | (with_reducible assumption) | assumption)
            have q4 : x5_1 < (a0.size : Int) := of_decide_eq_true (by first | (with_reducible assumption) | assumption)
            have hx4 := bt_at a0 x5_1
            replace p4 := eq_true p4
            replace q4 := eq_true q4
            go_wp2
            go_roundg k1
            case measure => have := HK1.out; omega
            case rel => exact ⟨(x3_1), (x4_1), (wrap64 (x5_1 + 1)), (by first | rfl | (simp; done) | (simp [*]; done)), (by first | rfl | (simp; done) | (simp [*]; done)), H', ⟨by have := HK1.out; omega⟩, ⟨by (with_reducible repeat (first | apply Kd.R_alloc | apply Kd.R_drewN | apply Kd.R_drew)); exact HO_3.out⟩, ⟨by repeat (first | (with_reducible first | exact HB.out | apply below_alloc | apply pw_below_drewN | apply below_drew1) | exact HB.out)⟩⟩
        · rw [if_neg c3] at H
          exact absurd H (by simp)
      · rw [if_neg c2] at H
        have c2b0 : decide (x5_1 < (a0.size : Int)) = false := decide_eq_false c2
        clear c2
        by_cases c11 : x4_1 < (a0.size : Int)
        · rw [if_pos c11] at H
          have c11b0 : decide (x4_1 < (a0.size : Int)) = true := decide_eq_true c11
          clear c11
          by_cases c12 : 0 ≤ x4_1
          · rw [if_pos c12] at H
            have c12b0 := eq_true c12
            have c12b1 : decide (0 ≤ x4_1) = true := decide_eq_true c12
            clear c12
            by_cases c13 : x4_1 ≤ (a0.size : Int)
            · rw [if_pos c13] at H
              have c13b0 := eq_true c13
              have c13b1 : decide (x4_1 ≤ (a0.size : Int)) = true := decide_eq_true c13
              clear c13
              by_cases c14 : x3_1.length < 8796093022208
              · rw [if_pos c14] at H
                have LMc14 := Aside0.mk c14
                clear c14
                obtain ⟨y215, hy215⟩ : ∃ y_ : List ByteArray, y_ = (x3_1 ++ [a0.extract (x4_1 : Int).toNat a0.size]) := ⟨_, rfl⟩
                replace H : (some y215) = some r := by first | (rw [hy215]; with_reducible exact H) | (have H2_ := (Option.bind_some _ _).symm.trans H; rw [hy215]; with_reducible exact H2_) | (have H2_ := (Option.bind_some _ _).symm.trans H; with_reducible exact H2_) | with_reducible exact H | (rw [hy215]; exact H) | exact H
                have Ny215 := Aside0.mk hy215
                clear hy215
                obtain rfl := Option.some.inj H
                go_wp2_with (first | ((with_reducible refine gate_builtin (b := .append) (xs := #[.tmp 30, .tmp 34]) rfl ?_); at_builtin; refine Kd.R_append Kd.string (w0 := w) w.heap.size rfl (.tmp 30) (.tmp 34) 28 9 (.string ⟨#[]⟩) 16 rfl Tryd.underlying28 info9 rfl (by decide) (by omega) u3 x3_1 (a0.extract (x4_1 : Int).toNat a0.size) [.string (a0.extract (x4_1 : Int).toNat a0.size)] (fun _ => True) (fun _ => False) rfl rfl ?aP (fun _ hk => hk.elim) ?aF ?aO ?aB ?aS ?aL ?_; (case aP => exact rfl); (case aB => exact (by repeat (first | (with_reducible first | exact HB.out | apply below_alloc | apply pw_below_drewN | apply below_drew1) | exact HB.out))); (case aF => exact (fun _ _ => trivial)); (case aO => exact (by (with_reducible repeat (first | apply Kd.R_alloc | apply Kd.R_drewN | apply Kd.R_drew)); exact HO_3.out)); (case aS => exact (below_size (by repeat (first | (with_reducible first | exact HB.out | apply below_alloc | apply pw_below_drewN | apply below_drew1) | exact HB.out)))); (case aL => have := LMc14.out; omega); intro v216 w15 ho hb hg hat; rw [← Ny215.out] at ho; have n0_ := Aside0.mk (hb); have n1_ := Aside0.mk (ho); clear HB; clear HO_3; have HB := n0_; have HO217 := n1_; clear n0_ n1_; clear ho hb hg hat))
                go_ret
                exact ⟨_, by first | rfl | (simp [errW_none, errW_some] <;> rfl) | (simp [*, errW_none, errW_some] <;> rfl), by (with_reducible repeat (first | apply Kd.R_alloc | apply Kd.R_drewN | apply Kd.R_drew)); exact HO217.out, by repeat (first | (with_reducible first | exact HB.out | apply below_alloc | apply pw_below_drewN | apply below_drew1) | exact HB.out)⟩
              · rw [if_neg c14] at H
                exact absurd H (by simp)
            · rw [if_neg c13] at H
              exact absurd H (by simp)
          · rw [if_neg c12] at H
            exact absurd H (by simp)
        · rw [if_neg c11] at H
          have c11b0 : decide (x4_1 < (a0.size : Int)) = false := decide_eq_false c11
          clear c11
          obtain rfl := Option.some.inj H
          go_wp2
          go_ret
          exact ⟨_, by first | rfl | (simp [errW_none, errW_some] <;> rfl) | (simp [*, errW_none, errW_some] <;> rfl), by (with_reducible repeat (first | apply Kd.R_alloc | apply Kd.R_drewN | apply Kd.R_drew)); exact HO_3.out, by repeat (first | (with_reducible first | exact HB.out | apply below_alloc | apply pw_below_drewN | apply below_drew1) | exact HB.out)⟩

/-! ### treemergeref34_bare: function 61 -/
def treemergeref34_bare.f (a0 : ByteArray) : Option (ByteArray) := if (a0.size : Int) > 0 then (if 0 ≤ (wrap64 ((a0.size : Int) - 1)) then (if (wrap64 ((a0.size : Int) - 1)) < (a0.size : Int) then (if (bt a0 (wrap64 ((a0.size : Int) - 1))) = 10 then (if (wrap64 ((a0.size : Int) - 1)) ≤ (a0.size : Int) then (some (a0.extract 0 ((wrap64 ((a0.size : Int) - 1)) : Int).toNat)) else (none)) else (some a0)) else (none)) else (none)) else (some a0)
set_option maxHeartbeats 8000000 in
set_option maxRecDepth 100000 in
theorem treemergeref34_bare.calls (a0 : ByteArray) (r : ByteArray) (w : World) (h : treemergeref34_bare.f a0 = some r) :
    Calls Tryd.prog 61 #[.string a0] w fun e w' => e = .returned (.string r) ∧ Drawn0 w w' := by
  have H : (if (a0.size : Int) > 0 then (if 0 ≤ (wrap64 ((a0.size : Int) - 1)) then (if (wrap64 ((a0.size : Int) - 1)) < (a0.size : Int) then (if (bt a0 (wrap64 ((a0.size : Int) - 1))) = 10 then (if (wrap64 ((a0.size : Int) - 1)) ≤ (a0.size : Int) then (some (a0.extract 0 ((wrap64 ((a0.size : Int) - 1)) : Int).toNat)) else (none)) else (some a0)) else (none)) else (none)) else (some a0)) = some r := h
  clear h
  by_cases c2 : (a0.size : Int) > 0
  · rw [if_pos c2] at H
    have c2b0 : decide (0 < (a0.size : Int)) = true := decide_eq_true c2
    have c2b1 : decide (0 < a0.size) = true := decide_eq_true (by omega)
    clear c2
    obtain ⟨ji3, hji3⟩ : ∃ j_ : Int, (wrap64 ((a0.size : Int) - 1)) = j_ := ⟨_, rfl⟩
    replace H : (if 0 ≤ (ji3) then (if (ji3) < (a0.size : Int) then (if (bt a0 (ji3)) = 10 then (if (ji3) ≤ (a0.size : Int) then (some (a0.extract 0 ((ji3) : Int).toNat)) else (none)) else (some a0)) else (none)) else (none)) = some r := by first | (rw [hji3] at H; exact H) | (simp only [hji3] at H ⊢; exact H)
    have hji3w : (IntKind.i64.wrap ((a0.size : Int) - 1)) = ji3 := (i64_w _).trans hji3
    by_cases c4 : 0 ≤ (ji3)
    · rw [if_pos c4] at H
      have c4b0 : decide (0 ≤ (ji3)) = true := decide_eq_true c4
      clear c4
      by_cases c5 : (ji3) < (a0.size : Int)
      · rw [if_pos c5] at H
        have c5b0 : decide ((ji3) < (a0.size : Int)) = true := decide_eq_true c5
        clear c5
        by_cases c7 : (bt a0 (ji3)) = 10
        · rw [if_pos c7] at H
          have c7b0 : ((bt a0 (ji3)) == 10) = true := beq_iff_eq.mpr c7
          have c7b1 : ((bt a0 (ji3)) != 10) = false := bne_eq_false_iff_eq.mpr c7
          clear c7
          have c8b0 := eq_true (of_decide_eq_true (by first | (with_reducible assumption) | assumption) : 0 ≤ (ji3))
          by_cases c9 : (ji3) ≤ (a0.size : Int)
          · rw [if_pos c9] at H
            have c9b0 := eq_true c9
            have c9b1 : decide ((ji3) ≤ (a0.size : Int)) = true := decide_eq_true c9
            clear c9
            obtain rfl := Option.some.inj H
            have p6 : 0 ≤ ((ji3) : Int) := of_decide_eq_true (by first | (with_reducible assumption) | assumption)
            have q6 : (ji3) < (a0.size : Int) := of_decide_eq_true (by first | (with_reducible assumption) | assumption)
            have hx6 := bt_at a0 (ji3)
            replace p6 := eq_true p6
            replace q6 := eq_true q6
            go_enter Tryd.func61, Tryd.ntmps61
            go_wp2
            go_ret
            exact ⟨by first | rfl | (simp; done) | (simp only [← hji3] <;> (first | rfl | simp)) | (simp [*]; done), by repeat (first | exact Drawn0.refl _ | apply Drawn0.step)⟩
          · rw [if_neg c9] at H
            exact absurd H (by simp)
        · rw [if_neg c7] at H
          have c7b0 : ((bt a0 (ji3)) == 10) = false := beq_eq_false_iff_ne.mpr c7
          have c7b1 : ((bt a0 (ji3)) != 10) = true := bne_iff_ne.mpr c7
          obtain rfl := Option.some.inj H
          have p6 : 0 ≤ ((ji3) : Int) := of_decide_eq_true (by first | (with_reducible assumption) | assumption)
          have q6 : (ji3) < (a0.size : Int) := of_decide_eq_true (by first | (with_reducible assumption) | assumption)
          have hx6 := bt_at a0 (ji3)
          replace p6 := eq_true p6
          replace q6 := eq_true q6
          go_enter Tryd.func61, Tryd.ntmps61
          go_wp2
          go_ret
          exact ⟨by first | rfl | (simp; done) | (simp only [← hji3] <;> (first | rfl | simp)) | (simp [*]; done), by repeat (first | exact Drawn0.refl _ | apply Drawn0.step)⟩
      · rw [if_neg c5] at H
        exact absurd H (by simp)
    · rw [if_neg c4] at H
      exact absurd H (by simp)
  · rw [if_neg c2] at H
    have c2b0 : decide (0 < (a0.size : Int)) = false := decide_eq_false c2
    have c2b1 : decide (0 < a0.size) = false := decide_eq_false (by omega)
    clear c2
    obtain rfl := Option.some.inj H
    go_enter Tryd.func61, Tryd.ntmps61
    go_wp2
    go_ret
    exact ⟨by first | rfl | (simp; done) | (simp [*]; done), by repeat (first | exact Drawn0.refl _ | apply Drawn0.step)⟩

/-! ### treemergeref34_version: function 39 -/
def treemergeref34_version.l0 : Nat → ByteArray → List ByteArray → List ByteArray → Int → Option (List ByteArray)
  | 0, _, _, _, _ => none
  | k + 1, x1, x7, x8, x9 => if x9 < (x8.length : Int) then (if x1.size + 2 ≤ 9223372036854775807 then (if 0 ≤ x9 then ((treemergeref34_bare.f (rdOf ByteArray.empty x8 x9)).bind fun t225 => (if (x1 ++ (⟨#[58, 32]⟩ : ByteArray)).size + t225.size ≤ 9223372036854775807 then (if ((x1 ++ (⟨#[58, 32]⟩ : ByteArray)) ++ t225).size + 1 ≤ 9223372036854775807 then (if x7.length < 8796093022208 then (treemergeref34_version.l0 k x1 (x7 ++ [((x1 ++ (⟨#[58, 32]⟩ : ByteArray)) ++ t225) ++ (⟨#[10]⟩ : ByteArray)]) x8 (wrap64 (x9 + 1))) else (none)) else (none)) else (none))) else (none)) else (none)) else (some x7)
def treemergeref34_version.f (k : Nat) (l0 : List ByteArray) (a1 : ByteArray) (a2 : ByteArray) : Option (List ByteArray) := if a2.toList = ([] : List UInt8) then (if a1.size + 9 ≤ 9223372036854775807 then (if l0.length < 8796093022208 then (some (l0 ++ [a1 ++ (⟨#[58, 32, 40, 110, 111, 110, 101, 41, 10]⟩ : ByteArray)])) else (none)) else (none)) else ((treemergeref01_Split.f k a2).bind fun t221 => (treemergeref34_version.l0 k a1 l0 t221 0))
theorem treemergeref34_version.mono_l : ∀ k, (∀ y0 y1 y2 y3, LeO (treemergeref34_version.l0 k y0 y1 y2 y3) (treemergeref34_version.l0 (k + 1) y0 y1 y2 y3))
  | 0 => fun _ _ _ _ r h => by simp [treemergeref34_version.l0] at h
  | k + 1 => by
    have ih0 := treemergeref34_version.mono_l k
    · intro y0 y1 y2 y3
      unfold treemergeref34_version.l0
      repeat' first
      | (with_reducible exact ih0 _ _ _ _)
      | (with_reducible exact treemergeref01_Split.mono _ _)
      | (with_reducible exact LeO.refl _)
      | (with_reducible exact LeO.none _)
      | (with_reducible refine LeO.ite ?_ ?_)
      | (with_reducible refine LeO.bind ?_ (fun _ => ?_))
      | exact ih0 _ _ _ _
      | exact treemergeref01_Split.mono _ _
      | exact LeO.none _
      | refine LeO.ite ?_ ?_
      | refine LeO.bind ?_ (fun _ => ?_)
theorem treemergeref34_version.mono : ∀ a0 a1 a2 k, LeO (treemergeref34_version.f k a0 a1 a2) (treemergeref34_version.f (k + 1) a0 a1 a2) := by
  intro a0 a1 a2 k
  have ih0 := treemergeref34_version.mono_l k
  unfold treemergeref34_version.f
  repeat' first
      | (with_reducible exact ih0 _ _ _ _)
      | (with_reducible exact treemergeref01_Split.mono _ _)
      | (with_reducible exact LeO.refl _)
      | (with_reducible exact LeO.none _)
      | (with_reducible refine LeO.ite ?_ ?_)
      | (with_reducible refine LeO.bind ?_ (fun _ => ?_))
      | exact ih0 _ _ _ _
      | exact treemergeref01_Split.mono _ _
      | exact LeO.none _
      | refine LeO.ite ?_ ?_
      | refine LeO.bind ?_ (fun _ => ?_)
set_option maxHeartbeats 8000000 in
set_option maxRecDepth 100000 in
theorem treemergeref34_version.calls (k : Nat) (P0_ : Nat → Prop) (u9000_ : Value) (l0 : List ByteArray) (a1 : ByteArray) (a2 : ByteArray) (r : List ByteArray) (w0 w : World) (hB : Below w0.heap.size w0 w) (ho0 : Kd.R Kd.string 9 w w0.heap.size P0_ u9000_ l0) (h : treemergeref34_version.f k l0 a1 a2 = some r) :
    Calls Tryd.prog 39 #[u9000_, .string a1, .string a2] w fun e w' => ∃ v0_ : Value, e = .returned (v0_) ∧ Kd.R Kd.string 9 w' w0.heap.size (fun k_ => (P0_ k_ ∨ w.heap.size ≤ k_)) v0_ r ∧ Below w0.heap.size w0 w' ∧ Kept w w' (fun k_ => P0_ k_) := by
  have HO0 := Aside0.mk (show Kd.R Kd.string 9 w w0.heap.size (fun k_ => (P0_ k_ ∨ w.heap.size ≤ k_)) u9000_ l0 from Kd.R_mono ho0 (fun k_ hk => (.inl hk)))
  have HK := Aside0.mk (Kept.refl w (fun k_ => P0_ k_))
  have HW0 := Aside0.mk hB.size
  have HB := Aside0.mk hB
  clear hB
  have H : (if a2.toList = ([] : List UInt8) then (if a1.size + 9 ≤ 9223372036854775807 then (if l0.length < 8796093022208 then (some (l0 ++ [a1 ++ (⟨#[58, 32, 40, 110, 111, 110, 101, 41, 10]⟩ : ByteArray)])) else (none)) else (none)) else ((treemergeref01_Split.f k a2).bind fun t221 => (treemergeref34_version.l0 k a1 l0 t221 0))) = some r := h
  clear h
  by_cases c4 : a2.toList = ([] : List UInt8)
  · rw [if_pos c4] at H
    have c4b0 : (a2.toList == ([] : List UInt8)) = true := beq_iff_eq.mpr c4
    have c4b1 : (a2.toList != ([] : List UInt8)) = false := bne_eq_false_iff_eq.mpr c4
    clear c4
    by_cases c5 : a1.size + 9 ≤ 9223372036854775807
    · rw [if_pos c5] at H
      have c5b0 := eq_true c5
      have c5b1 : decide (a1.size + 9 ≤ 9223372036854775807) = true := decide_eq_true c5
      try have c5b2 : (9223372036854775807 < a1.size + 9) = False := eq_false (Nat.not_lt.2 c5)
      by_cases c6 : l0.length < 8796093022208
      · rw [if_pos c6] at H
        have LMc6 := Aside0.mk c6
        clear c6
        obtain ⟨y218, hy218⟩ : ∃ y_ : List ByteArray, y_ = (l0 ++ [a1 ++ (⟨#[58, 32, 40, 110, 111, 110, 101, 41, 10]⟩ : ByteArray)]) := ⟨_, rfl⟩
        replace H : (some y218) = some r := by first | (rw [hy218]; with_reducible exact H) | (have H2_ := (Option.bind_some _ _).symm.trans H; rw [hy218]; with_reducible exact H2_) | (have H2_ := (Option.bind_some _ _).symm.trans H; with_reducible exact H2_) | with_reducible exact H | (rw [hy218]; exact H) | exact H
        have Ny218 := Aside0.mk hy218
        clear hy218
        obtain rfl := Option.some.inj H
        go_enter Tryd.func39, Tryd.ntmps39
        go_wp2_with (first | ((with_reducible refine gate_builtin (b := .append) (xs := #[.tmp 13, .tmp 16]) rfl ?_); at_builtin; refine Kd.R_append Kd.string (w0 := w0) w0.heap.size rfl (.tmp 13) (.tmp 16) 28 9 (.string ⟨#[]⟩) 16 rfl Tryd.underlying28 info9 rfl (by decide) (by omega) u9000_ l0 (a1 ++ (⟨#[58, 32, 40, 110, 111, 110, 101, 41, 10]⟩ : ByteArray)) [.string (a1 ++ (⟨#[58, 32, 40, 110, 111, 110, 101, 41, 10]⟩ : ByteArray))] (fun k_ => (P0_ k_ ∨ w.heap.size ≤ k_)) (fun _ => False) rfl rfl ?aP (fun _ hk => hk.elim) ?aF ?aO ?aB ?aS ?aL ?_; (case aP => exact rfl); (case aB => exact (by repeat (first | (with_reducible first | exact HB.out | apply below_alloc | apply pw_below_drewN | apply below_drew1) | exact HB.out))); (case aF => exact (fun k_ hk => (.inr (Nat.le_trans (by first | exact HK.out.1 | exact (show Kept w _ (fun k_ => P0_ k_) from by repeat (first | (with_reducible first | exact HK.out | apply Kept.alloc | apply Kept.drewN | apply Kept.drew) | exact HK.out)).1) hk)))); (case aO => exact (by (with_reducible repeat (first | apply Kd.R_alloc | apply Kd.R_drewN | apply Kd.R_drew)); exact HO0.out)); (case aS => exact (below_size (by repeat (first | (with_reducible first | exact HB.out | apply below_alloc | apply pw_below_drewN | apply below_drew1) | exact HB.out)))); (case aL => have := LMc6.out; omega); intro v219 w7 ho hb hg hat; rw [← Ny218.out] at ho; have n0_ := Aside0.mk (hb); have n1_ := Aside0.mk (Kept.of_grown (S := (fun k_ => P0_ k_)) hg (by repeat (first | (with_reducible first | exact HK.out | apply Kept.alloc | apply Kept.drewN | apply Kept.drew) | exact HK.out)) (fun k_ e_ => (HO0.out.1 k_ e_))); have n2_ := Aside0.mk (ho); clear HB; clear HK; clear HO0; have HB := n0_; have HK := n1_; have HO220 := n2_; clear n0_ n1_ n2_; clear ho hb hg hat))
        go_ret
        exact ⟨_, by first | rfl | (simp [errW_none, errW_some] <;> rfl) | (simp [*, errW_none, errW_some] <;> rfl), by (with_reducible repeat (first | apply Kd.R_alloc | apply Kd.R_drewN | apply Kd.R_drew)); exact HO220.out, by repeat (first | (with_reducible first | exact HB.out | apply below_alloc | apply pw_below_drewN | apply below_drew1) | exact HB.out), by repeat (first | (with_reducible first | exact HK.out | apply Kept.alloc | apply Kept.drewN | apply Kept.drew) | exact HK.out)⟩
      · rw [if_neg c6] at H
        exact absurd H (by simp)
    · rw [if_neg c5] at H
      exact absurd H (by simp)
  · rw [if_neg c4] at H
    have c4b0 : (a2.toList == ([] : List UInt8)) = false := beq_eq_false_iff_ne.mpr c4
    have c4b1 : (a2.toList != ([] : List UInt8)) = true := bne_iff_ne.mpr c4
    replace H := Option.bind_eq_some_iff.mp H
    obtain ⟨t221, A80, H⟩ := H
    replace H : (treemergeref34_version.l0 k a1 l0 t221 0) = some r := H
    have A8 := Aside0.mk A80
    clear A80
    have H' := Aside0.mk H
    clear H
    go_enter Tryd.func39, Tryd.ntmps39
    go_wp2_with (first | ((with_reducible refine gate_callee (f := 49) rfl ?_); refine goesL_ (some 19) rfl rfl Tryd.func49 (by kernel_rfl) rfl #[.string a2] rfl (by (try simp only [List.map_toArray, List.map_cons, List.map_nil]); first | done | rfl | (simp only [List.length_drop, List.length_take]; rfl)) ?_; (with_reducible refine (treemergeref01_Split.calls k a2 t221 _ A8.out).mono ?_); rintro e w9 ⟨v222, rfl, ho0, hb⟩; refine ⟨_, rfl, ?_⟩; have n0_ := Aside0.mk (Kd.R_elder' (by (with_reducible repeat (first | apply Kd.R_alloc | apply Kd.R_drewN | apply Kd.R_drew)); exact HO0.out) (Kd.R_base ho0) hb); have n1_ := Aside0.mk (Kd.R_lower (Kd.R_new' (Kd.R_newM (M := fun k_ => (P0_ k_ ∨ w.heap.size ≤ k_)) ho0 (by first | exact HK.out.1 | exact (show Kept w _ (fun k_ => P0_ k_) from by repeat (first | (with_reducible first | exact HK.out | apply Kept.alloc | apply Kept.drewN | apply Kept.drew) | exact HK.out)).1) (fun k_ h_ => .inr h_)) (Kd.R_lt (by (with_reducible repeat (first | apply Kd.R_alloc | apply Kd.R_drewN | apply Kd.R_drew)); exact HO0.out))) (below_size (by repeat (first | (with_reducible first | exact HB.out | apply below_alloc | apply pw_below_drewN | apply below_drew1) | exact HB.out)))); have n2_ := Aside0.mk (Kept.below (S := (fun k_ => P0_ k_)) (by repeat (first | (with_reducible first | exact HK.out | apply Kept.alloc | apply Kept.drewN | apply Kept.drew) | exact HK.out)) hb); have n3_ := Aside0.mk (below_step (by repeat (first | (with_reducible first | exact HB.out | apply below_alloc | apply pw_below_drewN | apply below_drew1) | exact HB.out)) hb); clear HO0; clear HK; clear HB; have HO0 := n0_; have HO223 := n1_; have HK := n2_; have HB := n3_; clear n0_ n1_ n2_ n3_; (try clear hb); (try clear hb2); (try clear hk); (try clear hi); (try clear ho0)))
    go_loopg [7, 9] k (fun kq v7 v9 w' => ∃ (x7_1 : List ByteArray) (x9_1 : Int), v9 = .int .i64 x9_1 ∧ Aside0 (treemergeref34_version.l0 kq a1 x7_1 t221 x9_1 = some r) ∧ Aside0 (kq ≤ k) ∧ Aside0 (Kd.R Kd.string 9 w' w0.heap.size (fun k_ => (P0_ k_ ∨ w.heap.size ≤ k_) ∧ some k_ ≠ (v222 : Value).ownBlock) v7 x7_1) ∧ Aside0 (Kd.R Kd.string 9 w' w0.heap.size (fun k_ => (P0_ k_ ∨ w.heap.size ≤ k_) ∧ some k_ ≠ (v7 : Value).ownBlock) v222 t221) ∧ Aside0 (Kept w w' (fun k_ => P0_ k_)) ∧ Aside0 (Below w0.heap.size w0 w'))
    case atStart => exact ⟨(l0), (0), (by first | rfl | (simp; done) | (simp [*]; done)), H', ⟨Nat.le_refl _⟩, ⟨by (with_reducible repeat (first | apply Kd.R_alloc | apply Kd.R_drewN | apply Kd.R_drew)); exact HO0.out⟩, ⟨by (with_reducible repeat (first | apply Kd.R_alloc | apply Kd.R_drewN | apply Kd.R_drew)); exact Kd.R_mono HO223.out (fun _ hk => ⟨hk.1.1, hk.2⟩)⟩, ⟨by repeat (first | (with_reducible first | exact HK.out | apply Kept.alloc | apply Kept.drewN | apply Kept.drew) | exact HK.out)⟩, ⟨by repeat (first | (with_reducible first | exact HB.out | apply below_alloc | apply pw_below_drewN | apply below_drew1) | exact HB.out)⟩⟩
    case round =>
      clear H'
      try clear p2
      try clear c3
      try clear c4
      try clear c4b0
      try clear c4b1
      try clear c5
      try clear c5b0
      try clear c5b1
      try clear c5b2
      try clear c6
      obtain ⟨x7_1, x9_1, rfl, HA, HK1, HO_7, HO_8, HK, HB⟩ := hrel
      cases gk with
      | zero => exact absurd HA.out (by simp [treemergeref34_version.l0])
      | succ k1 =>
        have H := HA.out
        clear HA
        simp only [treemergeref34_version.l0] at H
        by_cases c10 : x9_1 < (t221.length : Int)
        · rw [if_pos c10] at H
          have c10b0 : decide (x9_1 < (t221.length : Int)) = true := decide_eq_true c10
          clear c10
          by_cases c11 : a1.size + 2 ≤ 9223372036854775807
          · rw [if_pos c11] at H
            have c11b0 := eq_true c11
            have c11b1 : decide (a1.size + 2 ≤ 9223372036854775807) = true := decide_eq_true c11
            try have c11b2 : (9223372036854775807 < a1.size + 2) = False := eq_false (Nat.not_lt.2 c11)
            by_cases c12 : 0 ≤ x9_1
            · rw [if_pos c12] at H
              have c12b0 : decide (0 ≤ x9_1) = true := decide_eq_true c12
              clear c12
              replace H := Option.bind_eq_some_iff.mp H
              obtain ⟨t225, A130, H⟩ := H
              replace H : (if (a1 ++ (⟨#[58, 32]⟩ : ByteArray)).size + t225.size ≤ 9223372036854775807 then (if ((a1 ++ (⟨#[58, 32]⟩ : ByteArray)) ++ t225).size + 1 ≤ 9223372036854775807 then (if x7_1.length < 8796093022208 then (treemergeref34_version.l0 k1 a1 (x7_1 ++ [((a1 ++ (⟨#[58, 32]⟩ : ByteArray)) ++ t225) ++ (⟨#[10]⟩ : ByteArray)]) t221 (wrap64 (x9_1 + 1))) else (none)) else (none)) else (none)) = some r := H
              have A13 := Aside0.mk A130
              clear A130
              by_cases c14 : (a1 ++ (⟨#[58, 32]⟩ : ByteArray)).size + t225.size ≤ 9223372036854775807
              · rw [if_pos c14] at H
                have c14b0 := eq_true c14
                have c14b1 : decide ((a1 ++ (⟨#[58, 32]⟩ : ByteArray)).size + t225.size ≤ 9223372036854775807) = true := decide_eq_true c14
                try have c14b2 : (9223372036854775807 < (a1 ++ (⟨#[58, 32]⟩ : ByteArray)).size + t225.size) = False := eq_false (Nat.not_lt.2 c14)
                try have c14b3 : (9223372036854775807 < a1.size + 2 + t225.size) = False := eq_false (by have h_ : a1.size + 2 + t225.size ≤ 9223372036854775807 := (by have h_ := c14; (repeat rw [ByteArray.size_append] at h_); exact h_); omega)
                by_cases c15 : ((a1 ++ (⟨#[58, 32]⟩ : ByteArray)) ++ t225).size + 1 ≤ 9223372036854775807
                · rw [if_pos c15] at H
                  have c15b0 := eq_true c15
                  have c15b1 : decide (((a1 ++ (⟨#[58, 32]⟩ : ByteArray)) ++ t225).size + 1 ≤ 9223372036854775807) = true := decide_eq_true c15
                  try have c15b2 : (9223372036854775807 < ((a1 ++ (⟨#[58, 32]⟩ : ByteArray)) ++ t225).size + 1) = False := eq_false (Nat.not_lt.2 c15)
                  try have c15b3 : (9223372036854775807 < a1.size + 2 + t225.size + 1) = False := eq_false (by have h_ : a1.size + 2 + t225.size + 1 ≤ 9223372036854775807 := (by have h_ := c15; (repeat rw [ByteArray.size_append] at h_); exact h_); omega)
                  by_cases c16 : x7_1.length < 8796093022208
                  · rw [if_pos c16] at H
                    have LMc16 := Aside0.mk c16
                    clear c16
                    obtain ⟨y226, hy226⟩ : ∃ y_ : List ByteArray, y_ = (x7_1 ++ [((a1 ++ (⟨#[58, 32]⟩ : ByteArray)) ++ t225) ++ (⟨#[10]⟩ : ByteArray)]) := ⟨_, rfl⟩
                    replace H : (treemergeref34_version.l0 k1 a1 y226 t221 (wrap64 (x9_1 + 1))) = some r := by first | (rw [hy226]; with_reducible exact H) | (have H2_ := (Option.bind_some _ _).symm.trans H; rw [hy226]; with_reducible exact H2_) | (have H2_ := (Option.bind_some _ _).symm.trans H; with_reducible exact H2_) | with_reducible exact H | (rw [hy226]; exact H) | exact H
                    have Ny226 := Aside0.mk hy226
                    clear hy226
                    have H' := Aside0.mk H
                    clear H
                    obtain ⟨Ao17, co17, eo17⟩ := Kd.R_slice HO_8.out
                    subst eo17
                    have p224 : 0 ≤ (x9_1 : Int) := of_decide_eq_true (by first | (with_reducible assumption) | assumption)
                    have q224 : x9_1 < (t221.length : Int) := of_decide_eq_true (by first | (with_reducible assumption) | assumption)
                    obtain ⟨ad224, e224, hx224_0⟩ := Kd.at_string (Kd.R_reads' HO_8.out).2.2 x9_1 p224 q224
                    cases e224
                    replace p224 := eq_true p224
                    replace q224 := eq_true q224
                    go_wp2_with (first | ((with_reducible refine gate_callee (f := 61) rfl ?_); refine goesL_ (some 33) rfl rfl Tryd.func61 (by kernel_rfl) rfl #[.string (rdOf ByteArray.empty t221 x9_1)] rfl (by (try simp only [List.map_toArray, List.map_cons, List.map_nil]); first | done | rfl | (simp only [List.length_drop, List.length_take]; rfl)) ?_; (with_reducible refine (treemergeref34_bare.calls (rdOf ByteArray.empty t221 x9_1) t225 _ A13.out).mono ?_); rintro e w' ⟨rfl, ⟨nd, rfl⟩⟩; refine ⟨_, rfl, ?_⟩) | ((with_reducible refine gate_builtin (b := .append) (xs := #[.tmp 26, .tmp 36]) rfl ?_); at_builtin; refine Kd.R_append Kd.string (w0 := w0) w0.heap.size rfl (.tmp 26) (.tmp 36) 28 9 (.string ⟨#[]⟩) 16 rfl Tryd.underlying28 info9 rfl (by decide) (by omega) u7 x7_1 (((a1 ++ (⟨#[58, 32]⟩ : ByteArray)) ++ t225) ++ (⟨#[10]⟩ : ByteArray)) [.string (((a1 ++ (⟨#[58, 32]⟩ : ByteArray)) ++ t225) ++ (⟨#[10]⟩ : ByteArray))] (fun k_ => (P0_ k_ ∨ w.heap.size ≤ k_) ∧ some k_ ≠ (.slice (some ad224) t221.length co17 : Value).ownBlock) (fun _ => False) rfl rfl ?aP (fun _ hk => hk.elim) ?aF ?aO ?aB ?aS ?aL ?_; (case aP => exact rfl); (case aB => exact (by repeat (first | (with_reducible first | exact HB.out | apply below_alloc | apply pw_below_drewN | apply below_drew1) | exact HB.out))); (case aF => exact (fun k_ hk => ⟨(.inr (Nat.le_trans (by first | exact HK.out.1 | exact (show Kept w _ (fun k_ => P0_ k_) from by repeat (first | (with_reducible first | exact HK.out | apply Kept.alloc | apply Kept.drewN | apply Kept.drew) | exact HK.out)).1) hk)), Kd.fresh' (Kd.R_lt (by (with_reducible repeat (first | apply Kd.R_alloc | apply Kd.R_drewN | apply Kd.R_drew)); exact HO_8.out)) k_ hk⟩)); (case aO => exact (by (with_reducible repeat (first | apply Kd.R_alloc | apply Kd.R_drewN | apply Kd.R_drew)); exact HO_7.out)); (case aS => exact (below_size (by repeat (first | (with_reducible first | exact HB.out | apply below_alloc | apply pw_below_drewN | apply below_drew1) | exact HB.out)))); (case aL => have := LMc16.out; omega); intro v227 w18 ho hb hg hat; rw [← Ny226.out] at ho; have n0_ := Aside0.mk (Kd.R_after (ok := (fun k_ => (P0_ k_ ∨ w.heap.size ≤ k_))) (by (with_reducible repeat (first | apply Kd.R_alloc | apply Kd.R_drewN | apply Kd.R_drew)); exact HO_8.out) hg hat); have n1_ := Aside0.mk (hb); have n2_ := Aside0.mk (Kept.of_grown (S := (fun k_ => P0_ k_)) hg (by repeat (first | (with_reducible first | exact HK.out | apply Kept.alloc | apply Kept.drewN | apply Kept.drew) | exact HK.out)) (fun k_ e_ => (HO_7.out.1 k_ e_).1)); have n3_ := Aside0.mk (ho); clear HO_8; clear HB; clear HK; clear HO_7; have HO_8 := n0_; have HB := n1_; have HK := n2_; have HO228 := n3_; clear n0_ n1_ n2_ n3_; clear ho hb hg hat))
                    go_roundg k1
                    case measure => have := HK1.out; omega
                    case rel => exact ⟨(y226), (wrap64 (x9_1 + 1)), (by first | rfl | (simp; done) | (simp [*]; done)), H', ⟨by have := HK1.out; omega⟩, ⟨by (with_reducible repeat (first | apply Kd.R_alloc | apply Kd.R_drewN | apply Kd.R_drew)); exact HO228.out⟩, ⟨by (with_reducible repeat (first | apply Kd.R_alloc | apply Kd.R_drewN | apply Kd.R_drew)); exact HO_8.out⟩, ⟨by repeat (first | (with_reducible first | exact HK.out | apply Kept.alloc | apply Kept.drewN | apply Kept.drew) | exact HK.out)⟩, ⟨by repeat (first | (with_reducible first | exact HB.out | apply below_alloc | apply pw_below_drewN | apply below_drew1) | exact HB.out)⟩⟩
                  · rw [if_neg c16] at H
                    exact absurd H (by simp)
                · rw [if_neg c15] at H
                  exact absurd H (by simp)
              · rw [if_neg c14] at H
                exact absurd H (by simp)
            · rw [if_neg c12] at H
              exact absurd H (by simp)
          · rw [if_neg c11] at H
            exact absurd H (by simp)
        · rw [if_neg c10] at H
          have c10b0 : decide (x9_1 < (t221.length : Int)) = false := decide_eq_false c10
          clear c10
          obtain rfl := Option.some.inj H
          obtain ⟨Ao19, co19, eo19⟩ := Kd.R_slice HO_8.out
          subst eo19
          go_wp2
          go_ret
          exact ⟨_, by first | rfl | (simp [errW_none, errW_some] <;> rfl) | (simp [*, errW_none, errW_some] <;> rfl), by (with_reducible repeat (first | apply Kd.R_alloc | apply Kd.R_drewN | apply Kd.R_drew)); exact Kd.R_mono HO_7.out (fun _ hk => hk.1), by repeat (first | (with_reducible first | exact HB.out | apply below_alloc | apply pw_below_drewN | apply below_drew1) | exact HB.out), by repeat (first | (with_reducible first | exact HK.out | apply Kept.alloc | apply Kept.drewN | apply Kept.drew) | exact HK.out)⟩

/-! ### treemergeref34_Explain: function 16 (by hand) -/
mutual
def findF : Nat → S31 → Int → Option (S31 × Int × Bool)
  | 0, _, _ => none
  | k + 1, n, i => if i = 0 then some (n, 0, true) else if n.f3.length < 4611686018427387904 then findL k n.f3 (wrap64 (i - 1)) else none
def findL : Nat → List S31 → Int → Option (S31 × Int × Bool)
  | 0, _, _ => none
  | _ + 1, [], p => some (z31, p, false)
  | k + 1, x :: l, p => (findF k x p).bind fun t => if t.2.2 = true then some (t.1, 0, true) else findL k l t.2.1
end
/-- What ref06.find returns: a node whose slices lie as given. -/
def LocOut6 (w0 w : World) (r : S31 × Int × Bool) (e : Ending) (w' : World) : Prop := (∃ B2 d2 B3 d3, e = .returned (.tuple #[.agg #[.int .i64 r.1.f0, .string r.1.f1, .slice B2 r.1.f2.length d2, .slice B3 r.1.f3.length d3], .int .i64 r.2.1, .bool r.2.2]) ∧ r.1.f2.length ≤ d2 ∧ Kd.C Kd.string w0 B2 r.1.f2.length r.1.f2 ∧ r.1.f3.length ≤ d3 ∧ Kd.C k31 w0 B3 r.1.f3.length r.1.f3) ∧ Below w.heap.size w w'
set_option maxHeartbeats 8000000 in
set_option maxRecDepth 100000 in
theorem find_calls (k : Nat) : ∀ (x : S31) (A2 : Option Addr) (c2 : Nat) (A3 : Option Addr) (c3 : Nat) (i : Int) (r : S31 × Int × Bool) (w0 w : World) (hb0 : Below w0.heap.size w0 w) (h2 : Kd.C Kd.string w0 A2 x.f2.length x.f2) (l2 : x.f2.length ≤ c2) (h3 : Kd.C k31 w0 A3 x.f3.length x.f3) (l3 : x.f3.length ≤ c3) (h : findF k x i = some r),
    Calls Tryd.prog 60 #[.agg #[.int .i64 x.f0, .string x.f1, .slice A2 x.f2.length c2, .slice A3 x.f3.length c3], .int .i64 i] w (LocOut6 w0 w r) := by
  induction k using Nat.strongRecOn with
  | _ k ih =>
  intro x A2 c2 A3 c3 i r w0 w hb0 h2 l2 h3 l3 h
  cases k with
  | zero => exact absurd h (by simp [findF])
  | succ k =>
  have hu31 := Tryd.underlying31
  have H2 := Aside0.mk h2
  have L2 := Aside0.mk l2
  have H3 := Aside0.mk h3
  have L3 := Aside0.mk l3
  have HB0 := Aside0.mk hb0
  clear h2 l2 h3 l3 hb0
  have HB := Aside0.mk (Below.refl w.heap.size w)
  rw [findF] at h
  by_cases c : i = 0
  · rw [if_pos c] at h
    obtain rfl := Option.some.inj h
    subst c
    clear h ih
    go_enter Tryd.func60, Tryd.ntmps60
    go_wp2_with (first | ((with_reducible refine gate_dst (N := 2) rfl ?_); refine box_event ?hg (N := 2) ?hd (cs := #[.int .i64 x.f0, .string x.f1, .slice A2 x.f2.length c2, .slice A3 x.f3.length c3]) (t := 31) ?hr ?_; (case hd => rfl); (case hg => rfl); (case hr => first | (go_simp; done) | (go_simp; rfl)); intro g2 hg w1 hbox hb; have n0_ := Aside0.mk (below_step HB.out hb); have BK2 := Aside0.mk hbox; have GE2 := Aside0.mk (by rw [hg]; exact Nat.le_refl _ : w.heap.size ≤ g2); clear HB; have HB := n0_; clear n0_ hb hbox hg) | ((with_reducible refine gate_dst (N := 4) rfl ?_); refine box_event ?hg (N := 4) ?hd (cs := #[.int .i64 0, .string (⟨#[]⟩ : ByteArray), .slice none 0 0, .slice none 0 0]) (t := 31) ?hr ?_; (case hd => rfl); (case hg => rfl); (case hr => first | (go_simp; done) | (go_simp; rfl)); intro g4 hg w2 hbox hb; have n0_ := Aside0.mk (below_step HB.out hb); have n1_ := Aside0.mk (blk_below BK2.out hb); have BK4 := Aside0.mk hbox; have GE4 := Aside0.mk (by rw [hg]; exact HB.out.size : w.heap.size ≤ g4); have hne : g2 ≠ g4 := (by rw [hg]; exact Nat.ne_of_lt (blk_lt BK2.out)); have hne' := hne.symm; clear HB BK2; have HB := n0_; have BK2 := n1_; clear n0_ n1_ hb hbox hg; have z20 := (blk_cell BK2.out 0).trans rfl; have z21 := (blk_cell BK2.out 1).trans rfl; have z22 := (blk_cell BK2.out 2).trans rfl; have z23 := (blk_cell BK2.out 3).trans rfl; have z40 := (blk_cell BK4.out 0).trans rfl; have z41 := (blk_cell BK4.out 1).trans rfl; have z42 := (blk_cell BK4.out 2).trans rfl; have z43 := (blk_cell BK4.out 3).trans rfl; have y40 := blk_frozen BK4.out 0; have y41 := blk_frozen BK4.out 1; have y42 := blk_frozen BK4.out 2; have y43 := blk_frozen BK4.out 3))
    refine bodyPost_ret (results_ctt rfl _ _ g4 31 #[.int .i64 x.f0, .string x.f1, .slice A2 x.f2.length c2, .slice A3 x.f3.length c3] (0, 0) _ rfl (blk_put (cs := #[.int .i64 x.f0, .string x.f1, .slice A2 x.f2.length c2, .slice none 0 0]) (blk_put (cs := #[.int .i64 x.f0, .string x.f1, .slice none 0 0, .slice none 0 0]) (blk_put (cs := #[.int .i64 x.f0, .string (⟨#[]⟩ : ByteArray), .slice none 0 0, .slice none 0 0]) (blk_put BK4.out 0 _ rfl) 1 _ rfl) 2 _ rfl) 3 _ rfl) hu31 rfl (by kernel_rfl)) rfl ?_
    exact ⟨⟨A2, c2, A3, c3, rfl, L2.out, H2.out, L3.out, H3.out⟩, (below_set (below_set (below_set (below_set HB.out GE4.out) GE4.out) GE4.out) GE4.out)⟩
  · rw [if_neg c] at h
    have e1 : (i == 0) = false := beq_eq_false_iff_ne.mpr c
    by_cases cl : x.f3.length < 4611686018427387904
    case neg =>
      rw [if_neg cl] at h
      cases h
    rw [if_pos cl] at h
    have HL := Aside0.mk h
    have HCL := Aside0.mk cl
    have hwi : IntKind.i64.wrap (i - 1) = wrap64 (i - 1) := i64_w _
    clear h cl
    go_enter Tryd.func60, Tryd.ntmps60
    go_wp2_with (first | ((with_reducible refine gate_dst (N := 2) rfl ?_); refine box_event ?hg (N := 2) ?hd (cs := #[.int .i64 x.f0, .string x.f1, .slice A2 x.f2.length c2, .slice A3 x.f3.length c3]) (t := 31) ?hr ?_; (case hd => rfl); (case hg => rfl); (case hr => first | (go_simp; done) | (go_simp; rfl)); intro g2 hg w1 hbox hb; have n0_ := Aside0.mk (below_step HB.out hb); have BK2 := Aside0.mk hbox; have GE2 := Aside0.mk (by rw [hg]; exact Nat.le_refl _ : w.heap.size ≤ g2); clear HB; have HB := n0_; clear n0_ hb hbox hg) | ((with_reducible refine gate_dst (N := 4) rfl ?_); refine box_event ?hg (N := 4) ?hd (cs := #[.int .i64 0, .string (⟨#[]⟩ : ByteArray), .slice none 0 0, .slice none 0 0]) (t := 31) ?hr ?_; (case hd => rfl); (case hg => rfl); (case hr => first | (go_simp; done) | (go_simp; rfl)); intro g4 hg w2 hbox hb; have n0_ := Aside0.mk (below_step HB.out hb); have n1_ := Aside0.mk (blk_below BK2.out hb); have BK4 := Aside0.mk hbox; have GE4 := Aside0.mk (by rw [hg]; exact HB.out.size : w.heap.size ≤ g4); have hne : g2 ≠ g4 := (by rw [hg]; exact Nat.ne_of_lt (blk_lt BK2.out)); have hne' := hne.symm; clear HB BK2; have HB := n0_; have BK2 := n1_; clear n0_ n1_ hb hbox hg; have z20 := (blk_cell BK2.out 0).trans rfl; have z21 := (blk_cell BK2.out 1).trans rfl; have z22 := (blk_cell BK2.out 2).trans rfl; have z23 := (blk_cell BK2.out 3).trans rfl; have z40 := (blk_cell BK4.out 0).trans rfl; have z41 := (blk_cell BK4.out 1).trans rfl; have z42 := (blk_cell BK4.out 2).trans rfl; have z43 := (blk_cell BK4.out 3).trans rfl; have y40 := blk_frozen BK4.out 0; have y41 := blk_frozen BK4.out 1; have y42 := blk_frozen BK4.out 2; have y43 := blk_frozen BK4.out 3))
    go_loopg [7, 8, 9, 10, 11] x.f3.length (fun gk v7 v8 _ _ _ w' => ∃ (j : Nat) (p : Int) (kq : Nat), v7 = .int .i64 p ∧ v8 = .int .i64 j ∧ j + gk = x.f3.length ∧ Aside0 (findL kq (x.f3.drop j) p = some r) ∧ Aside0 (kq ≤ k) ∧ Aside0 (w'.heap[g2]? = some (.cells #[.int .i64 x.f0, .string x.f1, .slice A2 x.f2.length c2, .slice A3 x.f3.length c3] 31 (0, 0))) ∧ Aside0 (w'.heap[g4]? = some (.cells #[.int .i64 0, .string (⟨#[]⟩ : ByteArray), .slice none 0 0, .slice none 0 0] 31 (0, 0))) ∧ Aside0 (Below w.heap.size w w'))
    case atStart =>
      exact ⟨0, wrap64 (i - 1), k, by first | rfl | (congr 1; exact i64_w _), rfl, by omega, ⟨by rw [List.drop_zero]; exact HL.out⟩, ⟨Nat.le_refl _⟩, BK2, BK4, HB⟩
    case round =>
      clear HL BK2 BK4 HB hwi z20 z21 z22 z23 z40 z41 z42 z43 y40 y41 y42 y43
      obtain ⟨j, p, kq, rfl, rfl, hj, HL, HQ, BK2, BK4, HB⟩ := hrel
      obtain ⟨go, rfl⟩ : ∃ go, go = gk := ⟨gk, rfl⟩
      cases go with
      | zero =>
        have g1 : decide ((j : Int) < (x.f3.length : Int)) = false := decide_eq_false (by omega)
        have g2' : decide (j < x.f3.length) = false := decide_eq_false (by omega)
        have hl := HL.out
        rw [List.drop_of_length_le (by omega)] at hl
        cases kq with
        | zero => exact absurd hl (by simp [findL])
        | succ kq =>
        rw [findL] at hl
        have HR := Aside0.mk (Option.some.inj hl)
        clear hl hj HL
        have z23 := (blk_cell BK2.out 3).trans rfl
        have z40 := (blk_cell BK4.out 0).trans rfl
        have z41 := (blk_cell BK4.out 1).trans rfl
        have z42 := (blk_cell BK4.out 2).trans rfl
        have z43 := (blk_cell BK4.out 3).trans rfl
        have y40 := blk_frozen BK4.out 0
        have y41 := blk_frozen BK4.out 1
        have y42 := blk_frozen BK4.out 2
        have y43 := blk_frozen BK4.out 3
        go_wp2
        rw [← HR.out]
        refine bodyPost_ret (results_ctt rfl _ _ g4 31 #[.int .i64 0, .string (⟨#[]⟩ : ByteArray), .slice none 0 0, .slice none 0 0] (0, 0) _ rfl (blk_put (cs := #[.int .i64 0, .string (⟨#[]⟩ : ByteArray), .slice none 0 0, .slice none 0 0]) (blk_put (cs := #[.int .i64 0, .string (⟨#[]⟩ : ByteArray), .slice none 0 0, .slice none 0 0]) (blk_put (cs := #[.int .i64 0, .string (⟨#[]⟩ : ByteArray), .slice none 0 0, .slice none 0 0]) (blk_put (cs := #[.int .i64 0, .string (⟨#[]⟩ : ByteArray), .slice none 0 0, .slice none 0 0]) BK4.out 0 _ rfl) 1 _ rfl) 2 _ rfl) 3 _ rfl) hu31 rfl (by kernel_rfl)) rfl ?_
        exact ⟨⟨none, 0, none, 0, rfl, Nat.le_refl _, Kd.C_nil _ _, Nat.le_refl _, Kd.C_nil _ _⟩, (below_set (below_set (below_set (below_set HB.out GE4.out) GE4.out) GE4.out) GE4.out)⟩
      | succ g =>
        have hjl : j < x.f3.length := by omega
        have g1 : decide ((j : Int) < (x.f3.length : Int)) = true := decide_eq_true (by omega)
        have g2' : decide (j < x.f3.length) = true := decide_eq_true hjl
        have hl := HL.out
        obtain ⟨ad, B2, d2, B3, d3, hA, q0, q1, q2, q3, m2, G2, m3, G3⟩ := at_T31 H3.out (j : Int) (by omega) (by omega)
        rw [Int.toNat_natCast] at q0 q1 q2 q3
        have HBW := Aside0.mk (below_step HB0.out HB.out)
        replace q0 := pw_cell_below HBW.out q0
        replace q1 := pw_cell_below HBW.out q1
        replace q2 := pw_cell_below HBW.out q2
        replace q3 := pw_cell_below HBW.out q3
        obtain ⟨y, hy⟩ : ∃ y, y = rd_T31 x.f3 (j : Int) := ⟨_, rfl⟩
        have hd : x.f3.drop j = y :: x.f3.drop (j + 1) := by
          rw [List.drop_eq_getElem_cons hjl, hy]
          unfold rd_T31
          rw [Int.toNat_natCast, List.getD_eq_getElem?_getD, List.getElem?_eq_getElem hjl, Option.getD_some]
        rw [← hy] at q0 q1 q2 q3 m2 G2 m3 G3
        rw [hd] at hl
        clear hy hd
        subst hA
        cases kq with
        | zero => exact absurd hl (by simp [findL])
        | succ kq =>
        rw [findL] at hl
        obtain ⟨⟨n', s, b⟩, ht, hl⟩ := Option.bind_eq_some_iff.1 hl
        have IH := Aside0.mk (fun W (hb : Below wr.heap.size wr W) => ih kq (by have := HQ.out; omega) y B2 d2 B3 d3 p (n', s, b) w0 W (below_step HBW.out hb) G2 m2 G3 m3 ht)
        have z23 := (blk_cell BK2.out 3).trans rfl
        have h0j : ((0 : Int) ≤ (j : Int)) = True := eq_true (by omega)
        have hq9 : (j < x.f3.length) = True := eq_true hjl
        clear m2 G2 m3 G3 ht HL ih
        have HJ := Aside0.mk hj
        cases b with
        | true =>
          rw [if_pos rfl] at hl
          obtain rfl := Option.some.inj hl
          clear hl hj hjl
          go_wp2_with (first | (go_at_call 60; go_loud ((with_reducible refine (IH.out _ (Below.refl _ _)).mono ?_); rintro e w4 ⟨⟨C2, e2, C3, e3, rfl, n2, K2, n3, K3⟩, hb4⟩; have n0_ := Aside0.mk (below_step HB.out hb4); have n1_ := Aside0.mk (blk_below BK2.out hb4); have n2_ := Aside0.mk (blk_below BK4.out hb4); clear HB BK2 BK4; have HB := n0_; have BK2 := n1_; have BK4 := n2_; have HK2 := Aside0.mk K2; have HK3 := Aside0.mk K3; have HN2 := Aside0.mk n2; have HN3 := Aside0.mk n3; clear n0_ n1_ n2_ hb4 K2 K3 n2 n3 z23 q0 q1 q2 q3)) | ((with_reducible refine gate_dst (N := 9) rfl ?_); refine box_event ?hg (N := 9) ?hd (cs := #[.int .i64 0, .string (⟨#[]⟩ : ByteArray), .slice none 0 0, .slice none 0 0]) (t := 31) ?hr ?_; (case hd => rfl); (case hg => rfl); (case hr => first | (go_simp; done) | (go_simp; rfl)); intro g10 hg w5 hbox hb; have n0_ := Aside0.mk (below_step HB.out hb); have n1_ := Aside0.mk (blk_below BK2.out hb); have n2_ := Aside0.mk (blk_below BK4.out hb); have BK10 := Aside0.mk hbox; have GE10 := Aside0.mk (by rw [hg]; exact HB.out.size : w.heap.size ≤ g10); have NE210 := Aside0.mk (by rw [hg]; exact Nat.ne_of_lt (blk_lt BK2.out) : g2 ≠ g10); have ne410 : g4 ≠ g10 := (by rw [hg]; exact Nat.ne_of_lt (blk_lt BK4.out)); have ne104 := ne410.symm; clear HB BK2 BK4; have HB := n0_; have BK2 := n1_; have BK4 := n2_; clear n0_ n1_ n2_ hb hbox hg; have z100 := (blk_cell BK10.out 0).trans rfl; have y100 := blk_frozen BK10.out 0; have z101 := (blk_cell BK10.out 1).trans rfl; have y101 := blk_frozen BK10.out 1; have z102 := (blk_cell BK10.out 2).trans rfl; have y102 := blk_frozen BK10.out 2; have z103 := (blk_cell BK10.out 3).trans rfl; have y103 := blk_frozen BK10.out 3; have z40 := (blk_cell BK4.out 0).trans rfl; have y40 := blk_frozen BK4.out 0; have z41 := (blk_cell BK4.out 1).trans rfl; have y41 := blk_frozen BK4.out 1; have z42 := (blk_cell BK4.out 2).trans rfl; have y42 := blk_frozen BK4.out 2; have z43 := (blk_cell BK4.out 3).trans rfl; have y43 := blk_frozen BK4.out 3))
          refine bodyPost_ret (results_ctt rfl _ _ g4 31 #[.int .i64 n'.f0, .string n'.f1, .slice C2 n'.f2.length e2, .slice C3 n'.f3.length e3] (0, 0) _ rfl (blk_put (cs := #[.int .i64 n'.f0, .string n'.f1, .slice C2 n'.f2.length e2, .slice none 0 0]) (blk_put (cs := #[.int .i64 n'.f0, .string n'.f1, .slice none 0 0, .slice none 0 0]) (blk_put (cs := #[.int .i64 n'.f0, .string (⟨#[]⟩ : ByteArray), .slice none 0 0, .slice none 0 0]) (blk_put (blk_far (blk_far (blk_far (blk_far BK4.out ne410 _) ne410 _) ne410 _) ne410 _) 0 _ rfl) 1 _ rfl) 2 _ rfl) 3 _ rfl) hu31 rfl (by kernel_rfl)) rfl ?_
          exact ⟨⟨C2, e2, C3, e3, rfl, HN2.out, HK2.out, HN3.out, HK3.out⟩, (below_set (below_set (below_set (below_set (below_set (below_set (below_set (below_set HB.out GE10.out) GE10.out) GE10.out) GE10.out) GE4.out) GE4.out) GE4.out) GE4.out)⟩
        | false =>
          rw [if_neg (by simp)] at hl
          have HL := Aside0.mk hl
          clear hl hj hjl
          go_wp2_with (first | (go_at_call 60; go_loud ((with_reducible refine (IH.out _ (Below.refl _ _)).mono ?_); rintro e w4 ⟨⟨C2, e2, C3, e3, rfl, n2, K2, n3, K3⟩, hb4⟩; have n0_ := Aside0.mk (below_step HB.out hb4); have n1_ := Aside0.mk (blk_below BK2.out hb4); have n2_ := Aside0.mk (blk_below BK4.out hb4); clear HB BK2 BK4; have HB := n0_; have BK2 := n1_; have BK4 := n2_; have HK2 := Aside0.mk K2; have HK3 := Aside0.mk K3; have HN2 := Aside0.mk n2; have HN3 := Aside0.mk n3; clear n0_ n1_ n2_ hb4 K2 K3 n2 n3 z23 q0 q1 q2 q3)) | ((with_reducible refine gate_dst (N := 9) rfl ?_); refine box_event ?hg (N := 9) ?hd (cs := #[.int .i64 0, .string (⟨#[]⟩ : ByteArray), .slice none 0 0, .slice none 0 0]) (t := 31) ?hr ?_; (case hd => rfl); (case hg => rfl); (case hr => first | (go_simp; done) | (go_simp; rfl)); intro g10 hg w5 hbox hb; have n0_ := Aside0.mk (below_step HB.out hb); have n1_ := Aside0.mk (blk_below BK2.out hb); have n2_ := Aside0.mk (blk_below BK4.out hb); have BK10 := Aside0.mk hbox; have GE10 := Aside0.mk (by rw [hg]; exact HB.out.size : w.heap.size ≤ g10); have NE210 := Aside0.mk (by rw [hg]; exact Nat.ne_of_lt (blk_lt BK2.out) : g2 ≠ g10); have ne410 : g4 ≠ g10 := (by rw [hg]; exact Nat.ne_of_lt (blk_lt BK4.out)); have ne104 := ne410.symm; clear HB BK2 BK4; have HB := n0_; have BK2 := n1_; have BK4 := n2_; clear n0_ n1_ n2_ hb hbox hg; have z100 := (blk_cell BK10.out 0).trans rfl; have y100 := blk_frozen BK10.out 0; have z101 := (blk_cell BK10.out 1).trans rfl; have y101 := blk_frozen BK10.out 1; have z102 := (blk_cell BK10.out 2).trans rfl; have y102 := blk_frozen BK10.out 2; have z103 := (blk_cell BK10.out 3).trans rfl; have y103 := blk_frozen BK10.out 3; have z40 := (blk_cell BK4.out 0).trans rfl; have y40 := blk_frozen BK4.out 0; have z41 := (blk_cell BK4.out 1).trans rfl; have y41 := blk_frozen BK4.out 1; have z42 := (blk_cell BK4.out 2).trans rfl; have y42 := blk_frozen BK4.out 2; have z43 := (blk_cell BK4.out 3).trans rfl; have y43 := blk_frozen BK4.out 3))
          go_roundg g
          case measure => omega
          case rel => exact ⟨j + 1, s, kq, rfl, by have := HJ.out; have := HCL.out; exact congrArg (Value.int .i64) (show wrap64 ((j : Int) + 1) = ((j + 1 : Nat) : Int) from by unfold wrap64; omega), by have := HJ.out; omega, HL, ⟨by have := HQ.out; omega⟩, ⟨(blk_far (blk_far (blk_far (blk_far BK2.out NE210.out _) NE210.out _) NE210.out _) NE210.out _)⟩, ⟨(blk_far (blk_far (blk_far (blk_far BK4.out ne410 _) ne410 _) ne410 _) ne410 _)⟩, ⟨(below_set (below_set (below_set (below_set HB.out GE10.out) GE10.out) GE10.out) GE10.out)⟩⟩

/-- What treemergeref06.At hands back. -/
def at6F (k : Nat) (x : S31) (i : Int) : Option (S31 × Bool) := if i < 0 then some (z31, false) else (findF k x i).bind fun t => some (t.1, t.2.2)
set_option maxHeartbeats 8000000 in
set_option maxRecDepth 100000 in
theorem At6_calls (k : Nat) (x : S31) (A2 : Option Addr) (c2 : Nat) (A3 : Option Addr) (c3 : Nat) (i : Int) (r : S31 × Bool) (w : World) (h2 : Kd.C Kd.string w A2 x.f2.length x.f2) (l2 : x.f2.length ≤ c2) (h3 : Kd.C k31 w A3 x.f3.length x.f3) (l3 : x.f3.length ≤ c3) (h : at6F k x i = some r) :
    Calls Tryd.prog 36 #[.agg #[.int .i64 x.f0, .string x.f1, .slice A2 x.f2.length c2, .slice A3 x.f3.length c3], .int .i64 i] w fun e w' => (∃ B2 d2 B3 d3, e = .returned (.tuple #[.agg #[.int .i64 r.1.f0, .string r.1.f1, .slice B2 r.1.f2.length d2, .slice B3 r.1.f3.length d3], .bool r.2])) ∧ Below w.heap.size w w' := by
  have hu31 := Tryd.underlying31
  have H2 := Aside0.mk h2
  have L2 := Aside0.mk l2
  have H3 := Aside0.mk h3
  have L3 := Aside0.mk l3
  clear h2 l2 h3 l3
  have HB := Aside0.mk (Below.refl w.heap.size w)
  unfold at6F at h
  by_cases c : i < 0
  · rw [if_pos c] at h
    obtain rfl := Option.some.inj h
    have e1 : decide (i < 0) = true := decide_eq_true c
    clear h c
    go_enter Tryd.func36, Tryd.ntmps36
    go_wp2_with (first | ((with_reducible refine gate_dst (N := 2) rfl ?_); refine box_event ?hg (N := 2) ?hd (cs := #[.int .i64 x.f0, .string x.f1, .slice A2 x.f2.length c2, .slice A3 x.f3.length c3]) (t := 31) ?hr ?_; (case hd => rfl); (case hg => rfl); (case hr => first | (go_simp; done) | (go_simp; rfl)); intro g2 hg w1 hbox hb; have n0_ := Aside0.mk (below_step HB.out hb); have BK2 := Aside0.mk hbox; clear HB; have HB := n0_; clear n0_ hb hbox hg) | ((with_reducible refine gate_dst (N := 4) rfl ?_); refine box_event ?hg (N := 4) ?hd (cs := #[.int .i64 0, .string (⟨#[]⟩ : ByteArray), .slice none 0 0, .slice none 0 0]) (t := 31) ?hr ?_; (case hd => rfl); (case hg => rfl); (case hr => first | (go_simp; done) | (go_simp; rfl)); intro g4 hg w2 hbox hb; have n0_ := Aside0.mk (below_step HB.out hb); have n1_ := Aside0.mk (blk_below BK2.out hb); have BK4 := Aside0.mk hbox; have GE4 := Aside0.mk (by rw [hg]; exact HB.out.size : w.heap.size ≤ g4); clear HB BK2; have HB := n0_; have BK2 := n1_; clear n0_ n1_ hb hbox hg; have z20 := (blk_cell BK2.out 0).trans rfl; have z21 := (blk_cell BK2.out 1).trans rfl; have z22 := (blk_cell BK2.out 2).trans rfl; have z23 := (blk_cell BK2.out 3).trans rfl; have z40 := (blk_cell BK4.out 0).trans rfl; have z41 := (blk_cell BK4.out 1).trans rfl; have z42 := (blk_cell BK4.out 2).trans rfl; have z43 := (blk_cell BK4.out 3).trans rfl; have y40 := blk_frozen BK4.out 0; have y41 := blk_frozen BK4.out 1; have y42 := blk_frozen BK4.out 2; have y43 := blk_frozen BK4.out 3))
    refine bodyPost_ret (results_ct rfl _ _ g4 31 #[.int .i64 0, .string (⟨#[]⟩ : ByteArray), .slice none 0 0, .slice none 0 0] (0, 0) _ rfl (blk_put (cs := #[.int .i64 0, .string (⟨#[]⟩ : ByteArray), .slice none 0 0, .slice none 0 0]) (blk_put (cs := #[.int .i64 0, .string (⟨#[]⟩ : ByteArray), .slice none 0 0, .slice none 0 0]) (blk_put (cs := #[.int .i64 0, .string (⟨#[]⟩ : ByteArray), .slice none 0 0, .slice none 0 0]) (blk_put (cs := #[.int .i64 0, .string (⟨#[]⟩ : ByteArray), .slice none 0 0, .slice none 0 0]) BK4.out 0 _ rfl) 1 _ rfl) 2 _ rfl) 3 _ rfl) hu31 rfl (by kernel_rfl)) rfl ?_
    exact ⟨⟨_, _, _, _, rfl⟩, (below_set (below_set (below_set (below_set HB.out GE4.out) GE4.out) GE4.out) GE4.out)⟩
  · rw [if_neg c] at h
    have e1 : decide (i < 0) = false := decide_eq_false c
    clear c
    obtain ⟨⟨n', s, b⟩, ht, h⟩ := Option.bind_eq_some_iff.1 h
    obtain rfl := Option.some.inj h
    have HT := Aside0.mk ht
    clear ht h
    go_enter Tryd.func36, Tryd.ntmps36
    go_wp2_with (first | ((with_reducible refine gate_dst (N := 2) rfl ?_); refine box_event ?hg (N := 2) ?hd (cs := #[.int .i64 x.f0, .string x.f1, .slice A2 x.f2.length c2, .slice A3 x.f3.length c3]) (t := 31) ?hr ?_; (case hd => rfl); (case hg => rfl); (case hr => first | (go_simp; done) | (go_simp; rfl)); intro g2 hg w1 hbox hb; have n0_ := Aside0.mk (below_step HB.out hb); have BK2 := Aside0.mk hbox; clear HB; have HB := n0_; clear n0_ hb hbox hg) | ((with_reducible refine gate_dst (N := 4) rfl ?_); refine box_event ?hg (N := 4) ?hd (cs := #[.int .i64 0, .string (⟨#[]⟩ : ByteArray), .slice none 0 0, .slice none 0 0]) (t := 31) ?hr ?_; (case hd => rfl); (case hg => rfl); (case hr => first | (go_simp; done) | (go_simp; rfl)); intro g4 hg w2 hbox hb; have n0_ := Aside0.mk (below_step HB.out hb); have n1_ := Aside0.mk (blk_below BK2.out hb); have BK4 := Aside0.mk hbox; have GE4 := Aside0.mk (by rw [hg]; exact HB.out.size : w.heap.size ≤ g4); clear HB BK2; have HB := n0_; have BK2 := n1_; clear n0_ n1_ hb hbox hg; have z20 := (blk_cell BK2.out 0).trans rfl; have z21 := (blk_cell BK2.out 1).trans rfl; have z22 := (blk_cell BK2.out 2).trans rfl; have z23 := (blk_cell BK2.out 3).trans rfl; have z40 := (blk_cell BK4.out 0).trans rfl; have z41 := (blk_cell BK4.out 1).trans rfl; have z42 := (blk_cell BK4.out 2).trans rfl; have z43 := (blk_cell BK4.out 3).trans rfl; have y40 := blk_frozen BK4.out 0; have y41 := blk_frozen BK4.out 1; have y42 := blk_frozen BK4.out 2; have y43 := blk_frozen BK4.out 3) | (go_at_call 60; go_loud ((with_reducible refine (find_calls k x A2 c2 A3 c3 i (n', s, b) w _ HB.out H2.out L2.out H3.out L3.out HT.out).mono ?_); rintro e w4 ⟨⟨C2, e2, C3, e3, rfl, n2, K2, n3, K3⟩, hb4⟩; have n0_ := Aside0.mk (below_step HB.out hb4); have n1_ := Aside0.mk (blk_below BK4.out hb4); clear HB BK4; have HB := n0_; have BK4 := n1_; clear n0_ n1_ hb4 K2 K3 n2 n3 z20 z21 z22 z23 z40 z41 z42 z43 y40 y41 y42 y43)) | ((with_reducible refine gate_dst (N := 6) rfl ?_); refine box_event ?hg (N := 6) ?hd (cs := #[.int .i64 0, .string (⟨#[]⟩ : ByteArray), .slice none 0 0, .slice none 0 0]) (t := 31) ?hr ?_; (case hd => rfl); (case hg => rfl); (case hr => first | (go_simp; done) | (go_simp; rfl)); intro g6 hg w5 hbox hb; have n0_ := Aside0.mk (below_step HB.out hb); have n1_ := Aside0.mk (blk_below BK4.out hb); have BK6 := Aside0.mk hbox; have GE6 := Aside0.mk (by rw [hg]; exact HB.out.size : w.heap.size ≤ g6); have ne46 : g4 ≠ g6 := (by rw [hg]; exact Nat.ne_of_lt (blk_lt BK4.out)); have ne64 := ne46.symm; clear HB BK4; have HB := n0_; have BK4 := n1_; clear n0_ n1_ hb hbox hg; have z60 := (blk_cell BK6.out 0).trans rfl; have z61 := (blk_cell BK6.out 1).trans rfl; have z62 := (blk_cell BK6.out 2).trans rfl; have z63 := (blk_cell BK6.out 3).trans rfl; have y60 := blk_frozen BK6.out 0; have y61 := blk_frozen BK6.out 1; have y62 := blk_frozen BK6.out 2; have y63 := blk_frozen BK6.out 3; have z40 := (blk_cell BK4.out 0).trans rfl; have z41 := (blk_cell BK4.out 1).trans rfl; have z42 := (blk_cell BK4.out 2).trans rfl; have z43 := (blk_cell BK4.out 3).trans rfl; have y40 := blk_frozen BK4.out 0; have y41 := blk_frozen BK4.out 1; have y42 := blk_frozen BK4.out 2; have y43 := blk_frozen BK4.out 3))
    refine bodyPost_ret (results_ct rfl _ _ g4 31 #[.int .i64 n'.f0, .string n'.f1, .slice C2 n'.f2.length e2, .slice C3 n'.f3.length e3] (0, 0) _ rfl (blk_put (cs := #[.int .i64 n'.f0, .string n'.f1, .slice C2 n'.f2.length e2, .slice none 0 0]) (blk_put (cs := #[.int .i64 n'.f0, .string n'.f1, .slice none 0 0, .slice none 0 0]) (blk_put (cs := #[.int .i64 n'.f0, .string (⟨#[]⟩ : ByteArray), .slice none 0 0, .slice none 0 0]) (blk_put (cs := #[.int .i64 0, .string (⟨#[]⟩ : ByteArray), .slice none 0 0, .slice none 0 0]) (blk_far (blk_far (blk_far (blk_far BK4.out ne46 _) ne46 _) ne46 _) ne46 _) 0 _ rfl) 1 _ rfl) 2 _ rfl) 3 _ rfl) hu31 rfl (by kernel_rfl)) rfl ?_
    exact ⟨⟨_, _, _, _, rfl⟩, (below_set (below_set (below_set (below_set (below_set (below_set (below_set (below_set HB.out GE6.out) GE6.out) GE6.out) GE6.out) GE4.out) GE4.out) GE4.out) GE4.out)⟩

def atS (k : Nat) (x : S31) (i : Int) : Option ByteArray := (at6F k x i).bind fun t => if 1000000 < t.1.f1.size then none else if t.2 = true then (treemergeref34_Name.f t.1.f0).bind fun nm => if 1000000 < nm.size then none else some (if t.1.f1.toList = [] then nm else nm ++ (⟨#[32]⟩ : ByteArray) ++ t.1.f1) else some (⟨#[97, 110, 32, 105, 110, 115, 101, 114, 116, 101, 100, 32, 110, 111, 100, 101]⟩ : ByteArray)
def rexF (k : Nat) (x : S31) (c : S23) : Option (List ByteArray) := (atS k x c.f1).bind fun a => (treemergeref34_word.f c.f0).bind fun wd => if 1000000 < wd.size then none else (treemergeref34_version.f k [wd ++ (⟨#[32, 99, 111, 110, 102, 108, 105, 99, 116, 32, 97, 116, 32]⟩ : ByteArray) ++ a ++ (⟨#[10]⟩ : ByteArray)] (⟨#[98, 97, 115, 101]⟩ : ByteArray) c.f2).bind fun l1 => (treemergeref34_version.f k l1 (⟨#[108, 101, 102, 116]⟩ : ByteArray) c.f3).bind fun l2 => treemergeref34_version.f k l2 (⟨#[114, 105, 103, 104, 116]⟩ : ByteArray) c.f4
set_option maxHeartbeats 16000000 in
set_option maxRecDepth 100000 in
theorem RExplain_calls (k : Nat) (x : S31) (A2 : Option Addr) (c2 : Nat) (A3 : Option Addr) (c3 : Nat) (c : S23) (r : List ByteArray) (w : World) (h2 : Kd.C Kd.string w A2 x.f2.length x.f2) (l2' : x.f2.length ≤ c2) (h3 : Kd.C k31 w A3 x.f3.length x.f3) (l3' : x.f3.length ≤ c3) (h : rexF k x c = some r) :
    Calls Tryd.prog 16 #[.agg #[.int .i64 x.f0, .string x.f1, .slice A2 x.f2.length c2, .slice A3 x.f3.length c3], .agg #[.int .i64 c.f0, .int .i64 c.f1, .string c.f2, .string c.f3, .string c.f4]] w fun e w' => ∃ v, e = .returned v ∧ Kd.R Kd.string 9 w' w.heap.size (fun _ => True) v r ∧ Below w.heap.size w w' := by
  have hu31 := Tryd.underlying31
  have hu23 := Tryd.underlying23
  have H2 := Aside0.mk h2
  have L2 := Aside0.mk l2'
  have H3 := Aside0.mk h3
  have L3 := Aside0.mk l3'
  clear h2 l2' h3 l3'
  have HB := Aside0.mk (Below.refl w.heap.size w)
  unfold rexF at h
  obtain ⟨ats, has, h⟩ := Option.bind_eq_some_iff.1 h
  obtain ⟨wd, hwd, h⟩ := Option.bind_eq_some_iff.1 h
  split at h
  case isTrue => cases h
  rename_i hwz
  obtain ⟨l1, hv1, h⟩ := Option.bind_eq_some_iff.1 h
  obtain ⟨l2, hv2, hv3⟩ := Option.bind_eq_some_iff.1 h
  unfold atS at has
  obtain ⟨⟨n', ok⟩, ht, has⟩ := Option.bind_eq_some_iff.1 has
  split at has
  case isTrue => cases has
  rename_i htz
  have htz : n'.f1.size ≤ 1000000 := by simpa using htz
  have HT := Aside0.mk ht
  have HWD := Aside0.mk hwd
  have HV2 := Aside0.mk hv2
  have HV3 := Aside0.mk hv3
  have sz1 : ((⟨#[32, 99, 111, 110, 102, 108, 105, 99, 116, 32, 97, 116, 32]⟩ : ByteArray)).size = 13 := rfl
  have sz2 : ((⟨#[10]⟩ : ByteArray)).size = 1 := rfl
  have sz3 : ((⟨#[97, 110, 32, 105, 110, 115, 101, 114, 116, 101, 100, 32, 110, 111, 100, 101]⟩ : ByteArray)).size = 16 := rfl
  have sz4 : ((⟨#[32]⟩ : ByteArray)).size = 1 := rfl
  cases ok with
  | false =>
    rw [if_neg (by simp)] at has
    obtain rfl := Option.some.inj has
    clear has
    obtain ⟨hd, hhd⟩ : ∃ hd, hd = wd ++ (⟨#[32, 99, 111, 110, 102, 108, 105, 99, 116, 32, 97, 116, 32]⟩ : ByteArray) ++ (⟨#[97, 110, 32, 105, 110, 115, 101, 114, 116, 101, 100, 32, 110, 111, 100, 101]⟩ : ByteArray) ++ (⟨#[10]⟩ : ByteArray) := ⟨_, rfl⟩
    have s1 : (wd ++ (⟨#[32, 99, 111, 110, 102, 108, 105, 99, 116, 32, 97, 116, 32]⟩ : ByteArray)).size = wd.size + 13 := by rw [ByteArray.size_append]; rfl
    have s2 : (wd ++ (⟨#[32, 99, 111, 110, 102, 108, 105, 99, 116, 32, 97, 116, 32]⟩ : ByteArray) ++ (⟨#[97, 110, 32, 105, 110, 115, 101, 114, 116, 101, 100, 32, 110, 111, 100, 101]⟩ : ByteArray)).size = wd.size + 13 + ((⟨#[97, 110, 32, 105, 110, 115, 101, 114, 116, 101, 100, 32, 110, 111, 100, 101]⟩ : ByteArray)).size := by rw [ByteArray.size_append, s1]
    have q1 : wd.size + 13 ≤ 9223372036854775807 := by omega
    have q1b := decide_eq_true q1
    have q1c : (9223372036854775807 < wd.size + 13) = False := eq_false (Nat.not_lt.2 q1)
    have q2 : (wd ++ (⟨#[32, 99, 111, 110, 102, 108, 105, 99, 116, 32, 97, 116, 32]⟩ : ByteArray)).size + ((⟨#[97, 110, 32, 105, 110, 115, 101, 114, 116, 101, 100, 32, 110, 111, 100, 101]⟩ : ByteArray)).size ≤ 9223372036854775807 := by omega
    have q2b := decide_eq_true q2
    have q2c : (9223372036854775807 < (wd ++ (⟨#[32, 99, 111, 110, 102, 108, 105, 99, 116, 32, 97, 116, 32]⟩ : ByteArray)).size + ((⟨#[97, 110, 32, 105, 110, 115, 101, 114, 116, 101, 100, 32, 110, 111, 100, 101]⟩ : ByteArray)).size) = False := eq_false (Nat.not_lt.2 q2)
    have q3 : (wd ++ (⟨#[32, 99, 111, 110, 102, 108, 105, 99, 116, 32, 97, 116, 32]⟩ : ByteArray) ++ (⟨#[97, 110, 32, 105, 110, 115, 101, 114, 116, 101, 100, 32, 110, 111, 100, 101]⟩ : ByteArray)).size + 1 ≤ 9223372036854775807 := by omega
    have q3b := decide_eq_true q3
    have q3c : (9223372036854775807 < (wd ++ (⟨#[32, 99, 111, 110, 102, 108, 105, 99, 116, 32, 97, 116, 32]⟩ : ByteArray) ++ (⟨#[97, 110, 32, 105, 110, 115, 101, 114, 116, 101, 100, 32, 110, 111, 100, 101]⟩ : ByteArray)).size + 1) = False := eq_false (Nat.not_lt.2 q3)
    have r2 : wd.size + 13 + ((⟨#[97, 110, 32, 105, 110, 115, 101, 114, 116, 101, 100, 32, 110, 111, 100, 101]⟩ : ByteArray)).size ≤ 9223372036854775807 := by omega
    have r2b := decide_eq_true r2
    have r2c : (9223372036854775807 < wd.size + 13 + ((⟨#[97, 110, 32, 105, 110, 115, 101, 114, 116, 101, 100, 32, 110, 111, 100, 101]⟩ : ByteArray)).size) = False := eq_false (Nat.not_lt.2 r2)
    have r3 : wd.size + 13 + ((⟨#[97, 110, 32, 105, 110, 115, 101, 114, 116, 101, 100, 32, 110, 111, 100, 101]⟩ : ByteArray)).size + 1 ≤ 9223372036854775807 := by omega
    have r3b := decide_eq_true r3
    have r3c : (9223372036854775807 < wd.size + 13 + ((⟨#[97, 110, 32, 105, 110, 115, 101, 114, 116, 101, 100, 32, 110, 111, 100, 101]⟩ : ByteArray)).size + 1) = False := eq_false (Nat.not_lt.2 r3)
    rw [← hhd] at hv1
    have HV1 := Aside0.mk hv1
    have HHD := Aside0.mk hhd
    clear s1 s2 q1 q2 q3 r2 r3 hhd hv1
    clear ht hwd hv2 hv3 h sz1 sz2 sz3 sz4
    go_enter Tryd.func16, Tryd.ntmps16
    go_wp2_with (first | ((with_reducible refine gate_dst (N := 2) rfl ?_); refine box_event ?hg (N := 2) ?hd (cs := #[.int .i64 x.f0, .string x.f1, .slice A2 x.f2.length c2, .slice A3 x.f3.length c3]) (t := 31) ?hr ?_; (case hd => rfl); (case hg => rfl); (case hr => first | (go_simp; done) | (go_simp; rfl)); intro g2 hg w1 hbox hb; have n0_ := Aside0.mk (below_step HB.out hb); have BK2 := Aside0.mk hbox; clear HB; have HB := n0_; clear n0_ hb hbox hg) | ((with_reducible refine gate_dst (N := 3) rfl ?_); refine box_event ?hg (N := 3) ?hd (cs := #[.int .i64 c.f0, .int .i64 c.f1, .string c.f2, .string c.f3, .string c.f4]) (t := 23) ?hr ?_; (case hd => rfl); (case hg => rfl); (case hr => first | (go_simp; done) | (go_simp; rfl)); intro g3 hg w2 hbox hb; have n0_ := Aside0.mk (below_step HB.out hb); have n1_ := Aside0.mk (blk_below BK2.out hb); have BK3 := Aside0.mk hbox; clear HB BK2; have HB := n0_; have BK2 := n1_; clear n0_ n1_ hb hbox hg; have z20 := (blk_cell BK2.out 0).trans rfl; have z21 := (blk_cell BK2.out 1).trans rfl; have z22 := (blk_cell BK2.out 2).trans rfl; have z23 := (blk_cell BK2.out 3).trans rfl; have z30 := (blk_cell BK3.out 0).trans rfl; have z31 := (blk_cell BK3.out 1).trans rfl; have z32 := (blk_cell BK3.out 2).trans rfl; have z33 := (blk_cell BK3.out 3).trans rfl; have z34 := (blk_cell BK3.out 4).trans rfl) | (go_at_call 36; go_loud ((with_reducible refine (At6_calls k x A2 c2 A3 c3 c.f1 (n', false) _ (Kd.C_below H2.out HB.out) L2.out (Kd.C_below H3.out HB.out) L3.out HT.out).mono ?_); rintro e w4 ⟨⟨C2, e2, C3, e3, rfl⟩, hb4⟩; have n0_ := Aside0.mk (below_step HB.out hb4); have n1_ := Aside0.mk (blk_below BK3.out hb4); clear HB BK3 BK2; have HB := n0_; have BK3 := n1_; clear n0_ n1_ hb4 z20 z21 z22 z23 z30 z31 z32 z33 z34)) | ((with_reducible refine gate_dst (N := 6) rfl ?_); refine box_event ?hg (N := 6) ?hd (cs := #[.int .i64 0, .string (⟨#[]⟩ : ByteArray), .slice none 0 0, .slice none 0 0]) (t := 31) ?hr ?_; (case hd => rfl); (case hg => rfl); (case hr => first | (go_simp; done) | (go_simp; rfl)); intro g6 hg w5 hbox hb; have n0_ := Aside0.mk (below_step HB.out hb); have n1_ := Aside0.mk (blk_below BK3.out hb); have BK6 := Aside0.mk hbox; have GE6 := Aside0.mk (by rw [hg]; exact HB.out.size : w.heap.size ≤ g6); have ne36 : g3 ≠ g6 := (by rw [hg]; exact Nat.ne_of_lt (blk_lt BK3.out)); have ne63 := ne36.symm; clear HB BK3; have HB := n0_; have BK3 := n1_; clear n0_ n1_ hb hbox hg; have z60 := (blk_cell BK6.out 0).trans rfl; have z61 := (blk_cell BK6.out 1).trans rfl; have z62 := (blk_cell BK6.out 2).trans rfl; have z63 := (blk_cell BK6.out 3).trans rfl; have y60 := blk_frozen BK6.out 0; have y61 := blk_frozen BK6.out 1; have y62 := blk_frozen BK6.out 2; have y63 := blk_frozen BK6.out 3; have z30 := (blk_cell BK3.out 0).trans rfl; have z31 := (blk_cell BK3.out 1).trans rfl; have z32 := (blk_cell BK3.out 2).trans rfl; have z33 := (blk_cell BK3.out 3).trans rfl; have z34 := (blk_cell BK3.out 4).trans rfl) | (go_at_call 38; go_loud ((with_reducible refine (treemergeref34_word.calls c.f0 wd _ HWD.out).mono ?_); rintro e w7 ⟨rfl, hd7⟩; have hb7 := hd7.below; have n0_ := Aside0.mk (below_step (below_set (below_set (below_set (below_set HB.out GE6.out) GE6.out) GE6.out) GE6.out) hb7); have n1_ := Aside0.mk (blk_below (blk_far (blk_far (blk_far (blk_far BK3.out ne36 _) ne36 _) ne36 _) ne36 _) hb7); clear HB BK3 BK6; have HB := n0_; have BK3 := n1_; clear n0_ n1_ hb7 hd7 z60 z61 z62 z63 y60 y61 y62 y63 z30 z31 z32 z33 z34)) | ((with_reducible refine gate_builtin (b := .append) (xs := #[.tmp 28, .tmp 36]) rfl ?_); at_builtin; refine Kd.R_append Kd.string (w0 := w) w.heap.size rfl (.tmp 28) (.tmp 36) 28 9 (.string ⟨#[]⟩) 16 rfl Tryd.underlying28 info9 rfl (by decide) (by omega) (.slice none 0 0) [] (wd ++ (⟨#[32, 99, 111, 110, 102, 108, 105, 99, 116, 32, 97, 116, 32]⟩ : ByteArray) ++ (⟨#[97, 110, 32, 105, 110, 115, 101, 114, 116, 101, 100, 32, 110, 111, 100, 101]⟩ : ByteArray) ++ (⟨#[10]⟩ : ByteArray)) [.string (wd ++ (⟨#[32, 99, 111, 110, 102, 108, 105, 99, 116, 32, 97, 116, 32]⟩ : ByteArray) ++ (⟨#[97, 110, 32, 105, 110, 115, 101, 114, 116, 101, 100, 32, 110, 111, 100, 101]⟩ : ByteArray) ++ (⟨#[10]⟩ : ByteArray))] (fun _ => True) (fun _ => False) rfl rfl rfl (fun _ hk => hk.elim) (fun _ _ => trivial) (Kd.R_nil _ _ _ _ _) HB.out HB.out.size (by simp) ?_; intro v37 w8 ho hb hg hat; rw [← HHD.out] at ho; have hb8 : Below w7.heap.size w7 w8 := ⟨hg.os, hg.tape, hg.output, hg.size, fun j hj => hg.block j hj (by simp [Value.ownBlock])⟩; have HO8 := Aside0.mk ho; have n0_ := Aside0.mk hb; have n1_ := Aside0.mk (blk_below BK3.out hb8); clear HB BK3; have HB := n0_; have BK3 := n1_; clear n0_ n1_ ho hb hg hat hb8; have z30 := (blk_cell BK3.out 0).trans rfl; have z31 := (blk_cell BK3.out 1).trans rfl; have z32 := (blk_cell BK3.out 2).trans rfl; have z33 := (blk_cell BK3.out 3).trans rfl; have z34 := (blk_cell BK3.out 4).trans rfl) | (go_at_call 39; go_loud ((with_reducible refine (treemergeref34_version.calls k (fun k_ => k_ ≠ g3) _ [hd] (⟨#[98, 97, 115, 101]⟩ : ByteArray) c.f2 l1 w _ HB.out (Kd.R_mono (Kd.R_types HO8.out BK3.out (by decide)) (fun _ h => h.2)) HV1.out).mono ?_); rintro e wv1 ⟨v1_, rfl, hr, hbv, hkv⟩; have n1_ := Aside0.mk (blk_kept BK3.out hkv (fun h => h rfl)); have HO9 := Aside0.mk (Kd.R_types hr n1_.out (by decide)); have n0_ := Aside0.mk hbv; clear HB BK3 z30 z31 z32 z33 z34; have HB := n0_; have BK3 := n1_; clear n0_ n1_ hr hbv hkv; have z30 := (blk_cell BK3.out 0).trans rfl; have z31 := (blk_cell BK3.out 1).trans rfl; have z32 := (blk_cell BK3.out 2).trans rfl; have z33 := (blk_cell BK3.out 3).trans rfl; have z34 := (blk_cell BK3.out 4).trans rfl)) | (go_at_call 39; go_loud ((with_reducible refine (treemergeref34_version.calls k (fun k_ => k_ ≠ g3) _ l1 (⟨#[108, 101, 102, 116]⟩ : ByteArray) c.f3 l2 w _ HB.out (Kd.R_mono (Kd.R_types HO9.out BK3.out (by decide)) (fun _ h => h.2)) HV2.out).mono ?_); rintro e wv2 ⟨v2_, rfl, hr, hbv, hkv⟩; have n1_ := Aside0.mk (blk_kept BK3.out hkv (fun h => h rfl)); have HO10 := Aside0.mk (Kd.R_types hr n1_.out (by decide)); have n0_ := Aside0.mk hbv; clear HB BK3 z30 z31 z32 z33 z34; have HB := n0_; have BK3 := n1_; clear n0_ n1_ hr hbv hkv; have z30 := (blk_cell BK3.out 0).trans rfl; have z31 := (blk_cell BK3.out 1).trans rfl; have z32 := (blk_cell BK3.out 2).trans rfl; have z33 := (blk_cell BK3.out 3).trans rfl; have z34 := (blk_cell BK3.out 4).trans rfl)) | (go_at_call 39; go_loud ((with_reducible refine (treemergeref34_version.calls k (fun k_ => k_ ≠ g3) _ l2 (⟨#[114, 105, 103, 104, 116]⟩ : ByteArray) c.f4 r w _ HB.out (Kd.R_mono (Kd.R_types HO10.out BK3.out (by decide)) (fun _ h => h.2)) HV3.out).mono ?_); rintro e wv3 ⟨v3_, rfl, hr, hbv, hkv⟩; have n1_ := Aside0.mk (blk_kept BK3.out hkv (fun h => h rfl)); have HO11 := Aside0.mk (Kd.R_types hr n1_.out (by decide)); have n0_ := Aside0.mk hbv; clear HB BK3 z30 z31 z32 z33 z34; have HB := n0_; have BK3 := n1_; clear n0_ n1_ hr hbv hkv; have z30 := (blk_cell BK3.out 0).trans rfl; have z31 := (blk_cell BK3.out 1).trans rfl; have z32 := (blk_cell BK3.out 2).trans rfl; have z33 := (blk_cell BK3.out 3).trans rfl; have z34 := (blk_cell BK3.out 4).trans rfl)))
    go_ret
    exact ⟨_, rfl, Kd.R_mono HO11.out (fun _ _ => trivial), HB.out⟩
  | true =>
    rw [if_pos rfl] at has
    obtain ⟨nm, hnm, has⟩ := Option.bind_eq_some_iff.1 has
    split at has
    case isTrue => cases has
    rename_i hnz
    obtain rfl := Option.some.inj has
    have HNM := Aside0.mk hnm
    clear has hnm
    by_cases c3' : n'.f1.toList = []
    · have e3 : (n'.f1.toList == []) = true := beq_iff_eq.mpr c3'
      have e4 : (n'.f1.toList != []) = false := bne_eq_false_iff_eq.mpr c3'
      rw [if_pos c3'] at hv1
      clear c3'
      obtain ⟨hd, hhd⟩ : ∃ hd, hd = wd ++ (⟨#[32, 99, 111, 110, 102, 108, 105, 99, 116, 32, 97, 116, 32]⟩ : ByteArray) ++ nm ++ (⟨#[10]⟩ : ByteArray) := ⟨_, rfl⟩
      have s1 : (wd ++ (⟨#[32, 99, 111, 110, 102, 108, 105, 99, 116, 32, 97, 116, 32]⟩ : ByteArray)).size = wd.size + 13 := by rw [ByteArray.size_append]; rfl
      have s2 : (wd ++ (⟨#[32, 99, 111, 110, 102, 108, 105, 99, 116, 32, 97, 116, 32]⟩ : ByteArray) ++ nm).size = wd.size + 13 + (nm).size := by rw [ByteArray.size_append, s1]
      have q1 : wd.size + 13 ≤ 9223372036854775807 := by omega
      have q1b := decide_eq_true q1
      have q1c : (9223372036854775807 < wd.size + 13) = False := eq_false (Nat.not_lt.2 q1)
      have q2 : (wd ++ (⟨#[32, 99, 111, 110, 102, 108, 105, 99, 116, 32, 97, 116, 32]⟩ : ByteArray)).size + (nm).size ≤ 9223372036854775807 := by omega
      have q2b := decide_eq_true q2
      have q2c : (9223372036854775807 < (wd ++ (⟨#[32, 99, 111, 110, 102, 108, 105, 99, 116, 32, 97, 116, 32]⟩ : ByteArray)).size + (nm).size) = False := eq_false (Nat.not_lt.2 q2)
      have q3 : (wd ++ (⟨#[32, 99, 111, 110, 102, 108, 105, 99, 116, 32, 97, 116, 32]⟩ : ByteArray) ++ nm).size + 1 ≤ 9223372036854775807 := by omega
      have q3b := decide_eq_true q3
      have q3c : (9223372036854775807 < (wd ++ (⟨#[32, 99, 111, 110, 102, 108, 105, 99, 116, 32, 97, 116, 32]⟩ : ByteArray) ++ nm).size + 1) = False := eq_false (Nat.not_lt.2 q3)
      have r2 : wd.size + 13 + (nm).size ≤ 9223372036854775807 := by omega
      have r2b := decide_eq_true r2
      have r2c : (9223372036854775807 < wd.size + 13 + (nm).size) = False := eq_false (Nat.not_lt.2 r2)
      have r3 : wd.size + 13 + (nm).size + 1 ≤ 9223372036854775807 := by omega
      have r3b := decide_eq_true r3
      have r3c : (9223372036854775807 < wd.size + 13 + (nm).size + 1) = False := eq_false (Nat.not_lt.2 r3)
      rw [← hhd] at hv1
      have HV1 := Aside0.mk hv1
      have HHD := Aside0.mk hhd
      clear s1 s2 q1 q2 q3 r2 r3 hhd hv1
      clear ht hwd hv2 hv3 h sz1 sz2 sz3 sz4
      go_enter Tryd.func16, Tryd.ntmps16
      go_wp2_with (first | ((with_reducible refine gate_dst (N := 2) rfl ?_); refine box_event ?hg (N := 2) ?hd (cs := #[.int .i64 x.f0, .string x.f1, .slice A2 x.f2.length c2, .slice A3 x.f3.length c3]) (t := 31) ?hr ?_; (case hd => rfl); (case hg => rfl); (case hr => first | (go_simp; done) | (go_simp; rfl)); intro g2 hg w1 hbox hb; have n0_ := Aside0.mk (below_step HB.out hb); have BK2 := Aside0.mk hbox; clear HB; have HB := n0_; clear n0_ hb hbox hg) | ((with_reducible refine gate_dst (N := 3) rfl ?_); refine box_event ?hg (N := 3) ?hd (cs := #[.int .i64 c.f0, .int .i64 c.f1, .string c.f2, .string c.f3, .string c.f4]) (t := 23) ?hr ?_; (case hd => rfl); (case hg => rfl); (case hr => first | (go_simp; done) | (go_simp; rfl)); intro g3 hg w2 hbox hb; have n0_ := Aside0.mk (below_step HB.out hb); have n1_ := Aside0.mk (blk_below BK2.out hb); have BK3 := Aside0.mk hbox; clear HB BK2; have HB := n0_; have BK2 := n1_; clear n0_ n1_ hb hbox hg; have z20 := (blk_cell BK2.out 0).trans rfl; have z21 := (blk_cell BK2.out 1).trans rfl; have z22 := (blk_cell BK2.out 2).trans rfl; have z23 := (blk_cell BK2.out 3).trans rfl; have z30 := (blk_cell BK3.out 0).trans rfl; have z31 := (blk_cell BK3.out 1).trans rfl; have z32 := (blk_cell BK3.out 2).trans rfl; have z33 := (blk_cell BK3.out 3).trans rfl; have z34 := (blk_cell BK3.out 4).trans rfl) | (go_at_call 36; go_loud ((with_reducible refine (At6_calls k x A2 c2 A3 c3 c.f1 (n', true) _ (Kd.C_below H2.out HB.out) L2.out (Kd.C_below H3.out HB.out) L3.out HT.out).mono ?_); rintro e w4 ⟨⟨C2, e2, C3, e3, rfl⟩, hb4⟩; have n0_ := Aside0.mk (below_step HB.out hb4); have n1_ := Aside0.mk (blk_below BK3.out hb4); clear HB BK3 BK2; have HB := n0_; have BK3 := n1_; clear n0_ n1_ hb4 z20 z21 z22 z23 z30 z31 z32 z33 z34)) | ((with_reducible refine gate_dst (N := 6) rfl ?_); refine box_event ?hg (N := 6) ?hd (cs := #[.int .i64 0, .string (⟨#[]⟩ : ByteArray), .slice none 0 0, .slice none 0 0]) (t := 31) ?hr ?_; (case hd => rfl); (case hg => rfl); (case hr => first | (go_simp; done) | (go_simp; rfl)); intro g6 hg w5 hbox hb; have n0_ := Aside0.mk (below_step HB.out hb); have n1_ := Aside0.mk (blk_below BK3.out hb); have BK6 := Aside0.mk hbox; have GE6 := Aside0.mk (by rw [hg]; exact HB.out.size : w.heap.size ≤ g6); have ne36 : g3 ≠ g6 := (by rw [hg]; exact Nat.ne_of_lt (blk_lt BK3.out)); have ne63 := ne36.symm; clear HB BK3; have HB := n0_; have BK3 := n1_; clear n0_ n1_ hb hbox hg; have z60 := (blk_cell BK6.out 0).trans rfl; have z61 := (blk_cell BK6.out 1).trans rfl; have z62 := (blk_cell BK6.out 2).trans rfl; have z63 := (blk_cell BK6.out 3).trans rfl; have y60 := blk_frozen BK6.out 0; have y61 := blk_frozen BK6.out 1; have y62 := blk_frozen BK6.out 2; have y63 := blk_frozen BK6.out 3; have z30 := (blk_cell BK3.out 0).trans rfl; have z31 := (blk_cell BK3.out 1).trans rfl; have z32 := (blk_cell BK3.out 2).trans rfl; have z33 := (blk_cell BK3.out 3).trans rfl; have z34 := (blk_cell BK3.out 4).trans rfl) | (go_at_call 37; go_loud ((with_reducible refine (treemergeref34_Name.calls n'.f0 nm _ HNM.out).mono ?_); rintro e w6 ⟨rfl, hb6⟩; have n0_ := Aside0.mk (below_step (below_set (below_set (below_set (below_set HB.out GE6.out) GE6.out) GE6.out) GE6.out) hb6); have n1_ := Aside0.mk (blk_below (blk_far (blk_far (blk_far (blk_far BK3.out ne36 _) ne36 _) ne36 _) ne36 _) hb6); have n2_ := Aside0.mk (blk_below (blk_put (cs := #[.int .i64 n'.f0, .string n'.f1, .slice C2 n'.f2.length e2, .slice none 0 0]) (blk_put (cs := #[.int .i64 n'.f0, .string n'.f1, .slice none 0 0, .slice none 0 0]) (blk_put (cs := #[.int .i64 n'.f0, .string (⟨#[]⟩ : ByteArray), .slice none 0 0, .slice none 0 0]) (blk_put (cs := #[.int .i64 0, .string (⟨#[]⟩ : ByteArray), .slice none 0 0, .slice none 0 0]) BK6.out 0 _ rfl) 1 _ rfl) 2 _ rfl) 3 _ rfl) hb6); clear HB BK3 BK6; have HB := n0_; have BK3 := n1_; have BK6 := n2_; clear n0_ n1_ n2_ hb6 z60 z61 z62 z63 y60 y61 y62 y63 z30 z31 z32 z33 z34; have z60 := (blk_cell BK6.out 0).trans rfl; have z61 := (blk_cell BK6.out 1).trans rfl; have z62 := (blk_cell BK6.out 2).trans rfl; have z63 := (blk_cell BK6.out 3).trans rfl; have z30 := (blk_cell BK3.out 0).trans rfl; have z31 := (blk_cell BK3.out 1).trans rfl; have z32 := (blk_cell BK3.out 2).trans rfl; have z33 := (blk_cell BK3.out 3).trans rfl; have z34 := (blk_cell BK3.out 4).trans rfl)) | (go_at_call 38; go_loud ((with_reducible refine (treemergeref34_word.calls c.f0 wd _ HWD.out).mono ?_); rintro e w7 ⟨rfl, hd7⟩; have hb7 := hd7.below; have n0_ := Aside0.mk (below_step HB.out hb7); have n1_ := Aside0.mk (blk_below BK3.out hb7); clear HB BK3 BK6; have HB := n0_; have BK3 := n1_; clear n0_ n1_ hb7 hd7 z60 z61 z62 z63 z30 z31 z32 z33 z34)) | ((with_reducible refine gate_builtin (b := .append) (xs := #[.tmp 28, .tmp 36]) rfl ?_); at_builtin; refine Kd.R_append Kd.string (w0 := w) w.heap.size rfl (.tmp 28) (.tmp 36) 28 9 (.string ⟨#[]⟩) 16 rfl Tryd.underlying28 info9 rfl (by decide) (by omega) (.slice none 0 0) [] (wd ++ (⟨#[32, 99, 111, 110, 102, 108, 105, 99, 116, 32, 97, 116, 32]⟩ : ByteArray) ++ nm ++ (⟨#[10]⟩ : ByteArray)) [.string (wd ++ (⟨#[32, 99, 111, 110, 102, 108, 105, 99, 116, 32, 97, 116, 32]⟩ : ByteArray) ++ nm ++ (⟨#[10]⟩ : ByteArray))] (fun _ => True) (fun _ => False) rfl rfl rfl (fun _ hk => hk.elim) (fun _ _ => trivial) (Kd.R_nil _ _ _ _ _) HB.out HB.out.size (by simp) ?_; intro v37 w8 ho hb hg hat; rw [← HHD.out] at ho; have hb8 : Below w7.heap.size w7 w8 := ⟨hg.os, hg.tape, hg.output, hg.size, fun j hj => hg.block j hj (by simp [Value.ownBlock])⟩; have HO8 := Aside0.mk ho; have n0_ := Aside0.mk hb; have n1_ := Aside0.mk (blk_below BK3.out hb8); clear HB BK3; have HB := n0_; have BK3 := n1_; clear n0_ n1_ ho hb hg hat hb8; have z30 := (blk_cell BK3.out 0).trans rfl; have z31 := (blk_cell BK3.out 1).trans rfl; have z32 := (blk_cell BK3.out 2).trans rfl; have z33 := (blk_cell BK3.out 3).trans rfl; have z34 := (blk_cell BK3.out 4).trans rfl) | (go_at_call 39; go_loud ((with_reducible refine (treemergeref34_version.calls k (fun k_ => k_ ≠ g3) _ [hd] (⟨#[98, 97, 115, 101]⟩ : ByteArray) c.f2 l1 w _ HB.out (Kd.R_mono (Kd.R_types HO8.out BK3.out (by decide)) (fun _ h => h.2)) HV1.out).mono ?_); rintro e wv1 ⟨v1_, rfl, hr, hbv, hkv⟩; have n1_ := Aside0.mk (blk_kept BK3.out hkv (fun h => h rfl)); have HO9 := Aside0.mk (Kd.R_types hr n1_.out (by decide)); have n0_ := Aside0.mk hbv; clear HB BK3 z30 z31 z32 z33 z34; have HB := n0_; have BK3 := n1_; clear n0_ n1_ hr hbv hkv; have z30 := (blk_cell BK3.out 0).trans rfl; have z31 := (blk_cell BK3.out 1).trans rfl; have z32 := (blk_cell BK3.out 2).trans rfl; have z33 := (blk_cell BK3.out 3).trans rfl; have z34 := (blk_cell BK3.out 4).trans rfl)) | (go_at_call 39; go_loud ((with_reducible refine (treemergeref34_version.calls k (fun k_ => k_ ≠ g3) _ l1 (⟨#[108, 101, 102, 116]⟩ : ByteArray) c.f3 l2 w _ HB.out (Kd.R_mono (Kd.R_types HO9.out BK3.out (by decide)) (fun _ h => h.2)) HV2.out).mono ?_); rintro e wv2 ⟨v2_, rfl, hr, hbv, hkv⟩; have n1_ := Aside0.mk (blk_kept BK3.out hkv (fun h => h rfl)); have HO10 := Aside0.mk (Kd.R_types hr n1_.out (by decide)); have n0_ := Aside0.mk hbv; clear HB BK3 z30 z31 z32 z33 z34; have HB := n0_; have BK3 := n1_; clear n0_ n1_ hr hbv hkv; have z30 := (blk_cell BK3.out 0).trans rfl; have z31 := (blk_cell BK3.out 1).trans rfl; have z32 := (blk_cell BK3.out 2).trans rfl; have z33 := (blk_cell BK3.out 3).trans rfl; have z34 := (blk_cell BK3.out 4).trans rfl)) | (go_at_call 39; go_loud ((with_reducible refine (treemergeref34_version.calls k (fun k_ => k_ ≠ g3) _ l2 (⟨#[114, 105, 103, 104, 116]⟩ : ByteArray) c.f4 r w _ HB.out (Kd.R_mono (Kd.R_types HO10.out BK3.out (by decide)) (fun _ h => h.2)) HV3.out).mono ?_); rintro e wv3 ⟨v3_, rfl, hr, hbv, hkv⟩; have n1_ := Aside0.mk (blk_kept BK3.out hkv (fun h => h rfl)); have HO11 := Aside0.mk (Kd.R_types hr n1_.out (by decide)); have n0_ := Aside0.mk hbv; clear HB BK3 z30 z31 z32 z33 z34; have HB := n0_; have BK3 := n1_; clear n0_ n1_ hr hbv hkv; have z30 := (blk_cell BK3.out 0).trans rfl; have z31 := (blk_cell BK3.out 1).trans rfl; have z32 := (blk_cell BK3.out 2).trans rfl; have z33 := (blk_cell BK3.out 3).trans rfl; have z34 := (blk_cell BK3.out 4).trans rfl)))
      go_ret
      exact ⟨_, rfl, Kd.R_mono HO11.out (fun _ _ => trivial), HB.out⟩
    · have e3 : (n'.f1.toList == []) = false := beq_eq_false_iff_ne.mpr c3'
      have e4 : (n'.f1.toList != []) = true := bne_iff_ne.mpr c3'
      rw [if_neg c3'] at hv1
      have t1 : (nm ++ (⟨#[32]⟩ : ByteArray)).size = nm.size + 1 := by rw [ByteArray.size_append]; rfl
      have t2 : (nm ++ (⟨#[32]⟩ : ByteArray) ++ n'.f1).size = nm.size + 1 + n'.f1.size := by rw [ByteArray.size_append, t1]
      have u1 : nm.size + 1 ≤ 9223372036854775807 := by omega
      have u1b := decide_eq_true u1
      have u1c : (9223372036854775807 < nm.size + 1) = False := eq_false (Nat.not_lt.2 u1)
      have u2 : (nm ++ (⟨#[32]⟩ : ByteArray)).size + n'.f1.size ≤ 9223372036854775807 := by omega
      have u2b := decide_eq_true u2
      have u2c : (9223372036854775807 < (nm ++ (⟨#[32]⟩ : ByteArray)).size + n'.f1.size) = False := eq_false (Nat.not_lt.2 u2)
      have u3 : nm.size + 1 + n'.f1.size ≤ 9223372036854775807 := by omega
      have u3b := decide_eq_true u3
      have u3c : (9223372036854775807 < nm.size + 1 + n'.f1.size) = False := eq_false (Nat.not_lt.2 u3)
      clear c3' u1 u2 u3
      obtain ⟨hd, hhd⟩ : ∃ hd, hd = wd ++ (⟨#[32, 99, 111, 110, 102, 108, 105, 99, 116, 32, 97, 116, 32]⟩ : ByteArray) ++ (nm ++ (⟨#[32]⟩ : ByteArray) ++ n'.f1) ++ (⟨#[10]⟩ : ByteArray) := ⟨_, rfl⟩
      have s1 : (wd ++ (⟨#[32, 99, 111, 110, 102, 108, 105, 99, 116, 32, 97, 116, 32]⟩ : ByteArray)).size = wd.size + 13 := by rw [ByteArray.size_append]; rfl
      have s2 : (wd ++ (⟨#[32, 99, 111, 110, 102, 108, 105, 99, 116, 32, 97, 116, 32]⟩ : ByteArray) ++ (nm ++ (⟨#[32]⟩ : ByteArray) ++ n'.f1)).size = wd.size + 13 + ((nm ++ (⟨#[32]⟩ : ByteArray) ++ n'.f1)).size := by rw [ByteArray.size_append, s1]
      have q1 : wd.size + 13 ≤ 9223372036854775807 := by omega
      have q1b := decide_eq_true q1
      have q1c : (9223372036854775807 < wd.size + 13) = False := eq_false (Nat.not_lt.2 q1)
      have q2 : (wd ++ (⟨#[32, 99, 111, 110, 102, 108, 105, 99, 116, 32, 97, 116, 32]⟩ : ByteArray)).size + ((nm ++ (⟨#[32]⟩ : ByteArray) ++ n'.f1)).size ≤ 9223372036854775807 := by omega
      have q2b := decide_eq_true q2
      have q2c : (9223372036854775807 < (wd ++ (⟨#[32, 99, 111, 110, 102, 108, 105, 99, 116, 32, 97, 116, 32]⟩ : ByteArray)).size + ((nm ++ (⟨#[32]⟩ : ByteArray) ++ n'.f1)).size) = False := eq_false (Nat.not_lt.2 q2)
      have q3 : (wd ++ (⟨#[32, 99, 111, 110, 102, 108, 105, 99, 116, 32, 97, 116, 32]⟩ : ByteArray) ++ (nm ++ (⟨#[32]⟩ : ByteArray) ++ n'.f1)).size + 1 ≤ 9223372036854775807 := by omega
      have q3b := decide_eq_true q3
      have q3c : (9223372036854775807 < (wd ++ (⟨#[32, 99, 111, 110, 102, 108, 105, 99, 116, 32, 97, 116, 32]⟩ : ByteArray) ++ (nm ++ (⟨#[32]⟩ : ByteArray) ++ n'.f1)).size + 1) = False := eq_false (Nat.not_lt.2 q3)
      have r2 : wd.size + 13 + ((nm ++ (⟨#[32]⟩ : ByteArray) ++ n'.f1)).size ≤ 9223372036854775807 := by omega
      have r2b := decide_eq_true r2
      have r2c : (9223372036854775807 < wd.size + 13 + ((nm ++ (⟨#[32]⟩ : ByteArray) ++ n'.f1)).size) = False := eq_false (Nat.not_lt.2 r2)
      have r3 : wd.size + 13 + ((nm ++ (⟨#[32]⟩ : ByteArray) ++ n'.f1)).size + 1 ≤ 9223372036854775807 := by omega
      have r3b := decide_eq_true r3
      have r3c : (9223372036854775807 < wd.size + 13 + ((nm ++ (⟨#[32]⟩ : ByteArray) ++ n'.f1)).size + 1) = False := eq_false (Nat.not_lt.2 r3)
      rw [← hhd] at hv1
      have HV1 := Aside0.mk hv1
      have HHD := Aside0.mk hhd
      clear t1 t2 s1 s2 q1 q2 q3 r2 r3 hhd hv1
      clear ht hwd hv2 hv3 h sz1 sz2 sz3 sz4
      go_enter Tryd.func16, Tryd.ntmps16
      go_wp2_with (first | ((with_reducible refine gate_dst (N := 2) rfl ?_); refine box_event ?hg (N := 2) ?hd (cs := #[.int .i64 x.f0, .string x.f1, .slice A2 x.f2.length c2, .slice A3 x.f3.length c3]) (t := 31) ?hr ?_; (case hd => rfl); (case hg => rfl); (case hr => first | (go_simp; done) | (go_simp; rfl)); intro g2 hg w1 hbox hb; have n0_ := Aside0.mk (below_step HB.out hb); have BK2 := Aside0.mk hbox; clear HB; have HB := n0_; clear n0_ hb hbox hg) | ((with_reducible refine gate_dst (N := 3) rfl ?_); refine box_event ?hg (N := 3) ?hd (cs := #[.int .i64 c.f0, .int .i64 c.f1, .string c.f2, .string c.f3, .string c.f4]) (t := 23) ?hr ?_; (case hd => rfl); (case hg => rfl); (case hr => first | (go_simp; done) | (go_simp; rfl)); intro g3 hg w2 hbox hb; have n0_ := Aside0.mk (below_step HB.out hb); have n1_ := Aside0.mk (blk_below BK2.out hb); have BK3 := Aside0.mk hbox; clear HB BK2; have HB := n0_; have BK2 := n1_; clear n0_ n1_ hb hbox hg; have z20 := (blk_cell BK2.out 0).trans rfl; have z21 := (blk_cell BK2.out 1).trans rfl; have z22 := (blk_cell BK2.out 2).trans rfl; have z23 := (blk_cell BK2.out 3).trans rfl; have z30 := (blk_cell BK3.out 0).trans rfl; have z31 := (blk_cell BK3.out 1).trans rfl; have z32 := (blk_cell BK3.out 2).trans rfl; have z33 := (blk_cell BK3.out 3).trans rfl; have z34 := (blk_cell BK3.out 4).trans rfl) | (go_at_call 36; go_loud ((with_reducible refine (At6_calls k x A2 c2 A3 c3 c.f1 (n', true) _ (Kd.C_below H2.out HB.out) L2.out (Kd.C_below H3.out HB.out) L3.out HT.out).mono ?_); rintro e w4 ⟨⟨C2, e2, C3, e3, rfl⟩, hb4⟩; have n0_ := Aside0.mk (below_step HB.out hb4); have n1_ := Aside0.mk (blk_below BK3.out hb4); clear HB BK3 BK2; have HB := n0_; have BK3 := n1_; clear n0_ n1_ hb4 z20 z21 z22 z23 z30 z31 z32 z33 z34)) | ((with_reducible refine gate_dst (N := 6) rfl ?_); refine box_event ?hg (N := 6) ?hd (cs := #[.int .i64 0, .string (⟨#[]⟩ : ByteArray), .slice none 0 0, .slice none 0 0]) (t := 31) ?hr ?_; (case hd => rfl); (case hg => rfl); (case hr => first | (go_simp; done) | (go_simp; rfl)); intro g6 hg w5 hbox hb; have n0_ := Aside0.mk (below_step HB.out hb); have n1_ := Aside0.mk (blk_below BK3.out hb); have BK6 := Aside0.mk hbox; have GE6 := Aside0.mk (by rw [hg]; exact HB.out.size : w.heap.size ≤ g6); have ne36 : g3 ≠ g6 := (by rw [hg]; exact Nat.ne_of_lt (blk_lt BK3.out)); have ne63 := ne36.symm; clear HB BK3; have HB := n0_; have BK3 := n1_; clear n0_ n1_ hb hbox hg; have z60 := (blk_cell BK6.out 0).trans rfl; have z61 := (blk_cell BK6.out 1).trans rfl; have z62 := (blk_cell BK6.out 2).trans rfl; have z63 := (blk_cell BK6.out 3).trans rfl; have y60 := blk_frozen BK6.out 0; have y61 := blk_frozen BK6.out 1; have y62 := blk_frozen BK6.out 2; have y63 := blk_frozen BK6.out 3; have z30 := (blk_cell BK3.out 0).trans rfl; have z31 := (blk_cell BK3.out 1).trans rfl; have z32 := (blk_cell BK3.out 2).trans rfl; have z33 := (blk_cell BK3.out 3).trans rfl; have z34 := (blk_cell BK3.out 4).trans rfl) | (go_at_call 37; go_loud ((with_reducible refine (treemergeref34_Name.calls n'.f0 nm _ HNM.out).mono ?_); rintro e w6 ⟨rfl, hb6⟩; have n0_ := Aside0.mk (below_step (below_set (below_set (below_set (below_set HB.out GE6.out) GE6.out) GE6.out) GE6.out) hb6); have n1_ := Aside0.mk (blk_below (blk_far (blk_far (blk_far (blk_far BK3.out ne36 _) ne36 _) ne36 _) ne36 _) hb6); have n2_ := Aside0.mk (blk_below (blk_put (cs := #[.int .i64 n'.f0, .string n'.f1, .slice C2 n'.f2.length e2, .slice none 0 0]) (blk_put (cs := #[.int .i64 n'.f0, .string n'.f1, .slice none 0 0, .slice none 0 0]) (blk_put (cs := #[.int .i64 n'.f0, .string (⟨#[]⟩ : ByteArray), .slice none 0 0, .slice none 0 0]) (blk_put (cs := #[.int .i64 0, .string (⟨#[]⟩ : ByteArray), .slice none 0 0, .slice none 0 0]) BK6.out 0 _ rfl) 1 _ rfl) 2 _ rfl) 3 _ rfl) hb6); clear HB BK3 BK6; have HB := n0_; have BK3 := n1_; have BK6 := n2_; clear n0_ n1_ n2_ hb6 z60 z61 z62 z63 y60 y61 y62 y63 z30 z31 z32 z33 z34; have z60 := (blk_cell BK6.out 0).trans rfl; have z61 := (blk_cell BK6.out 1).trans rfl; have z62 := (blk_cell BK6.out 2).trans rfl; have z63 := (blk_cell BK6.out 3).trans rfl; have z30 := (blk_cell BK3.out 0).trans rfl; have z31 := (blk_cell BK3.out 1).trans rfl; have z32 := (blk_cell BK3.out 2).trans rfl; have z33 := (blk_cell BK3.out 3).trans rfl; have z34 := (blk_cell BK3.out 4).trans rfl)) | (go_at_call 38; go_loud ((with_reducible refine (treemergeref34_word.calls c.f0 wd _ HWD.out).mono ?_); rintro e w7 ⟨rfl, hd7⟩; have hb7 := hd7.below; have n0_ := Aside0.mk (below_step HB.out hb7); have n1_ := Aside0.mk (blk_below BK3.out hb7); clear HB BK3 BK6; have HB := n0_; have BK3 := n1_; clear n0_ n1_ hb7 hd7 z60 z61 z62 z63 z30 z31 z32 z33 z34)) | ((with_reducible refine gate_builtin (b := .append) (xs := #[.tmp 28, .tmp 36]) rfl ?_); at_builtin; refine Kd.R_append Kd.string (w0 := w) w.heap.size rfl (.tmp 28) (.tmp 36) 28 9 (.string ⟨#[]⟩) 16 rfl Tryd.underlying28 info9 rfl (by decide) (by omega) (.slice none 0 0) [] (wd ++ (⟨#[32, 99, 111, 110, 102, 108, 105, 99, 116, 32, 97, 116, 32]⟩ : ByteArray) ++ (nm ++ (⟨#[32]⟩ : ByteArray) ++ n'.f1) ++ (⟨#[10]⟩ : ByteArray)) [.string (wd ++ (⟨#[32, 99, 111, 110, 102, 108, 105, 99, 116, 32, 97, 116, 32]⟩ : ByteArray) ++ (nm ++ (⟨#[32]⟩ : ByteArray) ++ n'.f1) ++ (⟨#[10]⟩ : ByteArray))] (fun _ => True) (fun _ => False) rfl rfl rfl (fun _ hk => hk.elim) (fun _ _ => trivial) (Kd.R_nil _ _ _ _ _) HB.out HB.out.size (by simp) ?_; intro v37 w8 ho hb hg hat; rw [← HHD.out] at ho; have hb8 : Below w7.heap.size w7 w8 := ⟨hg.os, hg.tape, hg.output, hg.size, fun j hj => hg.block j hj (by simp [Value.ownBlock])⟩; have HO8 := Aside0.mk ho; have n0_ := Aside0.mk hb; have n1_ := Aside0.mk (blk_below BK3.out hb8); clear HB BK3; have HB := n0_; have BK3 := n1_; clear n0_ n1_ ho hb hg hat hb8; have z30 := (blk_cell BK3.out 0).trans rfl; have z31 := (blk_cell BK3.out 1).trans rfl; have z32 := (blk_cell BK3.out 2).trans rfl; have z33 := (blk_cell BK3.out 3).trans rfl; have z34 := (blk_cell BK3.out 4).trans rfl) | (go_at_call 39; go_loud ((with_reducible refine (treemergeref34_version.calls k (fun k_ => k_ ≠ g3) _ [hd] (⟨#[98, 97, 115, 101]⟩ : ByteArray) c.f2 l1 w _ HB.out (Kd.R_mono (Kd.R_types HO8.out BK3.out (by decide)) (fun _ h => h.2)) HV1.out).mono ?_); rintro e wv1 ⟨v1_, rfl, hr, hbv, hkv⟩; have n1_ := Aside0.mk (blk_kept BK3.out hkv (fun h => h rfl)); have HO9 := Aside0.mk (Kd.R_types hr n1_.out (by decide)); have n0_ := Aside0.mk hbv; clear HB BK3 z30 z31 z32 z33 z34; have HB := n0_; have BK3 := n1_; clear n0_ n1_ hr hbv hkv; have z30 := (blk_cell BK3.out 0).trans rfl; have z31 := (blk_cell BK3.out 1).trans rfl; have z32 := (blk_cell BK3.out 2).trans rfl; have z33 := (blk_cell BK3.out 3).trans rfl; have z34 := (blk_cell BK3.out 4).trans rfl)) | (go_at_call 39; go_loud ((with_reducible refine (treemergeref34_version.calls k (fun k_ => k_ ≠ g3) _ l1 (⟨#[108, 101, 102, 116]⟩ : ByteArray) c.f3 l2 w _ HB.out (Kd.R_mono (Kd.R_types HO9.out BK3.out (by decide)) (fun _ h => h.2)) HV2.out).mono ?_); rintro e wv2 ⟨v2_, rfl, hr, hbv, hkv⟩; have n1_ := Aside0.mk (blk_kept BK3.out hkv (fun h => h rfl)); have HO10 := Aside0.mk (Kd.R_types hr n1_.out (by decide)); have n0_ := Aside0.mk hbv; clear HB BK3 z30 z31 z32 z33 z34; have HB := n0_; have BK3 := n1_; clear n0_ n1_ hr hbv hkv; have z30 := (blk_cell BK3.out 0).trans rfl; have z31 := (blk_cell BK3.out 1).trans rfl; have z32 := (blk_cell BK3.out 2).trans rfl; have z33 := (blk_cell BK3.out 3).trans rfl; have z34 := (blk_cell BK3.out 4).trans rfl)) | (go_at_call 39; go_loud ((with_reducible refine (treemergeref34_version.calls k (fun k_ => k_ ≠ g3) _ l2 (⟨#[114, 105, 103, 104, 116]⟩ : ByteArray) c.f4 r w _ HB.out (Kd.R_mono (Kd.R_types HO10.out BK3.out (by decide)) (fun _ h => h.2)) HV3.out).mono ?_); rintro e wv3 ⟨v3_, rfl, hr, hbv, hkv⟩; have n1_ := Aside0.mk (blk_kept BK3.out hkv (fun h => h rfl)); have HO11 := Aside0.mk (Kd.R_types hr n1_.out (by decide)); have n0_ := Aside0.mk hbv; clear HB BK3 z30 z31 z32 z33 z34; have HB := n0_; have BK3 := n1_; clear n0_ n1_ hr hbv hkv; have z30 := (blk_cell BK3.out 0).trans rfl; have z31 := (blk_cell BK3.out 1).trans rfl; have z32 := (blk_cell BK3.out 2).trans rfl; have z33 := (blk_cell BK3.out 3).trans rfl; have z34 := (blk_cell BK3.out 4).trans rfl)))
      go_ret
      exact ⟨_, rfl, Kd.R_mono HO11.out (fun _ _ => trivial), HB.out⟩

theorem find_mono : ∀ k, (∀ x i, LeO (findF k x i) (findF (k + 1) x i)) ∧ (∀ l i, LeO (findL k l i) (findL (k + 1) l i)) := by
  intro k
  induction k with
  | zero => exact ⟨fun x i => by rw [findF]; exact LeO.none _, fun l i => by rw [findL]; exact LeO.none _⟩
  | succ k ih =>
    refine ⟨fun x i => ?_, fun l i => ?_⟩
    · rw [findF, findF]
      exact LeO.ifs (LeO.refl _) (LeO.ifs (ih.2 _ _) (LeO.refl _))
    · cases l with
      | nil => rw [findL, findL]; exact LeO.refl _
      | cons x l =>
        rw [findL, findL]
        exact LeO.bnd (ih.1 _ _) (fun t => LeO.ifs (LeO.refl _) (ih.2 _ _))
theorem at6_mono (k : Nat) (x : S31) (i : Int) : LeO (at6F k x i) (at6F (k + 1) x i) := by
  unfold at6F
  exact LeO.ifs (LeO.refl _) (LeO.bnd ((find_mono k).1 _ _) (fun _ => LeO.refl _))
theorem rex_mono (k : Nat) (x : S31) (c : S23) : LeO (rexF k x c) (rexF (k + 1) x c) := by
  unfold rexF atS
  exact LeO.bnd (LeO.bnd (at6_mono _ _ _) (fun _ => LeO.refl _)) (fun _ => LeO.bnd (LeO.refl _) (fun _ => LeO.ifs (LeO.refl _) (LeO.bnd (treemergeref34_version.mono _ _ _ _) (fun _ => LeO.bnd (treemergeref34_version.mono _ _ _ _) (fun _ => treemergeref34_version.mono _ _ _ _)))))
def treemergeref34_Explain.f (k : Nat) (a0_0 : Int) (a0_1 : ByteArray) (l0_2 : List ByteArray) (l0_3 : List (S31)) (a1_0 : Int) (a1_1 : Int) (a1_2 : ByteArray) (a1_3 : ByteArray) (a1_4 : ByteArray) : Option (List ByteArray) := rexF k ⟨a0_0, a0_1, l0_2, l0_3⟩ ⟨a1_0, a1_1, a1_2, a1_3, a1_4⟩
theorem treemergeref34_Explain.mono : ∀ a0 a1 a2 a3 a4 a5 a6 a7 a8 k, LeO (treemergeref34_Explain.f k a0 a1 a2 a3 a4 a5 a6 a7 a8) (treemergeref34_Explain.f (k + 1) a0 a1 a2 a3 a4 a5 a6 a7 a8) := fun _ _ _ _ _ _ _ _ _ k => rex_mono k _ _
theorem treemergeref34_Explain.calls (k : Nat) (a0_0 : Int) (a0_1 : ByteArray) (A0_2 : Option Addr) (c0_2 : Nat) (l0_2 : List ByteArray) (A0_3 : Option Addr) (c0_3 : Nat) (l0_3 : List (S31)) (a1_0 : Int) (a1_1 : Int) (a1_2 : ByteArray) (a1_3 : ByteArray) (a1_4 : ByteArray) (r : List ByteArray) (w : World) (hr0_2 : Kd.C Kd.string w A0_2 l0_2.length l0_2) (hc0_2 : l0_2.length ≤ c0_2) (hr0_3 : Kd.C k31 w A0_3 l0_3.length l0_3) (hc0_3 : l0_3.length ≤ c0_3) (h : treemergeref34_Explain.f k a0_0 a0_1 l0_2 l0_3 a1_0 a1_1 a1_2 a1_3 a1_4 = some r) :
    Calls Tryd.prog 16 #[.agg #[.int .i64 a0_0, .string a0_1, .slice A0_2 l0_2.length c0_2, .slice A0_3 l0_3.length c0_3], .agg #[.int .i64 a1_0, .int .i64 a1_1, .string a1_2, .string a1_3, .string a1_4]] w fun e w' => ∃ v0_ : Value, e = .returned (v0_) ∧ Kd.R Kd.string 9 w' w.heap.size (fun _ => True) v0_ r ∧ Below w.heap.size w w' :=
  RExplain_calls k ⟨a0_0, a0_1, l0_2, l0_3⟩ A0_2 c0_2 A0_3 c0_3 ⟨a1_0, a1_1, a1_2, a1_3, a1_4⟩ r w hr0_2 hc0_2 hr0_3 hc0_3 h

end Go.Proofs.YtcajhkbobpakaaaDoor.Q
