-- Written by a program of this session (mk.py) out of the translation; Lean checks it.
import Derived.Test.YtdbgdkbpamekpaaQ0
import Derived.Test.YtdbgdkbpamekpaaQ7
import Derived.Test.YtdbgdkbpamekpaaQ10
namespace Go.Proofs.Ytdbgdkbpamekpaa.Q
open Go.RowKit Go.Proofs.YtdbgdkbpamekpaaW.PrintWords Go.Proofs.YtdbgdkbpamekpaaW.PrintLast Go.Proofs.YtdbgdkbpamekpaaW.PrintMore
attribute [local go_sem] max2_int min2_int max_two min_two max_three min_three max_four min_four   -- for this text's walks alone
set_option linter.unusedVariables false
set_option linter.unusedSimpArgs false

/-! ### treemergeref19_Ints: function 72 -/
mutual
def treemergeref19_Ints.l0 : Nat → List Int → List Int → List Bool → Int → Option ((List (S71)))
 | 0, _, _, _, _ => none
 | k + 1, x0, x1, x5, x6 => if x6 < (x0.length : Int) then (treemergeref19_Ints.l1 k x0 x1 x5 x6 0) else ((treemergeref19_first.f k x5 (x0.length : Int) (x1.length : Int)).bind fun t255 => (some t255))
def treemergeref19_Ints.l1 : Nat → List Int → List Int → List Bool → Int → Int → Option ((List (S71)))
 | 0, _, _, _, _, _ => none
 | k + 1, x0, x1, x5, x6, x7 => if x7 < (x1.length : Int) then (if 0 ≤ x6 then (if x6 < (x0.length : Int) then (if 0 ≤ x7 then (if 0 ≤ (wrap64 ((wrap64 (x6 * (x1.length : Int))) + x7)) then (if (wrap64 ((wrap64 (x6 * (x1.length : Int))) + x7)) < (x5.length : Int) then (treemergeref19_Ints.l1 k x0 x1 (x5.set ((wrap64 ((wrap64 (x6 * (x1.length : Int))) + x7)) : Int).toNat ((rd x0 x6) == (rd x1 x7))) x6 (wrap64 (x7 + 1))) else (none)) else (none)) else (none)) else (none)) else (none)) else (treemergeref19_Ints.l0 k x0 x1 x5 (wrap64 (x6 + 1)))
end
def treemergeref19_Ints.f (k : Nat) (l0 : List Int) (l1 : List Int) : Option ((List (S71))) := if 0 ≤ (wrap64 ((l0.length : Int) * (l1.length : Int))) then (if (wrap64 ((l0.length : Int) * (l1.length : Int)) : Int).toNat ≤ 281474976710656 then (treemergeref19_Ints.l0 k l0 l1 (List.replicate (wrap64 ((l0.length : Int) * (l1.length : Int)) : Int).toNat false) 0) else (none)) else (none)
theorem treemergeref19_Ints.mono_l : ∀ k, (∀ y0 y1 y2 y3, LeO (treemergeref19_Ints.l0 k y0 y1 y2 y3) (treemergeref19_Ints.l0 (k + 1) y0 y1 y2 y3)) ∧ (∀ y0 y1 y2 y3 y4, LeO (treemergeref19_Ints.l1 k y0 y1 y2 y3 y4) (treemergeref19_Ints.l1 (k + 1) y0 y1 y2 y3 y4))
 | 0 => ⟨fun _ _ _ _ r h => by simp [treemergeref19_Ints.l0] at h, fun _ _ _ _ _ r h => by simp [treemergeref19_Ints.l1] at h⟩
 | k + 1 => by
  obtain ⟨ih0, ih1⟩ := treemergeref19_Ints.mono_l k
  refine ⟨?_, ?_⟩
  ·intro y0 y1 y2 y3
   unfold treemergeref19_Ints.l0
   repeat' first
   | (with_reducible exact ih0 _ _ _ _)
   | (with_reducible exact ih1 _ _ _ _ _)
   | (with_reducible exact treemergeref19_first.mono _ _ _ _)
   | (with_reducible exact LeO.refl _)
   | (with_reducible exact LeO.none _)
   | (with_reducible refine LeO.ite ?_ ?_)
   | (with_reducible refine LeO.bind ?_ (fun _ => ?_))
  ·intro y0 y1 y2 y3 y4
   unfold treemergeref19_Ints.l1
   repeat' first
   | (with_reducible exact ih0 _ _ _ _)
   | (with_reducible exact ih1 _ _ _ _ _)
   | (with_reducible exact treemergeref19_first.mono _ _ _ _)
   | (with_reducible exact LeO.refl _)
   | (with_reducible exact LeO.none _)
   | (with_reducible refine LeO.ite ?_ ?_)
   | (with_reducible refine LeO.bind ?_ (fun _ => ?_))
theorem treemergeref19_Ints.mono : ∀ a0 a1 k, LeO (treemergeref19_Ints.f k a0 a1) (treemergeref19_Ints.f (k + 1) a0 a1) := by
 intro a0 a1 k
 obtain ⟨ih0, ih1⟩ := treemergeref19_Ints.mono_l k
 unfold treemergeref19_Ints.f
 repeat' first
   | (with_reducible exact ih0 _ _ _ _)
   | (with_reducible exact ih1 _ _ _ _ _)
   | (with_reducible exact treemergeref19_first.mono _ _ _ _)
   | (with_reducible exact LeO.refl _)
   | (with_reducible exact LeO.none _)
   | (with_reducible refine LeO.ite ?_ ?_)
   | (with_reducible refine LeO.bind ?_ (fun _ => ?_))
def treemergeref19_Ints.T8 : Bool × List (List Nat × List Nat) := (true, [([], []), ([], []), ([], []), ([2], [2]), ([1, 3], [1, 3]), ([], []), ([4, 5], [4, 5]), ([], []), ([], []), ([7, 8], [7, 8]), ([9], [9]), ([], []), ([], []), ([11, 12], [11, 12]), ([13], [13]), ([10, 14], [10, 14]), ([0, 6, 0, 1, 2, 3, 4, 5, 6, 7, 8, 9, 10, 11, 12, 13, 14, 15], [0, 6]), ([16, 15, 0, 1, 2, 3, 4, 5, 6, 7, 8, 9, 10, 11, 12, 13, 14, 15], [15, 16])])
def treemergeref19_Ints.B8 : List Nat := [0, 0, 0, 4, 14, 0, 62, 0, 0, 384, 896, 0, 0, 6144, 14336, 32640, 65535, 131071]
theorem treemergeref19_Ints.tab8 : rtab .any (opsOf Try.f72 8) = treemergeref19_Ints.T8 := by kernel_rfl
theorem treemergeref19_Ints.bits8 : waitsOk treemergeref19_Ints.T8.2 treemergeref19_Ints.B8 = true := by kernel_rfl
set_option maxHeartbeats 8000000 in
set_option maxRecDepth 100000 in
theorem treemergeref19_Ints.calls (k : Nat) (A0 : Option Addr) (c0 : Nat) (l0 : List Int) (A1 : Option Addr) (c1 : Nat) (l1 : List Int) (r : List (S71)) (w : World) (hr0 : Kd.C (Kd.int .i64) w A0 l0.length l0) (hc0 : l0.length ≤ c0) (hr1 : Kd.C (Kd.int .i64) w A1 l1.length l1) (hc1 : l1.length ≤ c1) (h : treemergeref19_Ints.f k l0 l1 = some r) :
  Calls Try.prog 72 #[.slice A0 l0.length c0, .slice A1 l1.length c1] w fun e w' => ∃ v0_ : Value, e = .returned (v0_) ∧ Kd.R k71 71 w' w.heap.size (fun _ => True) v0_ r ∧ Below w.heap.size w w' := by
 have HR0 := Aside0.mk hr0
 have HC0 := Aside0.mk hc0
 clear hr0 hc0
 have HR1 := Aside0.mk hr1
 have HC1 := Aside0.mk hc1
 clear hr1 hc1
 have HB := Aside0.mk (Below.refl w.heap.size w)
 have H : (if 0 ≤ (wrap64 ((l0.length : Int) * (l1.length : Int))) then (if (wrap64 ((l0.length : Int) * (l1.length : Int)) : Int).toNat ≤ 281474976710656 then (treemergeref19_Ints.l0 k l0 l1 (List.replicate (wrap64 ((l0.length : Int) * (l1.length : Int)) : Int).toNat false) 0) else (none)) else (none)) = some r := h
 clear h
 obtain ⟨ji3, hji3⟩ : ∃ j_ : Int, (wrap64 ((l0.length : Int) * (l1.length : Int))) = j_ := ⟨_, rfl⟩
 replace H : (if 0 ≤ (ji3) then (if (ji3 : Int).toNat ≤ 281474976710656 then (treemergeref19_Ints.l0 k l0 l1 (List.replicate (ji3 : Int).toNat false) 0) else (none)) else (none)) = some r := by first | (rw [hji3] at H; exact H) | (simp only [hji3] at H ⊢; exact H)
 have hji3w : (IntKind.i64.wrap ((l0.length : Int) * (l1.length : Int))) = ji3 := (i64_w _).trans hji3
 by_cases c4 : 0 ≤ (ji3)
 ·rw [if_pos c4] at H
  have c4b0 := eq_true c4
  have c4b1 : decide (0 ≤ (ji3)) = true := decide_eq_true c4
  clear c4
  by_cases c5 : (ji3 : Int).toNat ≤ 281474976710656
  ·rw [if_pos c5] at H
   have c5b0 := eq_true c5
   have c5b1 : decide ((ji3 : Int).toNat ≤ 281474976710656) = true := decide_eq_true c5
   clear c5
   obtain ⟨y252, hy252⟩ : ∃ y_ : List Bool, y_ = (List.replicate (ji3 : Int).toNat false) := ⟨_, rfl⟩
   replace H : (treemergeref19_Ints.l0 k l0 l1 y252 0) = some r := by first | (rw [hy252]; with_reducible exact H) | (have H2_ := (Option.bind_some _ _).symm.trans H; rw [hy252]; with_reducible exact H2_) | (have H2_ := (Option.bind_some _ _).symm.trans H; with_reducible exact H2_) | with_reducible exact H | (rw [hy252]; exact H) | exact H
   have Ny252 := Aside0.mk hy252
   clear hy252
   have H' := Aside0.mk H
   clear H
   go_enter Try.func72, Try.ntmps72
   go_wp2_with (first | ((with_reducible refine gate_dst (N := 13) rfl ?_); refine Kd.R_make Kd.bool _ 4 rfl (N := 13) rfl 103 _ _ rfl ji3 rfl rfl Try.underlying103 (.bool false) 1 info4 rfl (by decide) (by omega) false (ok := fun _ => True) (okp := fun _ => True) rfl (fun _ hk => hk) trivial (of_decide_eq_true AX) (Nat.le_trans (Nat.mul_le_mul_right _ (of_decide_eq_true AX : ji3.toNat ≤ 281474976710656)) (by omega)) (Below.refl _ _) (Nat.le_refl _) ?_; intro v253 w6 ho7 hb hg_ hnew_; clear hg_ hnew_; (first | rw [← Ny252.out] at ho7 | (simp only [Int.reduceToNat] at ho7; rw [← Ny252.out] at ho7)); have n0_ := Aside0.mk (Kd.R_lower ho7 (below_size (BX HB.out))); have n1_ := Aside0.mk (below_step (BX HB.out) hb); clear HB; have HO254 := n0_; have HB := n1_; clear n0_ n1_; clear hb ho7))
   go_loopg [6] k (fun kq v6 w' => ∃ (x5_1 : List Bool) (x6_1 : Int), v6 = .int .i64 x6_1 ∧ Aside0 (treemergeref19_Ints.l0 kq l0 l1 x5_1 x6_1 = some r) ∧ Aside0 (kq ≤ k) ∧ Aside0 (Kd.R Kd.bool 4 w' w.heap.size (fun _ => True) v253 x5_1) ∧ Aside0 (Below w.heap.size w w'))
   case atStart => exact ⟨(y252), (0), SX, H', ⟨Nat.le_refl _⟩, ⟨RX HO254.out⟩, ⟨BX HB.out⟩⟩
   case round =>
    clear H'
    try clear c1
    try clear p2
    try clear c4
    try clear c4b0
    try clear c4b1
    try clear c5
    try clear c5b0
    try clear c5b1
    try clear p6
    try clear c7
    obtain ⟨x5_1, x6_1, rfl, HA, HK1, HO_5, HB⟩ := hrel
    cases gk with
    | zero => exact absurd HA.out (by simp [treemergeref19_Ints.l0])
    | succ k1 =>
     have H := HA.out
     clear HA
     simp only [treemergeref19_Ints.l0] at H
     by_cases c8 : x6_1 < (l0.length : Int)
     ·rw [if_pos c8] at H
      have c8b0 : decide (x6_1 < (l0.length : Int)) = true := decide_eq_true c8
      clear c8
      have H' := Aside0.mk H
      clear H
      go_wp2
      go_loopg [7] k1 (fun kq v7 w' => ∃ (x5_2 : List Bool) (x7_2 : Int), v7 = .int .i64 x7_2 ∧ Aside0 (treemergeref19_Ints.l1 kq l0 l1 x5_2 x6_1 x7_2 = some r) ∧ Aside0 (kq ≤ k1) ∧ Aside0 (Kd.R Kd.bool 4 w' w.heap.size (fun _ => True) v253 x5_2) ∧ Aside0 (Below w.heap.size w w'))
      case atStart => exact ⟨(x5_1), (0), SX, H', ⟨Nat.le_refl _⟩, ⟨RX HO_5.out⟩, ⟨BX HB.out⟩⟩
      case round =>
       clear H'
       try clear c1
       try clear p2
       try clear c4
       try clear c4b0
       try clear c4b1
       try clear c5
       try clear c5b0
       try clear c5b1
       try clear p6
       try clear c7
       try clear c8
       try clear c8b0
       try clear p2
       try clear p6
       obtain ⟨x5_2, x7_2, rfl, HA, HK2, HO_5, HB⟩ := hrel
       cases gk with
       | zero => exact absurd HA.out (by simp [treemergeref19_Ints.l1])
       | succ k2 =>
        have H := HA.out
        clear HA
        simp only [treemergeref19_Ints.l1] at H
        by_cases c9 : x7_2 < (l1.length : Int)
        ·rw [if_pos c9] at H
         have c9b0 : decide (x7_2 < (l1.length : Int)) = true := decide_eq_true c9
         clear c9
         by_cases c10 : 0 ≤ x6_1
         ·rw [if_pos c10] at H
          have c10b0 : decide (0 ≤ x6_1) = true := decide_eq_true c10
          clear c10
          by_cases c11 : x6_1 < (l0.length : Int)
          ·rw [if_pos c11] at H
           have c11b0 : decide (x6_1 < (l0.length : Int)) = true := decide_eq_true c11
           clear c11
           by_cases c12 : 0 ≤ x7_2
           ·rw [if_pos c12] at H
            have c12b0 : decide (0 ≤ x7_2) = true := decide_eq_true c12
            clear c12
            obtain ⟨ji13, hji13⟩ : ∃ j_ : Int, (wrap64 ((wrap64 (x6_1 * (l1.length : Int))) + x7_2)) = j_ := ⟨_, rfl⟩
            replace H : (if 0 ≤ (ji13) then (if (ji13) < (x5_2.length : Int) then (treemergeref19_Ints.l1 k2 l0 l1 (x5_2.set ((ji13) : Int).toNat ((rd l0 x6_1) == (rd l1 x7_2))) x6_1 (wrap64 (x7_2 + 1))) else (none)) else (none)) = some r := by first | (rw [hji13] at H; exact H) | (simp only [hji13] at H ⊢; exact H)
            have hji13w : (IntKind.i64.wrap ((wrap64 (x6_1 * (l1.length : Int))) + x7_2)) = ji13 := (i64_w _).trans hji13
            by_cases c14 : 0 ≤ (ji13)
            ·rw [if_pos c14] at H
             have c14b0 : decide (0 ≤ (ji13)) = true := decide_eq_true c14
             clear c14
             by_cases c15 : (ji13) < (x5_2.length : Int)
             ·rw [if_pos c15] at H
              have c15b0 : decide ((ji13) < (x5_2.length : Int)) = true := decide_eq_true c15
              try (have c15b0h := (by assumption : x5_2.length = _) ▸ c15b0)
              clear c15
              obtain ⟨y260, hy260⟩ : ∃ y_ : List Bool, y_ = (x5_2.set ((ji13) : Int).toNat ((rd l0 x6_1) == (rd l1 x7_2))) := ⟨_, rfl⟩
              replace H : (treemergeref19_Ints.l1 k2 l0 l1 y260 x6_1 (wrap64 (x7_2 + 1))) = some r := by first | (rw [hy260]; with_reducible exact H) | (have H2_ := (Option.bind_some _ _).symm.trans H; rw [hy260]; with_reducible exact H2_) | (have H2_ := (Option.bind_some _ _).symm.trans H; with_reducible exact H2_) | with_reducible exact H | (rw [hy260]; exact H) | exact H
              have Ny260 := Aside0.mk hy260
              clear hy260
              have H' := Aside0.mk H
              clear H
              try go_wp2
              have n0_ := Aside0.mk (Kd.R_drew HO_5.out)
              have n1_ := Aside0.mk (below_drew1 HB.out)
              clear HO_5
              clear HB
              have HO_5 := n0_
              have HB := n1_
              clear n0_ n1_
              have p258 : 0 ≤ (x6_1 : Int) := of_decide_eq_true AX
              have q258 : x6_1 < (l0.length : Int) := of_decide_eq_true AX
              obtain ⟨ad258, e258, hx258_0⟩ := Kd.at_int HR0.out x6_1 p258 q258
              have hw258_0 := hx258_0
              cases e258
              replace hx258_0 := (HB.out.cell (World.block_lt_of_cell? w _ hx258_0)).trans hx258_0
              replace p258 := eq_true p258
              replace q258 := eq_true q258
              have p259 : 0 ≤ (x7_2 : Int) := of_decide_eq_true AX
              have q259 : x7_2 < (l1.length : Int) := of_decide_eq_true AX
              obtain ⟨ad259, e259, hx259_0⟩ := Kd.at_int HR1.out x7_2 p259 q259
              have hw259_0 := hx259_0
              cases e259
              replace hx259_0 := (HB.out.cell (World.block_lt_of_cell? w _ hx259_0)).trans hx259_0
              replace p259 := eq_true p259
              replace q259 := eq_true q259
              have p16 : 0 ≤ ((ji13) : Int) := of_decide_eq_true AX
              have q16 : ((ji13) : Int) < ((x5_2.length : Int) : Int) := of_decide_eq_true AX
              obtain ⟨go16, co16, eo16, gb16, gl16, cl16, HG16⟩ := Kd.R_form HO_5.out (by omega)
              (first | cases eo16 | (injection eo16 with ea_ en_ ec_; (first | subst ea_ | (injection ea_ with ea_; subst ea_)); subst ec_; clear en_))
              have GB16 := Aside0.mk gb16
              have GG16 := Aside0.mk HG16
              clear gb16 gl16 HG16
              obtain ⟨hx16_0, hf16_0⟩ := Kd.R_celln false HO_5.out ((ji13) : Int) p16 q16
              replace p16 := eq_true p16
              replace q16 := eq_true q16
              have HP18 := Kd.R_putn HO_5.out ((ji13) : Int) ((rd l0 x6_1) == (rd l1 x7_2))
              rw [← Ny260.out] at HP18
              have HQ18 := Aside0.mk HP18
              clear HP18
              refine start_ (n := 18) (S := fun w' => w'.cell? (ad258.add (x6_1).toNat) = some (.int .i64 (rd l0 x6_1)) ∧ w'.cell? (ad259.add (x7_2).toNat) = some (.int .i64 (rd l1 x7_2))) (ds := [17]) #[false, false, false, false, false, false, false, false, false, false, false, false, false, false, false, false, false, false] (by kernel_rfl) rfl rfl ⟨((HB.out.cell (World.block_lt_of_cell? w _ hw258_0)).trans hw258_0), ((HB.out.cell (World.block_lt_of_cell? w _ hw259_0)).trans hw259_0)⟩ (fun hHeld => ?_); refine with_tabW treemergeref19_Ints.tab8 treemergeref19_Ints.bits8 (fun HT_ HW_ => ?_)
              generalize wr.drew = w17 at HO_5 HB GG16 HQ18 hf16_0 hx16_0 hx258_0 hx259_0 hHeld ⊢
              refine pure_ (i := 0) (N := some 26) (v := ?_) (a' := ?_) #[true, false, false, false, false, false, false, false, false, false, false, false, false, false, false, false, false, false] rfl rfl (any_of HT_.out (by kernel_rfl)) (fun _ _ _ h => h) (Or.inl ⟨by rfl, ?_⟩) ?_ ?_
              rotate_left
              ·intro w'
               go_simp
               with_reducible rfl
              rotate_left
              ·simp only [Act.put, List.setIfInBounds_toArray, List.set_cons_zero, List.set_cons_succ, i64_w, i32_w]
               rfl
              refine pure_ (i := 1) (N := some 27) (v := ?_) (a' := ?_) #[true, true, false, false, false, false, false, false, false, false, false, false, false, false, false, false, false, false] rfl rfl (any_of HT_.out (by kernel_rfl)) (fun _ _ _ h => h) (Or.inl ⟨by rfl, ?_⟩) ?_ ?_
              rotate_left
              ·intro w'
               go_simp
               with_reducible rfl
              rotate_left
              ·simp only [Act.put, List.setIfInBounds_toArray, List.set_cons_zero, List.set_cons_succ, i64_w, i32_w]
               rfl
              refine pure_ (i := 2) (N := some 28) (v := ?_) (a' := ?_) #[true, true, true, false, false, false, false, false, false, false, false, false, false, false, false, false, false, false] rfl rfl (any_of HT_.out (by kernel_rfl)) (fun _ _ _ h => h) (Or.inl ⟨by rfl, ?_⟩) ?_ ?_
              rotate_left
              ·intro w'
               go_simp
               with_reducible rfl
              rotate_left
              ·simp only [Act.put, List.setIfInBounds_toArray, List.set_cons_zero, List.set_cons_succ, i64_w, i32_w]
               rfl
              refine pure_ (i := 3) (N := some 29) (v := ?_) (a' := ?_) #[true, true, true, true, false, false, false, false, false, false, false, false, false, false, false, false, false, false] rfl rfl (any_of HT_.out (by kernel_rfl)) (fun _ _ _ h => h) (Or.inl ⟨by rfl, ?_⟩) ?_ ?_
              rotate_left
              ·intro w'
               go_simp
               with_reducible rfl
              rotate_left
              ·simp only [Act.put, List.setIfInBounds_toArray, List.set_cons_zero, List.set_cons_succ, i64_w, i32_w]
               rfl
              refine pure_ (i := 4) (N := some 30) (v := ?_) (a' := ?_) #[true, true, true, true, true, false, false, false, false, false, false, false, false, false, false, false, false, false] rfl rfl (any_of HT_.out (by kernel_rfl)) (fun _ _ _ h => h) (Or.inl ⟨by rfl, ?_⟩) ?_ ?_
              rotate_left
              ·intro w'
               go_simp
               with_reducible rfl
              rotate_left
              ·simp only [Act.put, List.setIfInBounds_toArray, List.set_cons_zero, List.set_cons_succ, i64_w, i32_w]
               rfl
              refine pure_ (i := 5) (N := some 31) (v := ?_) (a' := ?_) #[true, true, true, true, true, true, false, false, false, false, false, false, false, false, false, false, false, false] rfl rfl (any_of HT_.out (by kernel_rfl)) (fun _ _ _ h => h) (Or.inl ⟨by rfl, ?_⟩) ?_ ?_
              rotate_left
              ·intro w'
               go_simp
               with_reducible rfl
              rotate_left
              ·simp only [Act.put, List.setIfInBounds_toArray, List.set_cons_zero, List.set_cons_succ, i64_w, i32_w]
               rfl
              refine pure_ (i := 6) (N := some 32) (v := ?_) (a' := ?_) #[true, true, true, true, true, true, true, false, false, false, false, false, false, false, false, false, false, false] rfl rfl (any_of HT_.out (by kernel_rfl)) (fun _ _ _ h => h) (Or.inl ⟨by rfl, ?_⟩) ?_ ?_
              rotate_left
              ·intro w'
               go_simp
               with_reducible rfl
              rotate_left
              ·simp only [Act.put, List.setIfInBounds_toArray, List.set_cons_zero, List.set_cons_succ, i64_w, i32_w]
               rfl
              refine pure_ (i := 7) (N := some 33) (v := ?_) (a' := ?_) #[true, true, true, true, true, true, true, true, false, false, false, false, false, false, false, false, false, false] rfl rfl (any_of HT_.out (by kernel_rfl)) (fun _ _ _ h => h) (Or.inl ⟨by rfl, ?_⟩) ?_ ?_
              rotate_left
              ·intro w'
               go_simp
               with_reducible rfl
              rotate_left
              ·simp only [Act.put, List.setIfInBounds_toArray, List.set_cons_zero, List.set_cons_succ, i64_w, i32_w]
               rfl
              refine pure_ (i := 8) (N := some 34) (v := ?_) (a' := ?_) #[true, true, true, true, true, true, true, true, true, false, false, false, false, false, false, false, false, false] rfl rfl (any_of HT_.out (by kernel_rfl)) (fun _ _ _ h => h) (Or.inl ⟨by rfl, ?_⟩) ?_ ?_
              rotate_left
              ·intro w'
               go_simp
               with_reducible rfl
              rotate_left
              ·simp only [Act.put, List.setIfInBounds_toArray, List.set_cons_zero, List.set_cons_succ, i64_w, i32_w]
               rfl
              refine pure_ (i := 9) (N := some 35) (v := ?_) (a' := ?_) #[true, true, true, true, true, true, true, true, true, true, false, false, false, false, false, false, false, false] rfl rfl (any_of HT_.out (by kernel_rfl)) (fun _ _ _ h => h) (Or.inl ⟨by rfl, ?_⟩) ?_ ?_
              rotate_left
              ·intro w'
               go_simp
               with_reducible rfl
              rotate_left
              ·simp only [Act.put, List.setIfInBounds_toArray, List.set_cons_zero, List.set_cons_succ, i64_w, i32_w]
               rfl
              refine pure_ (i := 11) (N := some 37) (v := ?_) (a' := ?_) #[true, true, true, true, true, true, true, true, true, true, false, true, false, false, false, false, false, false] rfl rfl (any_of HT_.out (by kernel_rfl)) (fun _ _ _ h => h) (Or.inl ⟨by rfl, ?_⟩) ?_ ?_
              rotate_left
              ·intro w'
               go_simp
               with_reducible rfl
              rotate_left
              ·simp only [Act.put, List.setIfInBounds_toArray, List.set_cons_zero, List.set_cons_succ, i64_w, i32_w]
               rfl
              refine pure_ (i := 12) (N := some 38) (v := ?_) (a' := ?_) #[true, true, true, true, true, true, true, true, true, true, false, true, true, false, false, false, false, false] rfl rfl (any_of HT_.out (by kernel_rfl)) (fun _ _ _ h => h) (Or.inl ⟨by rfl, ?_⟩) ?_ ?_
              rotate_left
              ·intro w'
               go_simp
               with_reducible rfl
              rotate_left
              ·simp only [Act.put, List.setIfInBounds_toArray, List.set_cons_zero, List.set_cons_succ, i64_w, i32_w]
               rfl
              refine pure_ (i := 13) (N := some 39) (v := ?_) (a' := ?_) #[true, true, true, true, true, true, true, true, true, true, false, true, true, true, false, false, false, false] rfl rfl (any_of HT_.out (by kernel_rfl)) (fun _ _ _ h => h) (Or.inl ⟨by rfl, ?_⟩) ?_ ?_
              rotate_left
              ·intro w'
               go_simp
               with_reducible rfl
              rotate_left
              ·simp only [Act.put, List.setIfInBounds_toArray, List.set_cons_zero, List.set_cons_succ, i64_w, i32_w]
               rfl
              refine take_ (i := 10) (N := some 36) (v := ?_) (a' := ?_) #[true, true, true, true, true, true, true, true, true, true, true, true, true, true, false, false, false, false] rfl rfl (take_ofW HT_.out HW_.out (by kernel_rfl)) (fun _ _ _ h => h) (Or.inl ⟨by rfl, ?_⟩) hHeld ?_ ?_
              rotate_left
              ·rintro w' ⟨s0, s1⟩
               try simp only [Int.toNat_natCast] at s0 s1
               go_simp
               with_reducible rfl
              rotate_left
              ·simp only [Act.put, List.setIfInBounds_toArray, List.set_cons_zero, List.set_cons_succ, i64_w, i32_w]
               rfl
              refine take_ (i := 14) (N := some 40) (v := ?_) (a' := ?_) #[true, true, true, true, true, true, true, true, true, true, true, true, true, true, true, false, false, false] rfl rfl (take_ofW HT_.out HW_.out (by kernel_rfl)) (fun _ _ _ h => h) (Or.inl ⟨by rfl, ?_⟩) hHeld ?_ ?_
              rotate_left
              ·rintro w' ⟨s0, s1⟩
               try simp only [Int.toNat_natCast] at s0 s1
               go_simp
               with_reducible rfl
              rotate_left
              ·simp only [Act.put, List.setIfInBounds_toArray, List.set_cons_zero, List.set_cons_succ, i64_w, i32_w]
               rfl
              refine pure_ (i := 15) (N := some 41) (v := ?_) (a' := ?_) #[true, true, true, true, true, true, true, true, true, true, true, true, true, true, true, true, false, false] rfl rfl (any_of HT_.out (by kernel_rfl)) (fun _ _ _ h => h) (Or.inl ⟨by rfl, ?_⟩) ?_ ?_
              rotate_left
              ·intro w'
               go_simp
               with_reducible rfl
              rotate_left
              ·simp only [Act.put, List.setIfInBounds_toArray, List.set_cons_zero, List.set_cons_succ, i64_w, i32_w]
               rfl
              refine pure_ (i := 16) (N := some 42) (v := ?_) (a' := ?_) #[true, true, true, true, true, true, true, true, true, true, true, true, true, true, true, true, true, false] rfl rfl (any_of HT_.out (by kernel_rfl)) (fun _ _ _ h => h) (Or.inl ⟨by rfl, ?_⟩) ?_ ?_
              rotate_left
              ·intro w'
               go_simp
               with_reducible rfl
              rotate_left
              ·simp only [Act.put, List.setIfInBounds_toArray, List.set_cons_zero, List.set_cons_succ, i64_w, i32_w]
               rfl
              refine last_ (i := 17) (N := none) #[true, true, true, true, true, true, true, true, true, true, true, true, true, true, true, true, true, true] rfl rfl (one_of HT_.out (by kernel_rfl)) (by decide) (fun K hK => ?_)
              refine skip_ (w1 := ?_) (by rfl) rfl ?_ ?_
              rotate_left
              ·go_simp
               rfl
              refine hK.out _ _ ?_
              clear hK K
              refine done_ (done_of HT_.out (by kernel_rfl)) ?_
              try go_wp2
              go_roundg k2
              case measure => have := HK1.out; have := HK2.out; omega
              case rel => exact ⟨(y260), (wrap64 (x7_2 + 1)), SX, H', ⟨by have := HK1.out; have := HK2.out; omega⟩, ⟨RX HQ18.out⟩, ⟨by repeat (first | (with_reducible first | exact HB.out | apply below_alloc | apply pw_below_drewN | apply below_drew1 | refine below_set ?_ GB16.out) | exact HB.out)⟩⟩
             ·rw [if_neg c15] at H
              exact absurd H (by simp)
            ·rw [if_neg c14] at H
             exact absurd H (by simp)
           ·rw [if_neg c12] at H
            exact absurd H (by simp)
          ·rw [if_neg c11] at H
           exact absurd H (by simp)
         ·rw [if_neg c10] at H
          exact absurd H (by simp)
        ·rw [if_neg c9] at H
         have c9b0 : decide (x7_2 < (l1.length : Int)) = false := decide_eq_false c9
         clear c9
         have H' := Aside0.mk H
         clear H
         go_wp2
         go_roundg k2
         case measure => have := HK1.out; have := HK2.out; omega
         case rel => exact ⟨(x5_2), (wrap64 (x6_1 + 1)), SX, H', ⟨by have := HK1.out; have := HK2.out; omega⟩, ⟨RX HO_5.out⟩, ⟨BX HB.out⟩⟩
     ·rw [if_neg c8] at H
      have c8b0 : decide (x6_1 < (l0.length : Int)) = false := decide_eq_false c8
      clear c8
      replace H := Option.bind_eq_some_iff.mp H
      obtain ⟨t255, A190, H⟩ := H
      have A19 := Aside0.mk A190
      clear A190
      obtain rfl := Option.some.inj H
      obtain ⟨Ao20, co20, eo20⟩ := Kd.R_slice HO_5.out
      subst eo20
      go_wp2_with (first | ((with_reducible refine gate_callee (f := 89) rfl ?_); refine goesL_ (some 48) rfl rfl Try.func89 (by kernel_rfl) rfl #[.slice Ao20 x5_1.length co20, .int .i64 (l0.length : Int), .int .i64 (l1.length : Int)] rfl MX ?_; (with_reducible refine (treemergeref19_first.calls k1 _ _ x5_1 (l0.length : Int) (l1.length : Int) t255 _ ?side1 ?side2 A19.out).mono ?_); (case side1 => exact CX ((Kd.R_reads' HO_5.out).2.2)); (case side2 => exact (Kd.R_reads' HO_5.out).2.1); rintro e w21 ⟨v256, rfl, ho0, hb⟩; refine ⟨_, rfl, ?_⟩; have n0_ := Aside0.mk (Kd.R_below (RX HO_5.out) hb); have n1_ := Aside0.mk (Kd.R_lower ho0 (below_size (BX HB.out))); have n2_ := Aside0.mk (below_step (BX HB.out) hb); clear HO_5; clear HB; have HO_5 := n0_; have HO257 := n1_; have HB := n2_; clear n0_ n1_ n2_; (try clear hb); (try clear hb2); (try clear hk); (try clear hi); (try clear ho0)))
      go_ret
      exact ⟨_, by first | rfl | (simp [errW_none, errW_some] <;> rfl) | (simp only [← hji3]; first | rfl | (simp [errW_none, errW_some] <;> rfl)) | (simp [*, errW_none, errW_some] <;> rfl), by (with_reducible repeat (first | apply Kd.R_alloc | apply Kd.R_drewN | apply Kd.R_drew)); exact HO257.out, BX HB.out⟩
  ·rw [if_neg c5] at H
   exact absurd H (by simp)
 ·rw [if_neg c4] at H
  exact absurd H (by simp)

/-! ### treemergeref32_stable: function 44 -/
mutual
def treemergeref32_stable.l0 : Nat → List Int → List (S71) → List (S71) → List Int → Int → Option (List Int)
 | 0, _, _, _, _, _ => none
 | k + 1, x0, x7, x8, x9, x10 => if x10 < (x7.length : Int) then (treemergeref32_stable.l1 k x0 x7 x8 x9 x10 0) else (some x9)
def treemergeref32_stable.l1 : Nat → List Int → List (S71) → List (S71) → List Int → Int → Int → Option (List Int)
 | 0, _, _, _, _, _, _ => none
 | k + 1, x0, x7, x8, x9, x10, x11 => if x11 < (x8.length : Int) then (if 0 ≤ x10 then (if x10 < (x7.length : Int) then (if 0 ≤ x11 then (if ((rd_T71 x7 x10).f0) = ((rd_T71 x8 x11).f0) then (if 0 ≤ ((rd_T71 x7 x10).f0) then (if ((rd_T71 x7 x10).f0) < (x0.length : Int) then (if x9.length < 17592186044416 then (treemergeref32_stable.l1 k x0 x7 x8 (x9 ++ [rd x0 ((rd_T71 x7 x10).f0)]) x10 (wrap64 (x11 + 1))) else (none)) else (none)) else (none)) else (treemergeref32_stable.l1 k x0 x7 x8 x9 x10 (wrap64 (x11 + 1)))) else (none)) else (none)) else (none)) else (treemergeref32_stable.l0 k x0 x7 x8 x9 (wrap64 (x10 + 1)))
end
def treemergeref32_stable.f (k : Nat) (l0 : List Int) (l1 : List Int) (l2 : List Int) : Option (List Int) := (treemergeref19_Ints.f k l0 l1).bind fun t261 => ((treemergeref19_Ints.f k l0 l2).bind fun t264 => (treemergeref32_stable.l0 k l0 t261 t264 ([] : List Int) 0))
theorem treemergeref32_stable.mono_l : ∀ k, (∀ y0 y1 y2 y3 y4, LeO (treemergeref32_stable.l0 k y0 y1 y2 y3 y4) (treemergeref32_stable.l0 (k + 1) y0 y1 y2 y3 y4)) ∧ (∀ y0 y1 y2 y3 y4 y5, LeO (treemergeref32_stable.l1 k y0 y1 y2 y3 y4 y5) (treemergeref32_stable.l1 (k + 1) y0 y1 y2 y3 y4 y5))
 | 0 => ⟨fun _ _ _ _ _ r h => by simp [treemergeref32_stable.l0] at h, fun _ _ _ _ _ _ r h => by simp [treemergeref32_stable.l1] at h⟩
 | k + 1 => by
  obtain ⟨ih0, ih1⟩ := treemergeref32_stable.mono_l k
  refine ⟨?_, ?_⟩
  ·intro y0 y1 y2 y3 y4
   unfold treemergeref32_stable.l0
   repeat' first
   | (with_reducible exact ih0 _ _ _ _ _)
   | (with_reducible exact ih1 _ _ _ _ _ _)
   | (with_reducible exact treemergeref19_Ints.mono _ _ _)
   | (with_reducible exact LeO.refl _)
   | (with_reducible exact LeO.none _)
   | (with_reducible refine LeO.ite ?_ ?_)
   | (with_reducible refine LeO.bind ?_ (fun _ => ?_))
  ·intro y0 y1 y2 y3 y4 y5
   unfold treemergeref32_stable.l1
   repeat' first
   | (with_reducible exact ih0 _ _ _ _ _)
   | (with_reducible exact ih1 _ _ _ _ _ _)
   | (with_reducible exact treemergeref19_Ints.mono _ _ _)
   | (with_reducible exact LeO.refl _)
   | (with_reducible exact LeO.none _)
   | (with_reducible refine LeO.ite ?_ ?_)
   | (with_reducible refine LeO.bind ?_ (fun _ => ?_))
theorem treemergeref32_stable.mono : ∀ a0 a1 a2 k, LeO (treemergeref32_stable.f k a0 a1 a2) (treemergeref32_stable.f (k + 1) a0 a1 a2) := by
 intro a0 a1 a2 k
 obtain ⟨ih0, ih1⟩ := treemergeref32_stable.mono_l k
 unfold treemergeref32_stable.f
 repeat' first
   | (with_reducible exact ih0 _ _ _ _ _)
   | (with_reducible exact ih1 _ _ _ _ _ _)
   | (with_reducible exact treemergeref19_Ints.mono _ _ _)
   | (with_reducible exact LeO.refl _)
   | (with_reducible exact LeO.none _)
   | (with_reducible refine LeO.ite ?_ ?_)
   | (with_reducible refine LeO.bind ?_ (fun _ => ?_))
set_option maxHeartbeats 8000000 in
set_option maxRecDepth 100000 in
theorem treemergeref32_stable.calls (k : Nat) (A0 : Option Addr) (c0 : Nat) (l0 : List Int) (A1 : Option Addr) (c1 : Nat) (l1 : List Int) (A2 : Option Addr) (c2 : Nat) (l2 : List Int) (r : List Int) (w : World) (hr0 : Kd.C (Kd.int .i64) w A0 l0.length l0) (hc0 : l0.length ≤ c0) (hr1 : Kd.C (Kd.int .i64) w A1 l1.length l1) (hc1 : l1.length ≤ c1) (hr2 : Kd.C (Kd.int .i64) w A2 l2.length l2) (hc2 : l2.length ≤ c2) (h : treemergeref32_stable.f k l0 l1 l2 = some r) :
  Calls Try.prog 44 #[.slice A0 l0.length c0, .slice A1 l1.length c1, .slice A2 l2.length c2] w fun e w' => ∃ v0_ : Value, e = .returned (v0_) ∧ Kd.R (Kd.int .i64) 3 w' w.heap.size (fun _ => True) v0_ r ∧ Below w.heap.size w w' := by
 have HR0 := Aside0.mk hr0
 have HC0 := Aside0.mk hc0
 clear hr0 hc0
 have HR1 := Aside0.mk hr1
 have HC1 := Aside0.mk hc1
 clear hr1 hc1
 have HR2 := Aside0.mk hr2
 have HC2 := Aside0.mk hc2
 clear hr2 hc2
 have HB := Aside0.mk (Below.refl w.heap.size w)
 have H : ((treemergeref19_Ints.f k l0 l1).bind fun t261 => ((treemergeref19_Ints.f k l0 l2).bind fun t264 => (treemergeref32_stable.l0 k l0 t261 t264 ([] : List Int) 0))) = some r := h
 clear h
 replace H := Option.bind_eq_some_iff.mp H
 obtain ⟨t261, A40, H⟩ := H
 have A4 := Aside0.mk A40
 clear A40
 replace H := Option.bind_eq_some_iff.mp H
 obtain ⟨t264, A50, H⟩ := H
 have A5 := Aside0.mk A50
 clear A50
 have H' := Aside0.mk H
 clear H
 go_enter Try.func44, Try.ntmps44
 go_wp2_with (first | (go_at_call 72; (with_reducible refine (treemergeref19_Ints.calls k _ _ l0 _ _ l1 t261 _ ?side1 ?side2 ?side3 ?side4 A4.out).mono ?_); (case side1 => exact CX HR0.out); (case side2 => exact HC0.out); (case side3 => exact CX HR1.out); (case side4 => exact HC1.out); rintro e w6 ⟨v262, rfl, ho0, hb⟩; have n0_ := Aside0.mk (Kd.R_lower ho0 (below_size (BX HB.out))); have n1_ := Aside0.mk (below_step (BX HB.out) hb); clear HB; have HO263 := n0_; have HB := n1_; clear n0_ n1_; (try clear hb); (try clear hb2); (try clear hk); (try clear hi); (try clear ho0)) | (go_at_call 72; (with_reducible refine (treemergeref19_Ints.calls k _ _ l0 _ _ l2 t264 _ ?side1 ?side2 ?side3 ?side4 A5.out).mono ?_); (case side1 => exact CX (Kd.C_below HR0.out HB.out)); (case side2 => exact HC0.out); (case side3 => exact CX (Kd.C_below HR2.out HB.out)); (case side4 => exact HC2.out); rintro e w7 ⟨v265, rfl, ho0, hb⟩; have n0_ := Aside0.mk (Kd.R_elder' (RX HO263.out) (Kd.R_base ho0) hb); have n1_ := Aside0.mk (Kd.R_lower (Kd.R_new' ho0 (Kd.R_lt (RX HO263.out))) (below_size (BX HB.out))); have n2_ := Aside0.mk (below_step (BX HB.out) hb); clear HO263; clear HB; have HO263 := n0_; have HO266 := n1_; have HB := n2_; clear n0_ n1_ n2_; (try clear hb); (try clear hb2); (try clear hk); (try clear hi); (try clear ho0)))
 repeat (go_quiet (first | (go_at_call 72; (with_reducible refine (treemergeref19_Ints.calls k _ _ l0 _ _ l1 t261 _ ?side1 ?side2 ?side3 ?side4 A4.out).mono ?_); (case side1 => exact CX HR0.out); (case side2 => exact HC0.out); (case side3 => exact CX HR1.out); (case side4 => exact HC1.out); rintro e w6 ⟨v262, rfl, ho0, hb⟩; have n0_ := Aside0.mk (Kd.R_lower ho0 (below_size (BX HB.out))); have n1_ := Aside0.mk (below_step (BX HB.out) hb); clear HB; have HO263 := n0_; have HB := n1_; clear n0_ n1_; (try clear hb); (try clear hb2); (try clear hk); (try clear hi); (try clear ho0)) | (go_at_call 72; (with_reducible refine (treemergeref19_Ints.calls k _ _ l0 _ _ l2 t264 _ ?side1 ?side2 ?side3 ?side4 A5.out).mono ?_); (case side1 => exact CX (Kd.C_below HR0.out HB.out)); (case side2 => exact HC0.out); (case side3 => exact CX (Kd.C_below HR2.out HB.out)); (case side4 => exact HC2.out); rintro e w7 ⟨v265, rfl, ho0, hb⟩; have n0_ := Aside0.mk (Kd.R_elder' (RX HO263.out) (Kd.R_base ho0) hb); have n1_ := Aside0.mk (Kd.R_lower (Kd.R_new' ho0 (Kd.R_lt (RX HO263.out))) (below_size (BX HB.out))); have n2_ := Aside0.mk (below_step (BX HB.out) hb); clear HO263; clear HB; have HO263 := n0_; have HO266 := n1_; have HB := n2_; clear n0_ n1_ n2_; (try clear hb); (try clear hb2); (try clear hk); (try clear hi); (try clear ho0))); try go_wp2_with (first | (go_at_call 72; (with_reducible refine (treemergeref19_Ints.calls k _ _ l0 _ _ l1 t261 _ ?side1 ?side2 ?side3 ?side4 A4.out).mono ?_); (case side1 => exact CX HR0.out); (case side2 => exact HC0.out); (case side3 => exact CX HR1.out); (case side4 => exact HC1.out); rintro e w6 ⟨v262, rfl, ho0, hb⟩; have n0_ := Aside0.mk (Kd.R_lower ho0 (below_size (BX HB.out))); have n1_ := Aside0.mk (below_step (BX HB.out) hb); clear HB; have HO263 := n0_; have HB := n1_; clear n0_ n1_; (try clear hb); (try clear hb2); (try clear hk); (try clear hi); (try clear ho0)) | (go_at_call 72; (with_reducible refine (treemergeref19_Ints.calls k _ _ l0 _ _ l2 t264 _ ?side1 ?side2 ?side3 ?side4 A5.out).mono ?_); (case side1 => exact CX (Kd.C_below HR0.out HB.out)); (case side2 => exact HC0.out); (case side3 => exact CX (Kd.C_below HR2.out HB.out)); (case side4 => exact HC2.out); rintro e w7 ⟨v265, rfl, ho0, hb⟩; have n0_ := Aside0.mk (Kd.R_elder' (RX HO263.out) (Kd.R_base ho0) hb); have n1_ := Aside0.mk (Kd.R_lower (Kd.R_new' ho0 (Kd.R_lt (RX HO263.out))) (below_size (BX HB.out))); have n2_ := Aside0.mk (below_step (BX HB.out) hb); clear HO263; clear HB; have HO263 := n0_; have HO266 := n1_; have HB := n2_; clear n0_ n1_ n2_; (try clear hb); (try clear hb2); (try clear hk); (try clear hi); (try clear ho0))))
 go_loopg [9, 10] k (fun kq v9 v10 w' => ∃ (x9_1 : List Int) (x10_1 : Int), v10 = .int .i64 x10_1 ∧ Aside0 (treemergeref32_stable.l0 kq l0 t261 t264 x9_1 x10_1 = some r) ∧ Aside0 (kq ≤ k) ∧ Aside0 (Kd.R k71 71 w' w.heap.size (fun k_ => some k_ ≠ (v265 : Value).ownBlock) v262 t261) ∧ Aside0 (Kd.R k71 71 w' w.heap.size (fun k_ => some k_ ≠ (v262 : Value).ownBlock) v265 t264) ∧ Aside0 (Kd.R (Kd.int .i64) 3 w' w.heap.size (fun _ => True) v9 x9_1) ∧ Aside0 (Below w.heap.size w w'))
 case atStart => exact ⟨(([] : List Int)), (0), SX, H', ⟨Nat.le_refl _⟩, ⟨by (with_reducible repeat (first | apply Kd.R_alloc | apply Kd.R_drewN | apply Kd.R_drew)); exact Kd.R_mono HO263.out (fun _ hk => hk.2)⟩, ⟨by (with_reducible repeat (first | apply Kd.R_alloc | apply Kd.R_drewN | apply Kd.R_drew)); exact Kd.R_mono HO266.out (fun _ hk => hk.2)⟩, ⟨NX⟩, ⟨BX HB.out⟩⟩
 case round =>
  clear H'
  try clear c1
  try clear c2
  try clear p2
  try clear c4
  obtain ⟨x9_1, x10_1, rfl, HA, HK1, HO_7, HO_8, HO_9, HB⟩ := hrel
  cases gk with
  | zero => exact absurd HA.out (by simp [treemergeref32_stable.l0])
  | succ k1 =>
   have H := HA.out
   clear HA
   simp only [treemergeref32_stable.l0] at H
   by_cases c8 : x10_1 < (t261.length : Int)
   ·rw [if_pos c8] at H
    have c8b0 : decide (x10_1 < (t261.length : Int)) = true := decide_eq_true c8
    clear c8
    have H' := Aside0.mk H
    clear H
    obtain ⟨Ao9, co9, eo9⟩ := Kd.R_slice HO_7.out
    subst eo9
    go_wp2
    repeat (go_quiet (fail); try go_wp2)
    go_loopg [9, 11] k1 (fun kq v9 v11 w' => ∃ (x9_2 : List Int) (x11_2 : Int), v11 = .int .i64 x11_2 ∧ Aside0 (treemergeref32_stable.l1 kq l0 t261 t264 x9_2 x10_1 x11_2 = some r) ∧ Aside0 (kq ≤ k1) ∧ Aside0 (Kd.R k71 71 w' w.heap.size (fun k_ => some k_ ≠ (v265 : Value).ownBlock) (.slice Ao9 t261.length co9) t261) ∧ Aside0 (Kd.R k71 71 w' w.heap.size (fun k_ => some k_ ≠ ((.slice Ao9 t261.length co9) : Value).ownBlock) v265 t264) ∧ Aside0 (Kd.R (Kd.int .i64) 3 w' w.heap.size (fun _ => True) v9 x9_2) ∧ Aside0 (Below w.heap.size w w'))
    case atStart => exact ⟨(x9_1), (0), SX, H', ⟨Nat.le_refl _⟩, ⟨RX HO_7.out⟩, ⟨RX HO_8.out⟩, ⟨RX HO_9.out⟩, ⟨BX HB.out⟩⟩
    case round =>
     clear H'
     try clear c1
     try clear c2
     try clear p2
     try clear c4
     try clear c8
     try clear c8b0
     try clear p2
     obtain ⟨x9_2, x11_2, rfl, HA, HK2, HO_7, HO_8, HO_9, HB⟩ := hrel
     cases gk with
     | zero => exact absurd HA.out (by simp [treemergeref32_stable.l1])
     | succ k2 =>
      have H := HA.out
      clear HA
      simp only [treemergeref32_stable.l1] at H
      by_cases c10 : x11_2 < (t264.length : Int)
      ·rw [if_pos c10] at H
       have c10b0 : decide (x11_2 < (t264.length : Int)) = true := decide_eq_true c10
       clear c10
       by_cases c11 : 0 ≤ x10_1
       ·rw [if_pos c11] at H
        have c11b0 : decide (0 ≤ x10_1) = true := decide_eq_true c11
        clear c11
        by_cases c12 : x10_1 < (t261.length : Int)
        ·rw [if_pos c12] at H
         have c12b0 : decide (x10_1 < (t261.length : Int)) = true := decide_eq_true c12
         clear c12
         by_cases c13 : 0 ≤ x11_2
         ·rw [if_pos c13] at H
          have c13b0 : decide (0 ≤ x11_2) = true := decide_eq_true c13
          clear c13
          by_cases c14 : ((rd_T71 t261 x10_1).f0) = ((rd_T71 t264 x11_2).f0)
          ·rw [if_pos c14] at H
           have c14b0 : (((rd_T71 t261 x10_1).f0) == ((rd_T71 t264 x11_2).f0)) = true := beq_iff_eq.mpr c14
           have c14b1 : (((rd_T71 t261 x10_1).f0) != ((rd_T71 t264 x11_2).f0)) = false := bne_eq_false_iff_eq.mpr c14
           clear c14
           by_cases c15 : 0 ≤ ((rd_T71 t261 x10_1).f0)
           ·rw [if_pos c15] at H
            have c15b0 : decide (0 ≤ ((rd_T71 t261 x10_1).f0)) = true := decide_eq_true c15
            clear c15
            by_cases c16 : ((rd_T71 t261 x10_1).f0) < (l0.length : Int)
            ·rw [if_pos c16] at H
             have c16b0 : decide (((rd_T71 t261 x10_1).f0) < (l0.length : Int)) = true := decide_eq_true c16
             clear c16
             by_cases c17 : x9_2.length < 17592186044416
             ·rw [if_pos c17] at H
              have LMc17 := Aside0.mk c17
              clear c17
              obtain ⟨y271, hy271⟩ : ∃ y_ : List Int, y_ = (x9_2 ++ [rd l0 ((rd_T71 t261 x10_1).f0)]) := ⟨_, rfl⟩
              replace H : (treemergeref32_stable.l1 k2 l0 t261 t264 y271 x10_1 (wrap64 (x11_2 + 1))) = some r := by first | (rw [hy271]; with_reducible exact H) | (have H2_ := (Option.bind_some _ _).symm.trans H; rw [hy271]; with_reducible exact H2_) | (have H2_ := (Option.bind_some _ _).symm.trans H; with_reducible exact H2_) | with_reducible exact H | (rw [hy271]; exact H) | exact H
              have Ny271 := Aside0.mk hy271
              clear hy271
              have H' := Aside0.mk H
              clear H
              obtain ⟨Ao18, co18, eo18⟩ := Kd.R_slice HO_8.out
              subst eo18
              have p267 : 0 ≤ (x10_1 : Int) := of_decide_eq_true AX
              have q267 : x10_1 < (t261.length : Int) := of_decide_eq_true AX
              obtain ⟨ad267, e267, hx267_0, hx267_1⟩ := at_T71 (Kd.R_reads' HO_7.out).2.2 x10_1 p267 q267
              cases e267
              replace p267 := eq_true p267
              replace q267 := eq_true q267
              have p268 : 0 ≤ (x11_2 : Int) := of_decide_eq_true AX
              have q268 : x11_2 < (t264.length : Int) := of_decide_eq_true AX
              obtain ⟨ad268, e268, hx268_0, hx268_1⟩ := at_T71 (Kd.R_reads' HO_8.out).2.2 x11_2 p268 q268
              cases e268
              replace p268 := eq_true p268
              replace q268 := eq_true q268
              have p269 : 0 ≤ (x10_1 : Int) := of_decide_eq_true AX
              have q269 : x10_1 < (t261.length : Int) := of_decide_eq_true AX
              obtain ⟨ad269, e269, hx269_0, hx269_1⟩ := at_T71 (Kd.R_reads' HO_7.out).2.2 x10_1 p269 q269
              obtain rfl : ad267 = ad269 := (by injection e269)
              replace p269 := eq_true p269
              replace q269 := eq_true q269
              have p270 : 0 ≤ (((rd_T71 t261 x10_1).f0) : Int) := of_decide_eq_true AX
              have q270 : ((rd_T71 t261 x10_1).f0) < (l0.length : Int) := of_decide_eq_true AX
              obtain ⟨ad270, e270, hx270_0⟩ := Kd.at_int HR0.out ((rd_T71 t261 x10_1).f0) p270 q270
              cases e270
              replace hx270_0 := (HB.out.cell (World.block_lt_of_cell? w _ hx270_0)).trans hx270_0
              replace p270 := eq_true p270
              replace q270 := eq_true q270
              go_wp2_with (first | ((with_reducible refine gate_builtin (b := .append) (xs := #[.tmp 41, .tmp 50]) rfl ?_); at_builtin; refine Kd.R_append (Kd.int .i64) (w0 := w) w.heap.size rfl (.tmp 41) (.tmp 50) 22 3 (.int .i64 0) 8 rfl Try.underlying22 info3 rfl (by decide) (by omega) u9 x9_2 (rd l0 ((rd_T71 t261 x10_1).f0)) [.int .i64 (rd l0 ((rd_T71 t261 x10_1).f0))] (fun _ => True) (fun _ => False) rfl rfl ?aP (fun _ hk => hk.elim) ?aF ?aO ?aB ?aS ?aL ?_; (case aP => exact rfl); (case aB => exact (BX HB.out)); (case aF => exact (fun _ _ => trivial)); (case aO => exact (RX HO_9.out)); (case aS => exact (below_size (BX HB.out))); (case aL => have := LMc17.out; omega); intro v272 w19 ho hb hg hat; rw [← Ny271.out] at ho; have n0_ := Aside0.mk (Kd.R_over' (RX HO_7.out) (Kd.R_typed (RX HO_9.out)) (by decide) hg); have n1_ := Aside0.mk (Kd.R_over' (RX HO_8.out) (Kd.R_typed (RX HO_9.out)) (by decide) hg); have n2_ := Aside0.mk (hb); have n3_ := Aside0.mk (ho); clear HO_7; clear HO_8; clear HB; clear HO_9; have HO_7 := n0_; have HO_8 := n1_; have HB := n2_; have HO273 := n3_; clear n0_ n1_ n2_ n3_; clear ho hb hg hat))
              repeat (go_quiet (first | ((with_reducible refine gate_builtin (b := .append) (xs := #[.tmp 41, .tmp 50]) rfl ?_); at_builtin; refine Kd.R_append (Kd.int .i64) (w0 := w) w.heap.size rfl (.tmp 41) (.tmp 50) 22 3 (.int .i64 0) 8 rfl Try.underlying22 info3 rfl (by decide) (by omega) u9 x9_2 (rd l0 ((rd_T71 t261 x10_1).f0)) [.int .i64 (rd l0 ((rd_T71 t261 x10_1).f0))] (fun _ => True) (fun _ => False) rfl rfl ?aP (fun _ hk => hk.elim) ?aF ?aO ?aB ?aS ?aL ?_; (case aP => exact rfl); (case aB => exact (BX HB.out)); (case aF => exact (fun _ _ => trivial)); (case aO => exact (RX HO_9.out)); (case aS => exact (below_size (BX HB.out))); (case aL => have := LMc17.out; omega); intro v272 w19 ho hb hg hat; rw [← Ny271.out] at ho; have n0_ := Aside0.mk (Kd.R_over' (RX HO_7.out) (Kd.R_typed (RX HO_9.out)) (by decide) hg); have n1_ := Aside0.mk (Kd.R_over' (RX HO_8.out) (Kd.R_typed (RX HO_9.out)) (by decide) hg); have n2_ := Aside0.mk (hb); have n3_ := Aside0.mk (ho); clear HO_7; clear HO_8; clear HB; clear HO_9; have HO_7 := n0_; have HO_8 := n1_; have HB := n2_; have HO273 := n3_; clear n0_ n1_ n2_ n3_; clear ho hb hg hat)); try go_wp2_with (first | ((with_reducible refine gate_builtin (b := .append) (xs := #[.tmp 41, .tmp 50]) rfl ?_); at_builtin; refine Kd.R_append (Kd.int .i64) (w0 := w) w.heap.size rfl (.tmp 41) (.tmp 50) 22 3 (.int .i64 0) 8 rfl Try.underlying22 info3 rfl (by decide) (by omega) u9 x9_2 (rd l0 ((rd_T71 t261 x10_1).f0)) [.int .i64 (rd l0 ((rd_T71 t261 x10_1).f0))] (fun _ => True) (fun _ => False) rfl rfl ?aP (fun _ hk => hk.elim) ?aF ?aO ?aB ?aS ?aL ?_; (case aP => exact rfl); (case aB => exact (BX HB.out)); (case aF => exact (fun _ _ => trivial)); (case aO => exact (RX HO_9.out)); (case aS => exact (below_size (BX HB.out))); (case aL => have := LMc17.out; omega); intro v272 w19 ho hb hg hat; rw [← Ny271.out] at ho; have n0_ := Aside0.mk (Kd.R_over' (RX HO_7.out) (Kd.R_typed (RX HO_9.out)) (by decide) hg); have n1_ := Aside0.mk (Kd.R_over' (RX HO_8.out) (Kd.R_typed (RX HO_9.out)) (by decide) hg); have n2_ := Aside0.mk (hb); have n3_ := Aside0.mk (ho); clear HO_7; clear HO_8; clear HB; clear HO_9; have HO_7 := n0_; have HO_8 := n1_; have HB := n2_; have HO273 := n3_; clear n0_ n1_ n2_ n3_; clear ho hb hg hat)))
              go_roundg k2
              case measure => have := HK1.out; have := HK2.out; omega
              case rel => exact ⟨(y271), (wrap64 (x11_2 + 1)), SX, H', ⟨by have := HK1.out; have := HK2.out; omega⟩, ⟨RX HO_7.out⟩, ⟨RX HO_8.out⟩, ⟨RX HO273.out⟩, ⟨BX HB.out⟩⟩
             ·rw [if_neg c17] at H
              exact absurd H (by simp)
            ·rw [if_neg c16] at H
             exact absurd H (by simp)
           ·rw [if_neg c15] at H
            exact absurd H (by simp)
          ·rw [if_neg c14] at H
           have c14b0 : (((rd_T71 t261 x10_1).f0) == ((rd_T71 t264 x11_2).f0)) = false := beq_eq_false_iff_ne.mpr c14
           have c14b1 : (((rd_T71 t261 x10_1).f0) != ((rd_T71 t264 x11_2).f0)) = true := bne_iff_ne.mpr c14
           have H' := Aside0.mk H
           clear H
           obtain ⟨Ao20, co20, eo20⟩ := Kd.R_slice HO_8.out
           subst eo20
           have p267 : 0 ≤ (x10_1 : Int) := of_decide_eq_true AX
           have q267 : x10_1 < (t261.length : Int) := of_decide_eq_true AX
           obtain ⟨ad267, e267, hx267_0, hx267_1⟩ := at_T71 (Kd.R_reads' HO_7.out).2.2 x10_1 p267 q267
           cases e267
           replace p267 := eq_true p267
           replace q267 := eq_true q267
           have p268 : 0 ≤ (x11_2 : Int) := of_decide_eq_true AX
           have q268 : x11_2 < (t264.length : Int) := of_decide_eq_true AX
           obtain ⟨ad268, e268, hx268_0, hx268_1⟩ := at_T71 (Kd.R_reads' HO_8.out).2.2 x11_2 p268 q268
           cases e268
           replace p268 := eq_true p268
           replace q268 := eq_true q268
           go_wp2
           repeat (go_quiet (fail); try go_wp2)
           go_roundg k2
           case measure => have := HK1.out; have := HK2.out; omega
           case rel => exact ⟨(x9_2), (wrap64 (x11_2 + 1)), SX, H', ⟨by have := HK1.out; have := HK2.out; omega⟩, ⟨RX HO_7.out⟩, ⟨RX HO_8.out⟩, ⟨RX HO_9.out⟩, ⟨BX HB.out⟩⟩
         ·rw [if_neg c13] at H
          exact absurd H (by simp)
        ·rw [if_neg c12] at H
         exact absurd H (by simp)
       ·rw [if_neg c11] at H
        exact absurd H (by simp)
      ·rw [if_neg c10] at H
       have c10b0 : decide (x11_2 < (t264.length : Int)) = false := decide_eq_false c10
       clear c10
       have H' := Aside0.mk H
       clear H
       obtain ⟨Ao21, co21, eo21⟩ := Kd.R_slice HO_8.out
       subst eo21
       go_wp2
       repeat (go_quiet (fail); try go_wp2)
       go_roundg k2
       case measure => have := HK1.out; have := HK2.out; omega
       case rel => exact ⟨(x9_2), (wrap64 (x10_1 + 1)), SX, H', ⟨by have := HK1.out; have := HK2.out; omega⟩, ⟨RX HO_7.out⟩, ⟨RX HO_8.out⟩, ⟨RX HO_9.out⟩, ⟨BX HB.out⟩⟩
   ·rw [if_neg c8] at H
    have c8b0 : decide (x10_1 < (t261.length : Int)) = false := decide_eq_false c8
    clear c8
    obtain rfl := Option.some.inj H
    obtain ⟨Ao22, co22, eo22⟩ := Kd.R_slice HO_7.out
    subst eo22
    go_wp2
    repeat (go_quiet (fail); try go_wp2)
    go_ret
    exact ⟨_, by first | rfl | (simp [errW_none, errW_some] <;> rfl) | (simp [*, errW_none, errW_some] <;> rfl), by (with_reducible repeat (first | apply Kd.R_alloc | apply Kd.R_drewN | apply Kd.R_drew)); exact HO_9.out, BX HB.out⟩

/-! ### treemergeref32_merged: function 45 -/
def treemergeref32_merged.f (k : Nat) (l0 : List Int) (l1 : List Int) (l2 : List Int) : Option (List Int × Bool) := (treemergeref32_Equal.f k l1 l0).bind fun t274 => (if t274 = true then (some (l2, true)) else ((treemergeref32_Equal.f k l2 l0).bind fun t275 => (if t275 = true then (some (l1, true)) else ((treemergeref32_Equal.f k l1 l2).bind fun t276 => (if t276 = true then (some (l1, true)) else (some (([] : List Int), false)))))))
theorem treemergeref32_merged.mono : ∀ a0 a1 a2 k, LeO (treemergeref32_merged.f k a0 a1 a2) (treemergeref32_merged.f (k + 1) a0 a1 a2) := by
 intro a0 a1 a2 k
 unfold treemergeref32_merged.f
 repeat' first
   | (with_reducible exact treemergeref32_Equal.mono _ _ _)
   | (with_reducible exact LeO.refl _)
   | (with_reducible exact LeO.none _)
   | (with_reducible refine LeO.ite ?_ ?_)
   | (with_reducible refine LeO.bind ?_ (fun _ => ?_))
set_option maxHeartbeats 8000000 in
set_option maxRecDepth 100000 in
theorem treemergeref32_merged.calls (k : Nat) (A0 : Option Addr) (c0 : Nat) (l0 : List Int) (P1_ : Nat → Prop) (u9000_ : Value) (l1 : List Int) (P2_ : Nat → Prop) (u9001_ : Value) (l2 : List Int) (r1 : List Int) (r2 : Bool) (w0 w : World) (hB : Below w0.heap.size w0 w) (hr0 : ∀ W_, Kept w W_ (fun k_ => P1_ k_ ∨ P2_ k_) → Kd.C (Kd.int .i64) W_ A0 l0.length l0) (hc0 : l0.length ≤ c0) (ho1 : Kd.R (Kd.int .i64) 3 w w0.heap.size P1_ u9000_ l1) (hp1_2 : ∀ k_, P1_ k_ → ¬ P2_ k_) (ho2 : Kd.R (Kd.int .i64) 3 w w0.heap.size P2_ u9001_ l2) (hp2_1 : ∀ k_, P2_ k_ → ¬ P1_ k_) (h : treemergeref32_merged.f k l0 l1 l2 = some (r1, r2)) :
  Calls Try.prog 45 #[.slice A0 l0.length c0, u9000_, u9001_] w fun e w' => ∃ v0_ : Value, e = .returned (.tuple #[v0_, .bool r2]) ∧ Kd.R (Kd.int .i64) 3 w' w0.heap.size (fun k_ => ((P1_ k_ ∨ P2_ k_) ∨ w.heap.size ≤ k_)) v0_ r1 ∧ Below w0.heap.size w0 w' ∧ Kept w w' (fun k_ => P1_ k_ ∨ P2_ k_) := by
 have HR0 := Aside0.mk hr0
 have HC0 := Aside0.mk hc0
 clear hr0 hc0
 have HO1 := Aside0.mk (show Kd.R (Kd.int .i64) 3 w w0.heap.size (fun k_ => ((P1_ k_ ∨ P2_ k_) ∨ w.heap.size ≤ k_) ∧ some k_ ≠ (u9001_ : Value).ownBlock) u9000_ l1 from Kd.R_mono ho1 (fun k_ hk => ⟨(.inl (.inl hk)), fun e_ => hp1_2 k_ hk (ho2.1 k_ e_.symm)⟩))
 have HO2 := Aside0.mk (show Kd.R (Kd.int .i64) 3 w w0.heap.size (fun k_ => ((P1_ k_ ∨ P2_ k_) ∨ w.heap.size ≤ k_) ∧ some k_ ≠ (u9000_ : Value).ownBlock) u9001_ l2 from Kd.R_mono ho2 (fun k_ hk => ⟨(.inl (.inr hk)), fun e_ => hp2_1 k_ hk (ho1.1 k_ e_.symm)⟩))
 have HK := Aside0.mk (Kept.refl w (fun k_ => P1_ k_ ∨ P2_ k_))
 have HW0 := Aside0.mk hB.size
 have HB := Aside0.mk hB
 clear hB
 have H : ((treemergeref32_Equal.f k l1 l0).bind fun t274 => (if t274 = true then (some (l2, true)) else ((treemergeref32_Equal.f k l2 l0).bind fun t275 => (if t275 = true then (some (l1, true)) else ((treemergeref32_Equal.f k l1 l2).bind fun t276 => (if t276 = true then (some (l1, true)) else (some (([] : List Int), false)))))))) = some (r1, r2) := h
 clear h
 replace H := Option.bind_eq_some_iff.mp H
 obtain ⟨t274, A40, H⟩ := H
 have A4 := Aside0.mk A40
 clear A40
 by_cases c5 : t274 = true
 ·subst c5
  have H1 : (some (l2, true)) = some (r1, r2) := by rw [if_pos rfl] at H; exact H
  clear H
  have H := H1
  clear H1
  simp only [Option.some.injEq, Prod.mk.injEq] at H
  obtain ⟨rfl, rfl⟩ := H
  obtain ⟨Ao6, co6, eo6⟩ := Kd.R_slice HO1.out
  subst eo6
  go_enter Try.func45, Try.ntmps45
  go_wp2_with (first | ((with_reducible refine gate_callee (f := 16) rfl ?_); refine goesL_ (some 10) rfl rfl Try.func16 (by kernel_rfl) rfl #[.slice Ao6 l1.length co6, .slice A0 l0.length c0] rfl MX ?_; (with_reducible refine (treemergeref32_Equal.calls k _ _ l1 _ _ l0 true _ ?side1 ?side2 ?side3 ?side4 A4.out).mono ?_); (case side1 => exact CX ((Kd.R_reads' HO1.out).2.2)); (case side2 => exact (Kd.R_reads' HO1.out).2.1); (case side3 => exact Kd.C_kept_now HR0.out (KX HK.out)); (case side4 => exact HC0.out); rintro e w' ⟨rfl, ⟨nd, rfl⟩⟩; refine ⟨_, rfl, ?_⟩))
  go_ret2
  exact ⟨_, by first | rfl | (simp [errW_none, errW_some] <;> rfl) | (simp [*, errW_none, errW_some] <;> rfl), by (with_reducible repeat (first | apply Kd.R_alloc | apply Kd.R_drewN | apply Kd.R_drew)); exact Kd.R_mono HO2.out (fun _ hk => hk.1), BX HB.out, KX HK.out⟩
 ·replace c5 := Bool.eq_false_iff.mpr c5
  subst c5
  have H1 : ((treemergeref32_Equal.f k l2 l0).bind fun t275 => (if t275 = true then (some (l1, true)) else ((treemergeref32_Equal.f k l1 l2).bind fun t276 => (if t276 = true then (some (l1, true)) else (some (([] : List Int), false)))))) = some (r1, r2) := by rw [if_neg (show ¬ (false = true) by decide)] at H; exact H
  clear H
  have H := H1
  clear H1
  replace H := Option.bind_eq_some_iff.mp H
  obtain ⟨t275, A70, H⟩ := H
  have A7 := Aside0.mk A70
  clear A70
  by_cases c8 : t275 = true
  ·subst c8
   have H1 : (some (l1, true)) = some (r1, r2) := by rw [if_pos rfl] at H; exact H
   clear H
   have H := H1
   clear H1
   simp only [Option.some.injEq, Prod.mk.injEq] at H
   obtain ⟨rfl, rfl⟩ := H
   obtain ⟨Ao9, co9, eo9⟩ := Kd.R_slice HO1.out
   subst eo9
   go_enter Try.func45, Try.ntmps45
   go_wp2_with (first | ((with_reducible refine gate_callee (f := 16) rfl ?_); refine goesL_ (some 10) rfl rfl Try.func16 (by kernel_rfl) rfl #[.slice Ao9 l1.length co9, .slice A0 l0.length c0] rfl MX ?_; (with_reducible refine (treemergeref32_Equal.calls k _ _ l1 _ _ l0 false _ ?side1 ?side2 ?side3 ?side4 A4.out).mono ?_); (case side1 => exact CX ((Kd.R_reads' HO1.out).2.2)); (case side2 => exact (Kd.R_reads' HO1.out).2.1); (case side3 => exact Kd.C_kept_now HR0.out (KX HK.out)); (case side4 => exact HC0.out); rintro e w' ⟨rfl, ⟨nd, rfl⟩⟩; refine ⟨_, rfl, ?_⟩; obtain ⟨Ao10, co10, eo10⟩ := Kd.R_slice HO2.out; subst eo10) | ((with_reducible refine gate_callee (f := 16) rfl ?_); refine goesL_ (some 14) rfl rfl Try.func16 (by kernel_rfl) rfl #[.slice Ao10 l2.length co10, .slice A0 l0.length c0] rfl MX ?_; (with_reducible refine (treemergeref32_Equal.calls k _ _ l2 _ _ l0 true _ ?side1 ?side2 ?side3 ?side4 A7.out).mono ?_); (case side1 => exact CX ((Kd.R_reads' HO2.out).2.2)); (case side2 => exact (Kd.R_reads' HO2.out).2.1); (case side3 => exact Kd.C_kept_now HR0.out (KX HK.out)); (case side4 => exact HC0.out); rintro e w' ⟨rfl, ⟨nd, rfl⟩⟩; refine ⟨_, rfl, ?_⟩))
   go_ret2
   exact ⟨_, by first | rfl | (simp [errW_none, errW_some] <;> rfl) | (simp [*, errW_none, errW_some] <;> rfl), by (with_reducible repeat (first | apply Kd.R_alloc | apply Kd.R_drewN | apply Kd.R_drew)); exact Kd.R_mono HO1.out (fun _ hk => hk.1), BX HB.out, KX HK.out⟩
  ·replace c8 := Bool.eq_false_iff.mpr c8
   subst c8
   have H1 : ((treemergeref32_Equal.f k l1 l2).bind fun t276 => (if t276 = true then (some (l1, true)) else (some (([] : List Int), false)))) = some (r1, r2) := by rw [if_neg (show ¬ (false = true) by decide)] at H; exact H
   clear H
   have H := H1
   clear H1
   replace H := Option.bind_eq_some_iff.mp H
   obtain ⟨t276, A110, H⟩ := H
   have A11 := Aside0.mk A110
   clear A110
   by_cases c12 : t276 = true
   ·subst c12
    have H1 : (some (l1, true)) = some (r1, r2) := by rw [if_pos rfl] at H; exact H
    clear H
    have H := H1
    clear H1
    simp only [Option.some.injEq, Prod.mk.injEq] at H
    obtain ⟨rfl, rfl⟩ := H
    obtain ⟨Ao13, co13, eo13⟩ := Kd.R_slice HO1.out
    subst eo13
    go_enter Try.func45, Try.ntmps45
    go_wp2_with (first | ((with_reducible refine gate_callee (f := 16) rfl ?_); refine goesL_ (some 10) rfl rfl Try.func16 (by kernel_rfl) rfl #[.slice Ao13 l1.length co13, .slice A0 l0.length c0] rfl MX ?_; (with_reducible refine (treemergeref32_Equal.calls k _ _ l1 _ _ l0 false _ ?side1 ?side2 ?side3 ?side4 A4.out).mono ?_); (case side1 => exact CX ((Kd.R_reads' HO1.out).2.2)); (case side2 => exact (Kd.R_reads' HO1.out).2.1); (case side3 => exact Kd.C_kept_now HR0.out (KX HK.out)); (case side4 => exact HC0.out); rintro e w' ⟨rfl, ⟨nd, rfl⟩⟩; refine ⟨_, rfl, ?_⟩; obtain ⟨Ao14, co14, eo14⟩ := Kd.R_slice HO2.out; subst eo14) | ((with_reducible refine gate_callee (f := 16) rfl ?_); refine goesL_ (some 14) rfl rfl Try.func16 (by kernel_rfl) rfl #[.slice Ao14 l2.length co14, .slice A0 l0.length c0] rfl MX ?_; (with_reducible refine (treemergeref32_Equal.calls k _ _ l2 _ _ l0 false _ ?side1 ?side2 ?side3 ?side4 A7.out).mono ?_); (case side1 => exact CX ((Kd.R_reads' HO2.out).2.2)); (case side2 => exact (Kd.R_reads' HO2.out).2.1); (case side3 => exact Kd.C_kept_now HR0.out (KX HK.out)); (case side4 => exact HC0.out); rintro e w' ⟨rfl, ⟨nd, rfl⟩⟩; refine ⟨_, rfl, ?_⟩) | (go_at_call 16; (with_reducible refine (treemergeref32_Equal.calls k _ _ l1 _ _ l2 true _ ?side1 ?side2 ?side3 ?side4 A11.out).mono ?_); (case side1 => exact CX ((Kd.R_reads' HO1.out).2.2)); (case side2 => exact (Kd.R_reads' HO1.out).2.1); (case side3 => exact CX ((Kd.R_reads' HO2.out).2.2)); (case side4 => exact (Kd.R_reads' HO2.out).2.1); rintro e w' ⟨rfl, ⟨nd, rfl⟩⟩))
    go_ret2
    exact ⟨_, by first | rfl | (simp [errW_none, errW_some] <;> rfl) | (simp [*, errW_none, errW_some] <;> rfl), by (with_reducible repeat (first | apply Kd.R_alloc | apply Kd.R_drewN | apply Kd.R_drew)); exact Kd.R_mono HO1.out (fun _ hk => hk.1), BX HB.out, KX HK.out⟩
   ·replace c12 := Bool.eq_false_iff.mpr c12
    subst c12
    have H1 : (some (([] : List Int), false)) = some (r1, r2) := by rw [if_neg (show ¬ (false = true) by decide)] at H; exact H
    clear H
    have H := H1
    clear H1
    simp only [Option.some.injEq, Prod.mk.injEq] at H
    obtain ⟨rfl, rfl⟩ := H
    obtain ⟨Ao15, co15, eo15⟩ := Kd.R_slice HO1.out
    subst eo15
    go_enter Try.func45, Try.ntmps45
    go_wp2_with (first | ((with_reducible refine gate_callee (f := 16) rfl ?_); refine goesL_ (some 10) rfl rfl Try.func16 (by kernel_rfl) rfl #[.slice Ao15 l1.length co15, .slice A0 l0.length c0] rfl MX ?_; (with_reducible refine (treemergeref32_Equal.calls k _ _ l1 _ _ l0 false _ ?side1 ?side2 ?side3 ?side4 A4.out).mono ?_); (case side1 => exact CX ((Kd.R_reads' HO1.out).2.2)); (case side2 => exact (Kd.R_reads' HO1.out).2.1); (case side3 => exact Kd.C_kept_now HR0.out (KX HK.out)); (case side4 => exact HC0.out); rintro e w' ⟨rfl, ⟨nd, rfl⟩⟩; refine ⟨_, rfl, ?_⟩; obtain ⟨Ao16, co16, eo16⟩ := Kd.R_slice HO2.out; subst eo16) | ((with_reducible refine gate_callee (f := 16) rfl ?_); refine goesL_ (some 14) rfl rfl Try.func16 (by kernel_rfl) rfl #[.slice Ao16 l2.length co16, .slice A0 l0.length c0] rfl MX ?_; (with_reducible refine (treemergeref32_Equal.calls k _ _ l2 _ _ l0 false _ ?side1 ?side2 ?side3 ?side4 A7.out).mono ?_); (case side1 => exact CX ((Kd.R_reads' HO2.out).2.2)); (case side2 => exact (Kd.R_reads' HO2.out).2.1); (case side3 => exact Kd.C_kept_now HR0.out (KX HK.out)); (case side4 => exact HC0.out); rintro e w' ⟨rfl, ⟨nd, rfl⟩⟩; refine ⟨_, rfl, ?_⟩) | (go_at_call 16; (with_reducible refine (treemergeref32_Equal.calls k _ _ l1 _ _ l2 false _ ?side1 ?side2 ?side3 ?side4 A11.out).mono ?_); (case side1 => exact CX ((Kd.R_reads' HO1.out).2.2)); (case side2 => exact (Kd.R_reads' HO1.out).2.1); (case side3 => exact CX ((Kd.R_reads' HO2.out).2.2)); (case side4 => exact (Kd.R_reads' HO2.out).2.1); rintro e w' ⟨rfl, ⟨nd, rfl⟩⟩))
    go_ret2
    exact ⟨_, by first | rfl | (simp [errW_none, errW_some] <;> rfl) | (simp [*, errW_none, errW_some] <;> rfl), NX, BX HB.out, KX HK.out⟩

end Go.Proofs.Ytdbgdkbpamekpaa.Q
