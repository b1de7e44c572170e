-- Written by a program of this session (mk.py) out of the translation; Lean checks it.
import Derived.Test.YtdbgdkbpamekpaaQ0
import Derived.Test.YtdbgdkbpamekpaaQ7
import Derived.Test.YtdbgdkbpamekpaaQ8
namespace Go.Proofs.Ytdbgdkbpamekpaa.Q
open Go.RowKit Go.Proofs.YtdbgdkbpamekpaaW.PrintWords Go.Proofs.YtdbgdkbpamekpaaW.PrintLast Go.Proofs.YtdbgdkbpamekpaaW.PrintMore
attribute [local go_sem] max2_int min2_int max_two min_two max_three min_three max_four min_four   -- for this text's walks alone
set_option linter.unusedVariables false
set_option linter.unusedSimpArgs false

/-! ### treemergeref32_joined: function 34 -/
def treemergeref32_joined.l0 : Nat → List Int → List Int → Int → Option (List Int)
 | 0, _, _, _ => none
 | k + 1, x0, x1, x5 => if x5 < (x1.length : Int) then (if 0 ≤ x5 then (if x0.length < 17592186044416 then (treemergeref32_joined.l0 k (x0 ++ [rd x1 x5]) x1 (wrap64 (x5 + 1))) else (none)) else (none)) else (some x0)
def treemergeref32_joined.f (k : Nat) (l0 : List Int) (l1 : List Int) : Option (List Int) := treemergeref32_joined.l0 k l0 l1 0
theorem treemergeref32_joined.mono_l : ∀ k, (∀ y0 y1 y2, LeO (treemergeref32_joined.l0 k y0 y1 y2) (treemergeref32_joined.l0 (k + 1) y0 y1 y2))
 | 0 => fun _ _ _ r h => by simp [treemergeref32_joined.l0] at h
 | k + 1 => by
  have ih0 := treemergeref32_joined.mono_l k
  ·intro y0 y1 y2
   unfold treemergeref32_joined.l0
   repeat' first
   | (with_reducible exact ih0 _ _ _)
   | (with_reducible exact LeO.refl _)
   | (with_reducible exact LeO.none _)
   | (with_reducible refine LeO.ite ?_ ?_)
   | (with_reducible refine LeO.bind ?_ (fun _ => ?_))
theorem treemergeref32_joined.mono : ∀ a0 a1 k, LeO (treemergeref32_joined.f k a0 a1) (treemergeref32_joined.f (k + 1) a0 a1) := by
 intro a0 a1 k
 have ih0 := treemergeref32_joined.mono_l k
 unfold treemergeref32_joined.f
 repeat' first
   | (with_reducible exact ih0 _ _ _)
   | (with_reducible exact LeO.refl _)
   | (with_reducible exact LeO.none _)
   | (with_reducible refine LeO.ite ?_ ?_)
   | (with_reducible refine LeO.bind ?_ (fun _ => ?_))
set_option maxHeartbeats 8000000 in
set_option maxRecDepth 100000 in
theorem treemergeref32_joined.calls (k : Nat) (P0_ : Nat → Prop) (u9000_ : Value) (l0 : List Int) (A1 : Option Addr) (c1 : Nat) (l1 : List Int) (r : List Int) (w0 w : World) (hB : Below w0.heap.size w0 w) (ho0 : Kd.R (Kd.int .i64) 3 w w0.heap.size P0_ u9000_ l0) (hr1 : ∀ W_, Kept w W_ (fun k_ => P0_ k_) → Kd.C (Kd.int .i64) W_ A1 l1.length l1) (hc1 : l1.length ≤ c1) (h : treemergeref32_joined.f k l0 l1 = some r) :
  Calls Try.prog 34 #[u9000_, .slice A1 l1.length c1] w fun e w' => ∃ v0_ : Value, e = .returned (v0_) ∧ Kd.R (Kd.int .i64) 3 w' w0.heap.size (fun k_ => (P0_ k_ ∨ w.heap.size ≤ k_)) v0_ r ∧ Below w0.heap.size w0 w' ∧ Kept w w' (fun k_ => P0_ k_) := by
 have HO0 := Aside0.mk (show Kd.R (Kd.int .i64) 3 w w0.heap.size (fun k_ => (P0_ k_ ∨ w.heap.size ≤ k_)) u9000_ l0 from Kd.R_mono ho0 (fun k_ hk => (.inl hk)))
 have HR1 := Aside0.mk hr1
 have HC1 := Aside0.mk hc1
 clear hr1 hc1
 have HK := Aside0.mk (Kept.refl w (fun k_ => P0_ k_))
 have HW0 := Aside0.mk hB.size
 have HB := Aside0.mk hB
 clear hB
 have H : (treemergeref32_joined.l0 k l0 l1 0) = some r := h
 clear h
 have H' := Aside0.mk H
 clear H
 go_enter Try.func34, Try.ntmps34
 go_wp2
 go_loopg [0, 5] k (fun kq v0 v5 w' => ∃ (x0_1 : List Int) (x5_1 : Int), v5 = .int .i64 x5_1 ∧ Aside0 (treemergeref32_joined.l0 kq x0_1 l1 x5_1 = some r) ∧ Aside0 (kq ≤ k) ∧ Aside0 (Kd.R (Kd.int .i64) 3 w' w0.heap.size (fun k_ => (P0_ k_ ∨ w.heap.size ≤ k_)) v0 x0_1) ∧ Aside0 (Kept w w' (fun k_ => P0_ k_)) ∧ Aside0 (Below w0.heap.size w0 w'))
 case atStart => exact ⟨(l0), (0), SX, H', ⟨Nat.le_refl _⟩, ⟨RX HO0.out⟩, ⟨KX HK.out⟩, ⟨BX HB.out⟩⟩
 case round =>
  clear H'
  try clear c1
  try clear p2
  obtain ⟨x0_1, x5_1, rfl, HA, HK1, HO_0, HK, HB⟩ := hrel
  cases gk with
  | zero => exact absurd HA.out (by simp [treemergeref32_joined.l0])
  | succ k1 =>
   have H := HA.out
   clear HA
   simp only [treemergeref32_joined.l0] at H
   by_cases c3 : x5_1 < (l1.length : Int)
   ·rw [if_pos c3] at H
    have c3b0 : decide (x5_1 < (l1.length : Int)) = true := decide_eq_true c3
    clear c3
    by_cases c4 : 0 ≤ x5_1
    ·rw [if_pos c4] at H
     have c4b0 : decide (0 ≤ x5_1) = true := decide_eq_true c4
     clear c4
     by_cases c5 : x0_1.length < 17592186044416
     ·rw [if_pos c5] at H
      have LMc5 := Aside0.mk c5
      clear c5
      obtain ⟨y221, hy221⟩ : ∃ y_ : List Int, y_ = (x0_1 ++ [rd l1 x5_1]) := ⟨_, rfl⟩
      replace H : (treemergeref32_joined.l0 k1 y221 l1 (wrap64 (x5_1 + 1))) = some r := by first | (rw [hy221]; with_reducible exact H) | (have H2_ := (Option.bind_some _ _).symm.trans H; rw [hy221]; with_reducible exact H2_) | (have H2_ := (Option.bind_some _ _).symm.trans H; with_reducible exact H2_) | with_reducible exact H | (rw [hy221]; exact H) | exact H
      have Ny221 := Aside0.mk hy221
      clear hy221
      have H' := Aside0.mk H
      clear H
      have p220 : 0 ≤ (x5_1 : Int) := of_decide_eq_true AX
      have q220 : x5_1 < (l1.length : Int) := of_decide_eq_true AX
      obtain ⟨ad220, e220, hx220_0⟩ := Kd.at_int (Kd.C_kept_now HR1.out HK.out) x5_1 p220 q220
      cases e220
      replace p220 := eq_true p220
      replace q220 := eq_true q220
      go_wp2_with (first | ((with_reducible refine gate_builtin (b := .append) (xs := #[.tmp 12, .tmp 17]) rfl ?_); at_builtin; refine Kd.R_append (Kd.int .i64) (w0 := w0) w0.heap.size rfl (.tmp 12) (.tmp 17) 22 3 (.int .i64 0) 8 rfl Try.underlying22 info3 rfl (by decide) (by omega) u0 x0_1 (rd l1 x5_1) [.int .i64 (rd l1 x5_1)] (fun k_ => (P0_ k_ ∨ w.heap.size ≤ k_)) (fun _ => False) rfl rfl ?aP (fun _ hk => hk.elim) ?aF ?aO ?aB ?aS ?aL ?_; (case aP => exact rfl); (case aB => exact (BX HB.out)); (case aF => exact (fun k_ hk => (.inr (Nat.le_trans (by first | exact HK.out.1 | exact (show Kept w _ (fun k_ => P0_ k_) from KX HK.out).1) hk)))); (case aO => exact (RX HO_0.out)); (case aS => exact (below_size (BX HB.out))); (case aL => have := LMc5.out; omega); intro v222 w6 ho hb hg hat; rw [← Ny221.out] at ho; have n0_ := Aside0.mk (hb); have n1_ := Aside0.mk (Kept.of_grown (S := (fun k_ => P0_ k_)) hg (KX HK.out) (fun k_ e_ => (HO_0.out.1 k_ e_))); have n2_ := Aside0.mk (ho); clear HB; clear HK; clear HO_0; have HB := n0_; have HK := n1_; have HO223 := n2_; clear n0_ n1_ n2_; clear ho hb hg hat))
      go_roundg k1
      case measure => have := HK1.out; omega
      case rel => exact ⟨(y221), (wrap64 (x5_1 + 1)), SX, H', ⟨by have := HK1.out; omega⟩, ⟨RX HO223.out⟩, ⟨KX HK.out⟩, ⟨BX HB.out⟩⟩
     ·rw [if_neg c5] at H
      exact absurd H (by simp)
    ·rw [if_neg c4] at H
     exact absurd H (by simp)
   ·rw [if_neg c3] at H
    have c3b0 : decide (x5_1 < (l1.length : Int)) = false := decide_eq_false c3
    clear c3
    obtain rfl := Option.some.inj H
    go_wp2
    go_ret
    exact ⟨_, by first | rfl | (simp [errW_none, errW_some] <;> rfl) | (simp [*, errW_none, errW_some] <;> rfl), by (with_reducible repeat (first | apply Kd.R_alloc | apply Kd.R_drewN | apply Kd.R_drew)); exact HO_0.out, BX HB.out, KX HK.out⟩

/-! ### treemergeref32_only: function 43 -/
def treemergeref32_only.l0 : Nat → List Int → List Int → List Int → Int → Option (List Int)
 | 0, _, _, _, _ => none
 | k + 1, x1, x5, x6, x7 => if x7 < (x5.length : Int) then (if 0 ≤ x7 then ((treemergeref32_Has.f k x1 (rd x5 x7)).bind fun t228 => (if t228 = true then (if x6.length < 17592186044416 then (treemergeref32_only.l0 k x1 x5 (x6 ++ [rd x5 x7]) (wrap64 (x7 + 1))) else (none)) else (treemergeref32_only.l0 k x1 x5 x6 (wrap64 (x7 + 1))))) else (none)) else (some x6)
def treemergeref32_only.f (k : Nat) (l0 : List Int) (l1 : List Int) : Option (List Int) := (treemergeref32_Once.f k l0).bind fun t224 => (treemergeref32_only.l0 k l1 t224 ([] : List Int) 0)
theorem treemergeref32_only.mono_l : ∀ k, (∀ y0 y1 y2 y3, LeO (treemergeref32_only.l0 k y0 y1 y2 y3) (treemergeref32_only.l0 (k + 1) y0 y1 y2 y3))
 | 0 => fun _ _ _ _ r h => by simp [treemergeref32_only.l0] at h
 | k + 1 => by
  have ih0 := treemergeref32_only.mono_l k
  ·intro y0 y1 y2 y3
   unfold treemergeref32_only.l0
   repeat' first
   | (with_reducible exact ih0 _ _ _ _)
   | (with_reducible exact treemergeref32_Has.mono _ _ _)
   | (with_reducible exact treemergeref32_Once.mono _ _)
   | (with_reducible exact LeO.refl _)
   | (with_reducible exact LeO.none _)
   | (with_reducible refine LeO.ite ?_ ?_)
   | (with_reducible refine LeO.bind ?_ (fun _ => ?_))
theorem treemergeref32_only.mono : ∀ a0 a1 k, LeO (treemergeref32_only.f k a0 a1) (treemergeref32_only.f (k + 1) a0 a1) := by
 intro a0 a1 k
 have ih0 := treemergeref32_only.mono_l k
 unfold treemergeref32_only.f
 repeat' first
   | (with_reducible exact ih0 _ _ _ _)
   | (with_reducible exact treemergeref32_Has.mono _ _ _)
   | (with_reducible exact treemergeref32_Once.mono _ _)
   | (with_reducible exact LeO.refl _)
   | (with_reducible exact LeO.none _)
   | (with_reducible refine LeO.ite ?_ ?_)
   | (with_reducible refine LeO.bind ?_ (fun _ => ?_))
set_option maxHeartbeats 8000000 in
set_option maxRecDepth 100000 in
theorem treemergeref32_only.calls (k : Nat) (A0 : Option Addr) (c0 : Nat) (l0 : List Int) (A1 : Option Addr) (c1 : Nat) (l1 : List Int) (r : List Int) (w : World) (hr0 : Kd.C (Kd.int .i64) w A0 l0.length l0) (hc0 : l0.length ≤ c0) (hr1 : Kd.C (Kd.int .i64) w A1 l1.length l1) (hc1 : l1.length ≤ c1) (h : treemergeref32_only.f k l0 l1 = some r) :
  Calls Try.prog 43 #[.slice A0 l0.length c0, .slice A1 l1.length c1] w fun e w' => ∃ v0_ : Value, e = .returned (v0_) ∧ Kd.R (Kd.int .i64) 3 w' w.heap.size (fun _ => True) v0_ r ∧ Below w.heap.size w w' := by
 have HR0 := Aside0.mk hr0
 have HC0 := Aside0.mk hc0
 clear hr0 hc0
 have HR1 := Aside0.mk hr1
 have HC1 := Aside0.mk hc1
 clear hr1 hc1
 have HB := Aside0.mk (Below.refl w.heap.size w)
 have H : ((treemergeref32_Once.f k l0).bind fun t224 => (treemergeref32_only.l0 k l1 t224 ([] : List Int) 0)) = some r := h
 clear h
 replace H := Option.bind_eq_some_iff.mp H
 obtain ⟨t224, A30, H⟩ := H
 have A3 := Aside0.mk A30
 clear A30
 have H' := Aside0.mk H
 clear H
 go_enter Try.func43, Try.ntmps43
 go_wp2_with (first | ((with_reducible refine gate_callee (f := 22) rfl ?_); refine goesL_ (some 9) rfl rfl Try.func22 (by kernel_rfl) rfl #[.slice A0 l0.length c0] rfl MX ?_; (with_reducible refine (treemergeref32_Once.calls k _ _ l0 t224 _ ?side1 ?side2 A3.out).mono ?_); (case side1 => exact CX HR0.out); (case side2 => exact HC0.out); rintro e w4 ⟨v225, rfl, ho0, hb⟩; refine ⟨_, rfl, ?_⟩; have n0_ := Aside0.mk (Kd.R_lower ho0 (below_size (BX HB.out))); have n1_ := Aside0.mk (below_step (BX HB.out) hb); clear HB; have HO226 := n0_; have HB := n1_; clear n0_ n1_; (try clear hb); (try clear hb2); (try clear hk); (try clear hi); (try clear ho0)))
 go_loopg [6, 7] k (fun kq v6 v7 w' => ∃ (x6_1 : List Int) (x7_1 : Int), v7 = .int .i64 x7_1 ∧ Aside0 (treemergeref32_only.l0 kq l1 t224 x6_1 x7_1 = some r) ∧ Aside0 (kq ≤ k) ∧ Aside0 (Kd.R (Kd.int .i64) 3 w' w.heap.size (fun k_ => some k_ ≠ (v6 : Value).ownBlock) v225 t224) ∧ Aside0 (Kd.R (Kd.int .i64) 3 w' w.heap.size (fun k_ => some k_ ≠ (v225 : Value).ownBlock) v6 x6_1) ∧ Aside0 (Below w.heap.size w w'))
 case atStart => exact ⟨(([] : List Int)), (0), SX, H', ⟨Nat.le_refl _⟩, ⟨by (with_reducible repeat (first | apply Kd.R_alloc | apply Kd.R_drewN | apply Kd.R_drew)); exact Kd.R_mono HO226.out (fun _ hk => (by simp [Value.ownBlock]))⟩, ⟨NX⟩, ⟨BX HB.out⟩⟩
 case round =>
  clear H'
  try clear c1
  try clear c2
  try clear p2
  try clear c4
  obtain ⟨x6_1, x7_1, rfl, HA, HK1, HO_5, HO_6, HB⟩ := hrel
  cases gk with
  | zero => exact absurd HA.out (by simp [treemergeref32_only.l0])
  | succ k1 =>
   have H := HA.out
   clear HA
   simp only [treemergeref32_only.l0] at H
   by_cases c5 : x7_1 < (t224.length : Int)
   ·rw [if_pos c5] at H
    have c5b0 : decide (x7_1 < (t224.length : Int)) = true := decide_eq_true c5
    clear c5
    by_cases c6 : 0 ≤ x7_1
    ·rw [if_pos c6] at H
     have c6b0 : decide (0 ≤ x7_1) = true := decide_eq_true c6
     clear c6
     replace H := Option.bind_eq_some_iff.mp H
     obtain ⟨t228, A70, H⟩ := H
     have A7 := Aside0.mk A70
     clear A70
     by_cases c8 : t228 = true
     ·subst c8
      have H1 : (if x6_1.length < 17592186044416 then (treemergeref32_only.l0 k1 l1 t224 (x6_1 ++ [rd t224 x7_1]) (wrap64 (x7_1 + 1))) else (none)) = some r := by rw [if_pos rfl] at H; exact H
      clear H
      have H := H1
      clear H1
      by_cases c9 : x6_1.length < 17592186044416
      ·rw [if_pos c9] at H
       have LMc9 := Aside0.mk c9
       clear c9
       obtain ⟨y230, hy230⟩ : ∃ y_ : List Int, y_ = (x6_1 ++ [rd t224 x7_1]) := ⟨_, rfl⟩
       replace H : (treemergeref32_only.l0 k1 l1 t224 y230 (wrap64 (x7_1 + 1))) = some r := by first | (rw [hy230]; with_reducible exact H) | (have H2_ := (Option.bind_some _ _).symm.trans H; rw [hy230]; with_reducible exact H2_) | (have H2_ := (Option.bind_some _ _).symm.trans H; with_reducible exact H2_) | with_reducible exact H | (rw [hy230]; exact H) | exact H
       have Ny230 := Aside0.mk hy230
       clear hy230
       have H' := Aside0.mk H
       clear H
       obtain ⟨Ao10, co10, eo10⟩ := Kd.R_slice HO_5.out
       subst eo10
       have p227 : 0 ≤ (x7_1 : Int) := of_decide_eq_true AX
       have q227 : x7_1 < (t224.length : Int) := of_decide_eq_true AX
       obtain ⟨ad227, e227, hx227_0⟩ := Kd.at_int (Kd.R_reads' HO_5.out).2.2 x7_1 p227 q227
       cases e227
       replace p227 := eq_true p227
       replace q227 := eq_true q227
       go_wp2_with (first | ((with_reducible refine gate_callee (f := 17) rfl ?_); refine goesL_ (some 21) rfl rfl Try.func17 (by kernel_rfl) rfl #[.slice A1 l1.length c1, .int .i64 (rd t224 x7_1)] rfl MX ?_; (with_reducible refine (treemergeref32_Has.calls k1 _ _ l1 (rd t224 x7_1) true _ ?side1 ?side2 A7.out).mono ?_); (case side1 => exact CX (Kd.C_below HR1.out HB.out)); (case side2 => exact HC1.out); rintro e w' ⟨rfl, ⟨nd, rfl⟩⟩; refine ⟨_, rfl, ?_⟩; have p229 : 0 ≤ (x7_1 : Int) := of_decide_eq_true AX; have q229 : x7_1 < (t224.length : Int) := of_decide_eq_true AX; obtain ⟨ad229, e229, hx229_0⟩ := Kd.at_int (Kd.R_reads' HO_5.out).2.2 x7_1 p229 q229; obtain rfl : ad227 = ad229 := (by injection e229); replace p229 := eq_true p229; replace q229 := eq_true q229) | ((with_reducible refine gate_builtin (b := .append) (xs := #[.tmp 22, .tmp 27]) rfl ?_); at_builtin; refine Kd.R_append (Kd.int .i64) (w0 := w) w.heap.size rfl (.tmp 22) (.tmp 27) 22 3 (.int .i64 0) 8 rfl Try.underlying22 info3 rfl (by decide) (by omega) u6 x6_1 (rd t224 x7_1) [.int .i64 (rd t224 x7_1)] (fun k_ => some k_ ≠ (.slice (some ad227) t224.length co10 : Value).ownBlock) (fun _ => False) rfl rfl ?aP (fun _ hk => hk.elim) ?aF ?aO ?aB ?aS ?aL ?_; (case aP => exact rfl); (case aB => exact (BX HB.out)); (case aF => exact (fun k_ hk => Kd.fresh' (Kd.R_lt (RX HO_5.out)) k_ hk)); (case aO => exact (RX HO_6.out)); (case aS => exact (below_size (BX HB.out))); (case aL => have := LMc9.out; omega); intro v231 w11 ho hb hg hat; rw [← Ny230.out] at ho; have n0_ := Aside0.mk (Kd.R_after (ok := (fun _ => True)) (by (with_reducible repeat (first | apply Kd.R_alloc | apply Kd.R_drewN | apply Kd.R_drew)); exact Kd.R_mono HO_5.out (fun _ hk => ⟨trivial, hk⟩)) hg hat); have n1_ := Aside0.mk (hb); have n2_ := Aside0.mk (ho); clear HO_5; clear HB; clear HO_6; have HO_5 := n0_; have HB := n1_; have HO232 := n2_; clear n0_ n1_ n2_; clear ho hb hg hat))
       go_roundg k1
       case measure => have := HK1.out; omega
       case rel => exact ⟨(y230), (wrap64 (x7_1 + 1)), SX, H', ⟨by have := HK1.out; omega⟩, ⟨by (with_reducible repeat (first | apply Kd.R_alloc | apply Kd.R_drewN | apply Kd.R_drew)); exact Kd.R_mono HO_5.out (fun _ hk => hk.2)⟩, ⟨RX HO232.out⟩, ⟨BX HB.out⟩⟩
      ·rw [if_neg c9] at H
       exact absurd H (by simp)
     ·replace c8 := Bool.eq_false_iff.mpr c8
      subst c8
      have H1 : (treemergeref32_only.l0 k1 l1 t224 x6_1 (wrap64 (x7_1 + 1))) = some r := by rw [if_neg (show ¬ (false = true) by decide)] at H; exact H
      clear H
      have H := H1
      clear H1
      have H' := Aside0.mk H
      clear H
      obtain ⟨Ao12, co12, eo12⟩ := Kd.R_slice HO_5.out
      subst eo12
      have p227 : 0 ≤ (x7_1 : Int) := of_decide_eq_true AX
      have q227 : x7_1 < (t224.length : Int) := of_decide_eq_true AX
      obtain ⟨ad227, e227, hx227_0⟩ := Kd.at_int (Kd.R_reads' HO_5.out).2.2 x7_1 p227 q227
      cases e227
      replace p227 := eq_true p227
      replace q227 := eq_true q227
      go_wp2_with (first | ((with_reducible refine gate_callee (f := 17) rfl ?_); refine goesL_ (some 21) rfl rfl Try.func17 (by kernel_rfl) rfl #[.slice A1 l1.length c1, .int .i64 (rd t224 x7_1)] rfl MX ?_; (with_reducible refine (treemergeref32_Has.calls k1 _ _ l1 (rd t224 x7_1) false _ ?side1 ?side2 A7.out).mono ?_); (case side1 => exact CX (Kd.C_below HR1.out HB.out)); (case side2 => exact HC1.out); rintro e w' ⟨rfl, ⟨nd, rfl⟩⟩; refine ⟨_, rfl, ?_⟩))
      go_roundg k1
      case measure => have := HK1.out; omega
      case rel => exact ⟨(x6_1), (wrap64 (x7_1 + 1)), SX, H', ⟨by have := HK1.out; omega⟩, ⟨RX HO_5.out⟩, ⟨RX HO_6.out⟩, ⟨BX HB.out⟩⟩
    ·rw [if_neg c6] at H
     exact absurd H (by simp)
   ·rw [if_neg c5] at H
    have c5b0 : decide (x7_1 < (t224.length : Int)) = false := decide_eq_false c5
    clear c5
    obtain rfl := Option.some.inj H
    obtain ⟨Ao13, co13, eo13⟩ := Kd.R_slice HO_5.out
    subst eo13
    go_wp2
    go_ret
    exact ⟨_, by first | rfl | (simp [errW_none, errW_some] <;> rfl) | (simp [*, errW_none, errW_some] <;> rfl), by (with_reducible repeat (first | apply Kd.R_alloc | apply Kd.R_drewN | apply Kd.R_drew)); exact Kd.R_mono HO_6.out (fun _ hk => trivial), BX HB.out⟩

/-! ### treemergeref19_table: function 99 -/
mutual
def treemergeref19_table.l0 : Nat → List Bool → Int → List Int → Int → Option (List Int)
 | 0, _, _, _, _ => none
 | k + 1, x0, x2, x7, x8 => if x8 ≥ 0 then (treemergeref19_table.l1 k x0 x2 x7 x8 (wrap64 (x2 - 1))) else (some x7)
def treemergeref19_table.l1 : Nat → List Bool → Int → List Int → Int → Int → Option (List Int)
 | 0, _, _, _, _, _ => none
 | k + 1, x0, x2, x7, x8, x9 => if x9 ≥ 0 then (if 0 ≤ (wrap64 ((wrap64 ((wrap64 (x8 + 1)) * (wrap64 (x2 + 1)))) + x9)) then (if (wrap64 ((wrap64 ((wrap64 (x8 + 1)) * (wrap64 (x2 + 1)))) + x9)) < (x7.length : Int) then (if 0 ≤ (wrap64 ((wrap64 ((wrap64 (x8 * (wrap64 (x2 + 1)))) + x9)) + 1)) then (if (wrap64 ((wrap64 ((wrap64 (x8 * (wrap64 (x2 + 1)))) + x9)) + 1)) < (x7.length : Int) then (if 0 ≤ (wrap64 ((wrap64 (x8 * x2)) + x9)) then (if (wrap64 ((wrap64 (x8 * x2)) + x9)) < (x0.length : Int) then (if rdOf false x0 (wrap64 ((wrap64 (x8 * x2)) + x9)) = true then (if 0 ≤ (wrap64 ((wrap64 ((wrap64 ((wrap64 (x8 + 1)) * (wrap64 (x2 + 1)))) + x9)) + 1)) then (if (wrap64 ((wrap64 ((wrap64 ((wrap64 (x8 + 1)) * (wrap64 (x2 + 1)))) + x9)) + 1)) < (x7.length : Int) then (if 0 ≤ (wrap64 ((wrap64 (x8 * (wrap64 (x2 + 1)))) + x9)) then (if (wrap64 ((wrap64 (x8 * (wrap64 (x2 + 1)))) + x9)) < (x7.length : Int) then (treemergeref19_table.l1 k x0 x2 (x7.set ((wrap64 ((wrap64 (x8 * (wrap64 (x2 + 1)))) + x9)) : Int).toNat (mx (mx (rd x7 (wrap64 ((wrap64 ((wrap64 (x8 + 1)) * (wrap64 (x2 + 1)))) + x9))) (rd x7 (wrap64 ((wrap64 ((wrap64 (x8 * (wrap64 (x2 + 1)))) + x9)) + 1)))) (wrap64 ((rd x7 (wrap64 ((wrap64 ((wrap64 ((wrap64 (x8 + 1)) * (wrap64 (x2 + 1)))) + x9)) + 1))) + 1)))) x8 (wrap64 (x9 - 1))) else (none)) else (none)) else (none)) else (none)) else (if 0 ≤ (wrap64 ((wrap64 (x8 * (wrap64 (x2 + 1)))) + x9)) then (if (wrap64 ((wrap64 (x8 * (wrap64 (x2 + 1)))) + x9)) < (x7.length : Int) then (treemergeref19_table.l1 k x0 x2 (x7.set ((wrap64 ((wrap64 (x8 * (wrap64 (x2 + 1)))) + x9)) : Int).toNat (mx (rd x7 (wrap64 ((wrap64 ((wrap64 (x8 + 1)) * (wrap64 (x2 + 1)))) + x9))) (rd x7 (wrap64 ((wrap64 ((wrap64 (x8 * (wrap64 (x2 + 1)))) + x9)) + 1))))) x8 (wrap64 (x9 - 1))) else (none)) else (none))) else (none)) else (none)) else (none)) else (none)) else (none)) else (none)) else (treemergeref19_table.l0 k x0 x2 x7 (wrap64 (x8 - 1)))
end
def treemergeref19_table.f (k : Nat) (l0 : List Bool) (a1 : Int) (a2 : Int) : Option (List Int) := if 0 ≤ (wrap64 ((wrap64 (a1 + 1)) * (wrap64 (a2 + 1)))) then (if (wrap64 ((wrap64 (a1 + 1)) * (wrap64 (a2 + 1))) : Int).toNat ≤ 35184372088832 then (treemergeref19_table.l0 k l0 a2 (List.replicate (wrap64 ((wrap64 (a1 + 1)) * (wrap64 (a2 + 1))) : Int).toNat 0) (wrap64 (a1 - 1))) else (none)) else (none)
theorem treemergeref19_table.mono_l : ∀ k, (∀ y0 y1 y2 y3, LeO (treemergeref19_table.l0 k y0 y1 y2 y3) (treemergeref19_table.l0 (k + 1) y0 y1 y2 y3)) ∧ (∀ y0 y1 y2 y3 y4, LeO (treemergeref19_table.l1 k y0 y1 y2 y3 y4) (treemergeref19_table.l1 (k + 1) y0 y1 y2 y3 y4))
 | 0 => ⟨fun _ _ _ _ r h => by simp [treemergeref19_table.l0] at h, fun _ _ _ _ _ r h => by simp [treemergeref19_table.l1] at h⟩
 | k + 1 => by
  obtain ⟨ih0, ih1⟩ := treemergeref19_table.mono_l k
  refine ⟨?_, ?_⟩
  ·intro y0 y1 y2 y3
   unfold treemergeref19_table.l0
   repeat' first
   | (with_reducible exact ih0 _ _ _ _)
   | (with_reducible exact ih1 _ _ _ _ _)
   | (with_reducible exact LeO.refl _)
   | (with_reducible exact LeO.none _)
   | (with_reducible refine LeO.ite ?_ ?_)
   | (with_reducible refine LeO.bind ?_ (fun _ => ?_))
  ·intro y0 y1 y2 y3 y4
   unfold treemergeref19_table.l1
   repeat' first
   | (with_reducible exact ih0 _ _ _ _)
   | (with_reducible exact ih1 _ _ _ _ _)
   | (with_reducible exact LeO.refl _)
   | (with_reducible exact LeO.none _)
   | (with_reducible refine LeO.ite ?_ ?_)
   | (with_reducible refine LeO.bind ?_ (fun _ => ?_))
theorem treemergeref19_table.mono : ∀ a0 a1 a2 k, LeO (treemergeref19_table.f k a0 a1 a2) (treemergeref19_table.f (k + 1) a0 a1 a2) := by
 intro a0 a1 a2 k
 obtain ⟨ih0, ih1⟩ := treemergeref19_table.mono_l k
 unfold treemergeref19_table.f
 repeat' first
   | (with_reducible exact ih0 _ _ _ _)
   | (with_reducible exact ih1 _ _ _ _ _)
   | (with_reducible exact LeO.refl _)
   | (with_reducible exact LeO.none _)
   | (with_reducible refine LeO.ite ?_ ?_)
   | (with_reducible refine LeO.bind ?_ (fun _ => ?_))
set_option maxHeartbeats 8000000 in
set_option maxRecDepth 100000 in
theorem treemergeref19_table.calls (k : Nat) (A0 : Option Addr) (c0 : Nat) (l0 : List Bool) (a1 : Int) (a2 : Int) (r : List Int) (w : World) (hr0 : Kd.C Kd.bool w A0 l0.length l0) (hc0 : l0.length ≤ c0) (h : treemergeref19_table.f k l0 a1 a2 = some r) :
  Calls Try.prog 99 #[.slice A0 l0.length c0, .int .i64 a1, .int .i64 a2] w fun e w' => ∃ v0_ : Value, e = .returned (v0_) ∧ Kd.R (Kd.int .i64) 3 w' w.heap.size (fun _ => True) v0_ r ∧ Below w.heap.size w w' := by
 have HR0 := Aside0.mk hr0
 have HC0 := Aside0.mk hc0
 clear hr0 hc0
 have HB := Aside0.mk (Below.refl w.heap.size w)
 have H : (if 0 ≤ (wrap64 ((wrap64 (a1 + 1)) * (wrap64 (a2 + 1)))) then (if (wrap64 ((wrap64 (a1 + 1)) * (wrap64 (a2 + 1))) : Int).toNat ≤ 35184372088832 then (treemergeref19_table.l0 k l0 a2 (List.replicate (wrap64 ((wrap64 (a1 + 1)) * (wrap64 (a2 + 1))) : Int).toNat 0) (wrap64 (a1 - 1))) else (none)) else (none)) = some r := h
 clear h
 obtain ⟨ji4, hji4⟩ : ∃ j_ : Int, (wrap64 ((wrap64 (a1 + 1)) * (wrap64 (a2 + 1)))) = j_ := ⟨_, rfl⟩
 replace H : (if 0 ≤ (ji4) then (if (ji4 : Int).toNat ≤ 35184372088832 then (treemergeref19_table.l0 k l0 a2 (List.replicate (ji4 : Int).toNat 0) (wrap64 (a1 - 1))) else (none)) else (none)) = some r := by first | (rw [hji4] at H; exact H) | (simp only [hji4] at H ⊢; exact H)
 have hji4w : (IntKind.i64.wrap ((wrap64 (a1 + 1)) * (wrap64 (a2 + 1)))) = ji4 := (i64_w _).trans hji4
 by_cases c5 : 0 ≤ (ji4)
 ·rw [if_pos c5] at H
  have c5b0 := eq_true c5
  have c5b1 : decide (0 ≤ (ji4)) = true := decide_eq_true c5
  clear c5
  by_cases c6 : (ji4 : Int).toNat ≤ 35184372088832
  ·rw [if_pos c6] at H
   have c6b0 := eq_true c6
   have c6b1 : decide ((ji4 : Int).toNat ≤ 35184372088832) = true := decide_eq_true c6
   clear c6
   obtain ⟨y233, hy233⟩ : ∃ y_ : List Int, y_ = (List.replicate (ji4 : Int).toNat 0) := ⟨_, rfl⟩
   replace H : (treemergeref19_table.l0 k l0 a2 y233 (wrap64 (a1 - 1))) = some r := by first | (rw [hy233]; with_reducible exact H) | (have H2_ := (Option.bind_some _ _).symm.trans H; rw [hy233]; with_reducible exact H2_) | (have H2_ := (Option.bind_some _ _).symm.trans H; with_reducible exact H2_) | with_reducible exact H | (rw [hy233]; exact H) | exact H
   have Ny233 := Aside0.mk hy233
   clear hy233
   have H' := Aside0.mk H
   clear H
   go_enter Try.func99, Try.ntmps99
   go_wp2_with (first | ((with_reducible refine gate_dst (N := 16) rfl ?_); refine Kd.R_make (Kd.int .i64) _ 3 rfl (N := 16) rfl 22 _ _ rfl ji4 rfl rfl Try.underlying22 (.int .i64 0) 8 info3 rfl (by decide) (by omega) 0 (ok := fun _ => True) (okp := fun _ => True) rfl (fun _ hk => hk) trivial (of_decide_eq_true AX) (Nat.le_trans (Nat.mul_le_mul_right _ (of_decide_eq_true AX : ji4.toNat ≤ 35184372088832)) (by omega)) (Below.refl _ _) (Nat.le_refl _) ?_; intro v234 w7 ho8 hb hg_ hnew_; clear hg_ hnew_; (first | rw [← Ny233.out] at ho8 | (simp only [Int.reduceToNat] at ho8; rw [← Ny233.out] at ho8)); have n0_ := Aside0.mk (Kd.R_lower ho8 (below_size (BX HB.out))); have n1_ := Aside0.mk (below_step (BX HB.out) hb); clear HB; have HO235 := n0_; have HB := n1_; clear n0_ n1_; clear hb ho8))
   repeat (go_quiet (first | ((with_reducible refine gate_dst (N := 16) rfl ?_); refine Kd.R_make (Kd.int .i64) _ 3 rfl (N := 16) rfl 22 _ _ rfl ji4 rfl rfl Try.underlying22 (.int .i64 0) 8 info3 rfl (by decide) (by omega) 0 (ok := fun _ => True) (okp := fun _ => True) rfl (fun _ hk => hk) trivial (of_decide_eq_true AX) (Nat.le_trans (Nat.mul_le_mul_right _ (of_decide_eq_true AX : ji4.toNat ≤ 35184372088832)) (by omega)) (Below.refl _ _) (Nat.le_refl _) ?_; intro v234 w7 ho8 hb hg_ hnew_; clear hg_ hnew_; (first | rw [← Ny233.out] at ho8 | (simp only [Int.reduceToNat] at ho8; rw [← Ny233.out] at ho8)); have n0_ := Aside0.mk (Kd.R_lower ho8 (below_size (BX HB.out))); have n1_ := Aside0.mk (below_step (BX HB.out) hb); clear HB; have HO235 := n0_; have HB := n1_; clear n0_ n1_; clear hb ho8)); try go_wp2_with (first | ((with_reducible refine gate_dst (N := 16) rfl ?_); refine Kd.R_make (Kd.int .i64) _ 3 rfl (N := 16) rfl 22 _ _ rfl ji4 rfl rfl Try.underlying22 (.int .i64 0) 8 info3 rfl (by decide) (by omega) 0 (ok := fun _ => True) (okp := fun _ => True) rfl (fun _ hk => hk) trivial (of_decide_eq_true AX) (Nat.le_trans (Nat.mul_le_mul_right _ (of_decide_eq_true AX : ji4.toNat ≤ 35184372088832)) (by omega)) (Below.refl _ _) (Nat.le_refl _) ?_; intro v234 w7 ho8 hb hg_ hnew_; clear hg_ hnew_; (first | rw [← Ny233.out] at ho8 | (simp only [Int.reduceToNat] at ho8; rw [← Ny233.out] at ho8)); have n0_ := Aside0.mk (Kd.R_lower ho8 (below_size (BX HB.out))); have n1_ := Aside0.mk (below_step (BX HB.out) hb); clear HB; have HO235 := n0_; have HB := n1_; clear n0_ n1_; clear hb ho8)))
   go_loopg [8] k (fun kq v8 w' => ∃ (x7_1 : List Int) (x8_1 : Int), v8 = .int .i64 x8_1 ∧ Aside0 (treemergeref19_table.l0 kq l0 a2 x7_1 x8_1 = some r) ∧ Aside0 (kq ≤ k) ∧ Aside0 (Kd.R (Kd.int .i64) 3 w' w.heap.size (fun _ => True) v234 x7_1) ∧ Aside0 (Below w.heap.size w w'))
   case atStart => exact ⟨(y233), (wrap64 (a1 - 1)), SX, H', ⟨Nat.le_refl _⟩, ⟨RX HO235.out⟩, ⟨BX HB.out⟩⟩
   case round =>
    clear H'
    try clear p2
    try clear c5
    try clear c5b0
    try clear c5b1
    try clear c6
    try clear c6b0
    try clear c6b1
    try clear p6
    obtain ⟨x7_1, x8_1, rfl, HA, HK1, HO_7, HB⟩ := hrel
    cases gk with
    | zero => exact absurd HA.out (by simp [treemergeref19_table.l0])
    | succ k1 =>
     have H := HA.out
     clear HA
     simp only [treemergeref19_table.l0] at H
     by_cases c9 : x8_1 ≥ 0
     ·rw [if_pos c9] at H
      have c9b0 : decide (0 ≤ x8_1) = true := decide_eq_true c9
      clear c9
      have H' := Aside0.mk H
      clear H
      go_wp2
      repeat (go_quiet (fail); try go_wp2)
      go_loopg [9] k1 (fun kq v9 w' => ∃ (x7_2 : List Int) (x9_2 : Int), v9 = .int .i64 x9_2 ∧ Aside0 (treemergeref19_table.l1 kq l0 a2 x7_2 x8_1 x9_2 = some r) ∧ Aside0 (kq ≤ k1) ∧ Aside0 (Kd.R (Kd.int .i64) 3 w' w.heap.size (fun _ => True) v234 x7_2) ∧ Aside0 (Below w.heap.size w w'))
      case atStart => exact ⟨(x7_1), (wrap64 (a2 - 1)), SX, H', ⟨Nat.le_refl _⟩, ⟨RX HO_7.out⟩, ⟨BX HB.out⟩⟩
      case round =>
       clear H'
       try clear p2
       try clear c5
       try clear c5b0
       try clear c5b1
       try clear c6
       try clear c6b0
       try clear c6b1
       try clear p6
       try clear c9
       try clear c9b0
       try clear p2
       try clear p6
       obtain ⟨x7_2, x9_2, rfl, HA, HK2, HO_7, HB⟩ := hrel
       cases gk with
       | zero => exact absurd HA.out (by simp [treemergeref19_table.l1])
       | succ k2 =>
        have H := HA.out
        clear HA
        simp only [treemergeref19_table.l1] at H
        by_cases c10 : x9_2 ≥ 0
        ·rw [if_pos c10] at H
         have c10b0 : decide (0 ≤ x9_2) = true := decide_eq_true c10
         clear c10
         obtain ⟨ji11, hji11⟩ : ∃ j_ : Int, (wrap64 ((wrap64 ((wrap64 (x8_1 + 1)) * (wrap64 (a2 + 1)))) + x9_2)) = j_ := ⟨_, rfl⟩
         replace H : (if 0 ≤ (ji11) then (if (ji11) < (x7_2.length : Int) then (if 0 ≤ (wrap64 ((wrap64 ((wrap64 (x8_1 * (wrap64 (a2 + 1)))) + x9_2)) + 1)) then (if (wrap64 ((wrap64 ((wrap64 (x8_1 * (wrap64 (a2 + 1)))) + x9_2)) + 1)) < (x7_2.length : Int) then (if 0 ≤ (wrap64 ((wrap64 (x8_1 * a2)) + x9_2)) then (if (wrap64 ((wrap64 (x8_1 * a2)) + x9_2)) < (l0.length : Int) then (if rdOf false l0 (wrap64 ((wrap64 (x8_1 * a2)) + x9_2)) = true then (if 0 ≤ (wrap64 ((ji11) + 1)) then (if (wrap64 ((ji11) + 1)) < (x7_2.length : Int) then (if 0 ≤ (wrap64 ((wrap64 (x8_1 * (wrap64 (a2 + 1)))) + x9_2)) then (if (wrap64 ((wrap64 (x8_1 * (wrap64 (a2 + 1)))) + x9_2)) < (x7_2.length : Int) then (treemergeref19_table.l1 k2 l0 a2 (x7_2.set ((wrap64 ((wrap64 (x8_1 * (wrap64 (a2 + 1)))) + x9_2)) : Int).toNat (mx (mx (rd x7_2 (ji11)) (rd x7_2 (wrap64 ((wrap64 ((wrap64 (x8_1 * (wrap64 (a2 + 1)))) + x9_2)) + 1)))) (wrap64 ((rd x7_2 (wrap64 ((ji11) + 1))) + 1)))) x8_1 (wrap64 (x9_2 - 1))) else (none)) else (none)) else (none)) else (none)) else (if 0 ≤ (wrap64 ((wrap64 (x8_1 * (wrap64 (a2 + 1)))) + x9_2)) then (if (wrap64 ((wrap64 (x8_1 * (wrap64 (a2 + 1)))) + x9_2)) < (x7_2.length : Int) then (treemergeref19_table.l1 k2 l0 a2 (x7_2.set ((wrap64 ((wrap64 (x8_1 * (wrap64 (a2 + 1)))) + x9_2)) : Int).toNat (mx (rd x7_2 (ji11)) (rd x7_2 (wrap64 ((wrap64 ((wrap64 (x8_1 * (wrap64 (a2 + 1)))) + x9_2)) + 1))))) x8_1 (wrap64 (x9_2 - 1))) else (none)) else (none))) else (none)) else (none)) else (none)) else (none)) else (none)) else (none)) = some r := by first | (rw [hji11] at H; exact H) | (simp only [hji11] at H ⊢; exact H)
         have hji11w : (IntKind.i64.wrap ((wrap64 ((wrap64 (x8_1 + 1)) * (wrap64 (a2 + 1)))) + x9_2)) = ji11 := (i64_w _).trans hji11
         by_cases c12 : 0 ≤ (ji11)
         ·rw [if_pos c12] at H
          have c12b0 : decide (0 ≤ (ji11)) = true := decide_eq_true c12
          clear c12
          by_cases c13 : (ji11) < (x7_2.length : Int)
          ·rw [if_pos c13] at H
           have c13b0 : decide ((ji11) < (x7_2.length : Int)) = true := decide_eq_true c13
           try (have c13b0h := (by assumption : x7_2.length = _) ▸ c13b0)
           clear c13
           obtain ⟨ji14, hji14⟩ : ∃ j_ : Int, (wrap64 ((wrap64 ((wrap64 (x8_1 * (wrap64 (a2 + 1)))) + x9_2)) + 1)) = j_ := ⟨_, rfl⟩
           replace H : (if 0 ≤ (ji14) then (if (ji14) < (x7_2.length : Int) then (if 0 ≤ (wrap64 ((wrap64 (x8_1 * a2)) + x9_2)) then (if (wrap64 ((wrap64 (x8_1 * a2)) + x9_2)) < (l0.length : Int) then (if rdOf false l0 (wrap64 ((wrap64 (x8_1 * a2)) + x9_2)) = true then (if 0 ≤ (wrap64 ((ji11) + 1)) then (if (wrap64 ((ji11) + 1)) < (x7_2.length : Int) then (if 0 ≤ (wrap64 ((wrap64 (x8_1 * (wrap64 (a2 + 1)))) + x9_2)) then (if (wrap64 ((wrap64 (x8_1 * (wrap64 (a2 + 1)))) + x9_2)) < (x7_2.length : Int) then (treemergeref19_table.l1 k2 l0 a2 (x7_2.set ((wrap64 ((wrap64 (x8_1 * (wrap64 (a2 + 1)))) + x9_2)) : Int).toNat (mx (mx (rd x7_2 (ji11)) (rd x7_2 (ji14))) (wrap64 ((rd x7_2 (wrap64 ((ji11) + 1))) + 1)))) x8_1 (wrap64 (x9_2 - 1))) else (none)) else (none)) else (none)) else (none)) else (if 0 ≤ (wrap64 ((wrap64 (x8_1 * (wrap64 (a2 + 1)))) + x9_2)) then (if (wrap64 ((wrap64 (x8_1 * (wrap64 (a2 + 1)))) + x9_2)) < (x7_2.length : Int) then (treemergeref19_table.l1 k2 l0 a2 (x7_2.set ((wrap64 ((wrap64 (x8_1 * (wrap64 (a2 + 1)))) + x9_2)) : Int).toNat (mx (rd x7_2 (ji11)) (rd x7_2 (ji14)))) x8_1 (wrap64 (x9_2 - 1))) else (none)) else (none))) else (none)) else (none)) else (none)) else (none)) = some r := by first | (rw [hji14] at H; exact H) | (simp only [hji14] at H ⊢; exact H)
           have hji14w : (IntKind.i64.wrap ((wrap64 ((wrap64 (x8_1 * (wrap64 (a2 + 1)))) + x9_2)) + 1)) = ji14 := (i64_w _).trans hji14
           by_cases c15 : 0 ≤ (ji14)
           ·rw [if_pos c15] at H
            have c15b0 : decide (0 ≤ (ji14)) = true := decide_eq_true c15
            clear c15
            by_cases c16 : (ji14) < (x7_2.length : Int)
            ·rw [if_pos c16] at H
             have c16b0 : decide ((ji14) < (x7_2.length : Int)) = true := decide_eq_true c16
             try (have c16b0h := (by assumption : x7_2.length = _) ▸ c16b0)
             clear c16
             obtain ⟨ji17, hji17⟩ : ∃ j_ : Int, (mx (rd x7_2 (ji11)) (rd x7_2 (ji14))) = j_ := ⟨_, rfl⟩
             replace H : (if 0 ≤ (wrap64 ((wrap64 (x8_1 * a2)) + x9_2)) then (if (wrap64 ((wrap64 (x8_1 * a2)) + x9_2)) < (l0.length : Int) then (if rdOf false l0 (wrap64 ((wrap64 (x8_1 * a2)) + x9_2)) = true then (if 0 ≤ (wrap64 ((ji11) + 1)) then (if (wrap64 ((ji11) + 1)) < (x7_2.length : Int) then (if 0 ≤ (wrap64 ((wrap64 (x8_1 * (wrap64 (a2 + 1)))) + x9_2)) then (if (wrap64 ((wrap64 (x8_1 * (wrap64 (a2 + 1)))) + x9_2)) < (x7_2.length : Int) then (treemergeref19_table.l1 k2 l0 a2 (x7_2.set ((wrap64 ((wrap64 (x8_1 * (wrap64 (a2 + 1)))) + x9_2)) : Int).toNat (mx (ji17) (wrap64 ((rd x7_2 (wrap64 ((ji11) + 1))) + 1)))) x8_1 (wrap64 (x9_2 - 1))) else (none)) else (none)) else (none)) else (none)) else (if 0 ≤ (wrap64 ((wrap64 (x8_1 * (wrap64 (a2 + 1)))) + x9_2)) then (if (wrap64 ((wrap64 (x8_1 * (wrap64 (a2 + 1)))) + x9_2)) < (x7_2.length : Int) then (treemergeref19_table.l1 k2 l0 a2 (x7_2.set ((wrap64 ((wrap64 (x8_1 * (wrap64 (a2 + 1)))) + x9_2)) : Int).toNat (ji17)) x8_1 (wrap64 (x9_2 - 1))) else (none)) else (none))) else (none)) else (none)) = some r := by first | (rw [hji17] at H; exact H) | (simp only [hji17] at H ⊢; exact H)
             have hji17_ : (if (rd x7_2 (ji11)) < (rd x7_2 (ji14)) then (rd x7_2 (ji14)) else (rd x7_2 (ji11))) = ji17 := hji17
             obtain ⟨ji18, hji18⟩ : ∃ j_ : Int, (wrap64 ((wrap64 (x8_1 * a2)) + x9_2)) = j_ := ⟨_, rfl⟩
             replace H : (if 0 ≤ (ji18) then (if (ji18) < (l0.length : Int) then (if rdOf false l0 (ji18) = true then (if 0 ≤ (wrap64 ((ji11) + 1)) then (if (wrap64 ((ji11) + 1)) < (x7_2.length : Int) then (if 0 ≤ (wrap64 ((wrap64 (x8_1 * (wrap64 (a2 + 1)))) + x9_2)) then (if (wrap64 ((wrap64 (x8_1 * (wrap64 (a2 + 1)))) + x9_2)) < (x7_2.length : Int) then (treemergeref19_table.l1 k2 l0 a2 (x7_2.set ((wrap64 ((wrap64 (x8_1 * (wrap64 (a2 + 1)))) + x9_2)) : Int).toNat (mx (ji17) (wrap64 ((rd x7_2 (wrap64 ((ji11) + 1))) + 1)))) x8_1 (wrap64 (x9_2 - 1))) else (none)) else (none)) else (none)) else (none)) else (if 0 ≤ (wrap64 ((wrap64 (x8_1 * (wrap64 (a2 + 1)))) + x9_2)) then (if (wrap64 ((wrap64 (x8_1 * (wrap64 (a2 + 1)))) + x9_2)) < (x7_2.length : Int) then (treemergeref19_table.l1 k2 l0 a2 (x7_2.set ((wrap64 ((wrap64 (x8_1 * (wrap64 (a2 + 1)))) + x9_2)) : Int).toNat (ji17)) x8_1 (wrap64 (x9_2 - 1))) else (none)) else (none))) else (none)) else (none)) = some r := by first | (rw [hji18] at H; exact H) | (simp only [hji18] at H ⊢; exact H)
             have hji18w : (IntKind.i64.wrap ((wrap64 (x8_1 * a2)) + x9_2)) = ji18 := (i64_w _).trans hji18
             by_cases c19 : 0 ≤ (ji18)
             ·rw [if_pos c19] at H
              have c19b0 : decide (0 ≤ (ji18)) = true := decide_eq_true c19
              clear c19
              by_cases c20 : (ji18) < (l0.length : Int)
              ·rw [if_pos c20] at H
               have c20b0 : decide ((ji18) < (l0.length : Int)) = true := decide_eq_true c20
               clear c20
               obtain ⟨bq21, hbq21⟩ : ∃ b_ : Bool, b_ = (rdOf false l0 (ji18)) := ⟨_, rfl⟩
               replace H : (if bq21 = true then (if 0 ≤ (wrap64 ((ji11) + 1)) then (if (wrap64 ((ji11) + 1)) < (x7_2.length : Int) then (if 0 ≤ (wrap64 ((wrap64 (x8_1 * (wrap64 (a2 + 1)))) + x9_2)) then (if (wrap64 ((wrap64 (x8_1 * (wrap64 (a2 + 1)))) + x9_2)) < (x7_2.length : Int) then (treemergeref19_table.l1 k2 l0 a2 (x7_2.set ((wrap64 ((wrap64 (x8_1 * (wrap64 (a2 + 1)))) + x9_2)) : Int).toNat (mx (ji17) (wrap64 ((rd x7_2 (wrap64 ((ji11) + 1))) + 1)))) x8_1 (wrap64 (x9_2 - 1))) else (none)) else (none)) else (none)) else (none)) else (if 0 ≤ (wrap64 ((wrap64 (x8_1 * (wrap64 (a2 + 1)))) + x9_2)) then (if (wrap64 ((wrap64 (x8_1 * (wrap64 (a2 + 1)))) + x9_2)) < (x7_2.length : Int) then (treemergeref19_table.l1 k2 l0 a2 (x7_2.set ((wrap64 ((wrap64 (x8_1 * (wrap64 (a2 + 1)))) + x9_2)) : Int).toNat (ji17)) x8_1 (wrap64 (x9_2 - 1))) else (none)) else (none))) = some r := by rw [← hbq21] at H; exact H
               have Nbq21 := Aside0.mk hbq21
               clear hbq21
               by_cases c22 : bq21 = true
               ·subst c22
                have H1 : (if 0 ≤ (wrap64 ((ji11) + 1)) then (if (wrap64 ((ji11) + 1)) < (x7_2.length : Int) then (if 0 ≤ (wrap64 ((wrap64 (x8_1 * (wrap64 (a2 + 1)))) + x9_2)) then (if (wrap64 ((wrap64 (x8_1 * (wrap64 (a2 + 1)))) + x9_2)) < (x7_2.length : Int) then (treemergeref19_table.l1 k2 l0 a2 (x7_2.set ((wrap64 ((wrap64 (x8_1 * (wrap64 (a2 + 1)))) + x9_2)) : Int).toNat (mx (ji17) (wrap64 ((rd x7_2 (wrap64 ((ji11) + 1))) + 1)))) x8_1 (wrap64 (x9_2 - 1))) else (none)) else (none)) else (none)) else (none)) = some r := by rw [if_pos rfl] at H; exact H
                clear H
                have H := H1
                clear H1
                obtain ⟨ji23, hji23⟩ : ∃ j_ : Int, (wrap64 ((ji11) + 1)) = j_ := ⟨_, rfl⟩
                replace H : (if 0 ≤ (ji23) then (if (ji23) < (x7_2.length : Int) then (if 0 ≤ (wrap64 ((wrap64 (x8_1 * (wrap64 (a2 + 1)))) + x9_2)) then (if (wrap64 ((wrap64 (x8_1 * (wrap64 (a2 + 1)))) + x9_2)) < (x7_2.length : Int) then (treemergeref19_table.l1 k2 l0 a2 (x7_2.set ((wrap64 ((wrap64 (x8_1 * (wrap64 (a2 + 1)))) + x9_2)) : Int).toNat (mx (ji17) (wrap64 ((rd x7_2 (ji23)) + 1)))) x8_1 (wrap64 (x9_2 - 1))) else (none)) else (none)) else (none)) else (none)) = some r := by first | (rw [hji23] at H; exact H) | (simp only [hji23] at H ⊢; exact H)
                have hji23w : (IntKind.i64.wrap ((ji11) + 1)) = ji23 := (i64_w _).trans hji23
                by_cases c24 : 0 ≤ (ji23)
                ·rw [if_pos c24] at H
                 have c24b0 : decide (0 ≤ (ji23)) = true := decide_eq_true c24
                 clear c24
                 by_cases c25 : (ji23) < (x7_2.length : Int)
                 ·rw [if_pos c25] at H
                  have c25b0 : decide ((ji23) < (x7_2.length : Int)) = true := decide_eq_true c25
                  try (have c25b0h := (by assumption : x7_2.length = _) ▸ c25b0)
                  clear c25
                  obtain ⟨ji26, hji26⟩ : ∃ j_ : Int, (mx (ji17) (wrap64 ((rd x7_2 (ji23)) + 1))) = j_ := ⟨_, rfl⟩
                  replace H : (if 0 ≤ (wrap64 ((wrap64 (x8_1 * (wrap64 (a2 + 1)))) + x9_2)) then (if (wrap64 ((wrap64 (x8_1 * (wrap64 (a2 + 1)))) + x9_2)) < (x7_2.length : Int) then (treemergeref19_table.l1 k2 l0 a2 (x7_2.set ((wrap64 ((wrap64 (x8_1 * (wrap64 (a2 + 1)))) + x9_2)) : Int).toNat (ji26)) x8_1 (wrap64 (x9_2 - 1))) else (none)) else (none)) = some r := by first | (rw [hji26] at H; exact H) | (simp only [hji26] at H ⊢; exact H)
                  have hji26_ : (if (ji17) < (wrap64 ((rd x7_2 (ji23)) + 1)) then (wrap64 ((rd x7_2 (ji23)) + 1)) else (ji17)) = ji26 := hji26
                  obtain ⟨ji27, hji27⟩ : ∃ j_ : Int, (wrap64 ((wrap64 (x8_1 * (wrap64 (a2 + 1)))) + x9_2)) = j_ := ⟨_, rfl⟩
                  replace H : (if 0 ≤ (ji27) then (if (ji27) < (x7_2.length : Int) then (treemergeref19_table.l1 k2 l0 a2 (x7_2.set ((ji27) : Int).toNat (ji26)) x8_1 (wrap64 (x9_2 - 1))) else (none)) else (none)) = some r := by first | (rw [hji27] at H; exact H) | (simp only [hji27] at H ⊢; exact H)
                  have hji27w : (IntKind.i64.wrap ((wrap64 (x8_1 * (wrap64 (a2 + 1)))) + x9_2)) = ji27 := (i64_w _).trans hji27
                  by_cases c28 : 0 ≤ (ji27)
                  ·rw [if_pos c28] at H
                   have c28b0 : decide (0 ≤ (ji27)) = true := decide_eq_true c28
                   clear c28
                   by_cases c29 : (ji27) < (x7_2.length : Int)
                   ·rw [if_pos c29] at H
                    have c29b0 : decide ((ji27) < (x7_2.length : Int)) = true := decide_eq_true c29
                    try (have c29b0h := (by assumption : x7_2.length = _) ▸ c29b0)
                    clear c29
                    obtain ⟨y240, hy240⟩ : ∃ y_ : List Int, y_ = (x7_2.set ((ji27) : Int).toNat (ji26)) := ⟨_, rfl⟩
                    replace H : (treemergeref19_table.l1 k2 l0 a2 y240 x8_1 (wrap64 (x9_2 - 1))) = some r := by first | (rw [hy240]; with_reducible exact H) | (have H2_ := (Option.bind_some _ _).symm.trans H; rw [hy240]; with_reducible exact H2_) | (have H2_ := (Option.bind_some _ _).symm.trans H; with_reducible exact H2_) | with_reducible exact H | (rw [hy240]; exact H) | exact H
                    have Ny240 := Aside0.mk hy240
                    clear hy240
                    have H' := Aside0.mk H
                    clear H
                    obtain ⟨Ao31, co31, eo31⟩ := Kd.R_slice HO_7.out
                    subst eo31
                    have p236 : 0 ≤ ((ji11) : Int) := of_decide_eq_true AX
                    have q236 : (ji11) < (x7_2.length : Int) := of_decide_eq_true AX
                    obtain ⟨ad236, e236, hx236_0⟩ := Kd.at_int (Kd.R_reads' HO_7.out).2.2 (ji11) p236 q236
                    cases e236
                    replace p236 := eq_true p236
                    replace q236 := eq_true q236
                    have p237 : 0 ≤ ((ji14) : Int) := of_decide_eq_true AX
                    have q237 : (ji14) < (x7_2.length : Int) := of_decide_eq_true AX
                    obtain ⟨ad237, e237, hx237_0⟩ := Kd.at_int (Kd.R_reads' HO_7.out).2.2 (ji14) p237 q237
                    obtain rfl : ad236 = ad237 := (by injection e237)
                    replace p237 := eq_true p237
                    replace q237 := eq_true q237
                    have p238 : 0 ≤ ((ji18) : Int) := of_decide_eq_true AX
                    have q238 : (ji18) < (l0.length : Int) := of_decide_eq_true AX
                    obtain ⟨ad238, e238, hx238_0⟩ := Kd.at_bool HR0.out (ji18) p238 q238
                    (try rw [← Nbq21.out] at hx238_0)
                    cases e238
                    replace hx238_0 := (HB.out.cell (World.block_lt_of_cell? w _ hx238_0)).trans hx238_0
                    replace p238 := eq_true p238
                    replace q238 := eq_true q238
                    have p239 : 0 ≤ ((ji23) : Int) := of_decide_eq_true AX
                    have q239 : (ji23) < (x7_2.length : Int) := of_decide_eq_true AX
                    obtain ⟨ad239, e239, hx239_0⟩ := Kd.at_int (Kd.R_reads' HO_7.out).2.2 (ji23) p239 q239
                    obtain rfl : ad236 = ad239 := (by injection e239)
                    replace p239 := eq_true p239
                    replace q239 := eq_true q239
                    have p30 : 0 ≤ ((ji27) : Int) := of_decide_eq_true AX
                    have q30 : ((ji27) : Int) < ((x7_2.length : Int) : Int) := of_decide_eq_true AX
                    obtain ⟨go30, co30, eo30, gb30, gl30, cl30, HG30⟩ := Kd.R_form HO_7.out (by omega)
                    (first | cases eo30 | (injection eo30 with ea_ en_ ec_; (first | subst ea_ | (injection ea_ with ea_; subst ea_)); subst ec_; clear en_))
                    have GB30 := Aside0.mk gb30
                    have GG30 := Aside0.mk HG30
                    clear gb30 gl30 HG30
                    (first | simp only [add_plain] at hx236_0 | skip)
                    (first | simp only [add_plain] at hx237_0 | skip)
                    (first | simp only [add_plain] at hx239_0 | skip)
                    obtain ⟨hx30_0, hf30_0⟩ := Kd.R_celln 0 HO_7.out ((ji27) : Int) p30 q30
                    replace p30 := eq_true p30
                    replace q30 := eq_true q30
                    have HP32 := Kd.R_putg HO_7.out ((ji27) : Int) ji26
                    have e_11 : IntKind.i64.wrap (IntKind.i64.wrap (IntKind.i64.wrap (x8_1 + 1) * IntKind.i64.wrap (a2 + 1)) + x9_2) = ji11 := by simp only [i64_w]; exact hji11
                    have e_18 : IntKind.i64.wrap (IntKind.i64.wrap (x8_1 * a2) + x9_2) = ji18 := by simp only [i64_w]; exact hji18
                    have e_27 : IntKind.i64.wrap (IntKind.i64.wrap (x8_1 * IntKind.i64.wrap (a2 + 1)) + x9_2) = ji27 := by simp only [i64_w]; exact hji27
                    have e_14 : IntKind.i64.wrap (ji27 + 1) = ji14 := by rw [← hji27, i64_w]; exact hji14
                    go_wp2
                    repeat (go_quiet (fail); try go_wp2)
                    go_roundg k2
                    case measure => have := HK1.out; have := HK2.out; omega
                    case rel => exact ⟨y240, (wrap64 (x9_2 - 1)), SX, H', ⟨by have := HK1.out; have := HK2.out; omega⟩, ⟨by rw [Ny240.out]; exact (Kd.R_putg (Kd.R_drewN HO_7.out _) ji27 ji26).1⟩, ⟨below_set (pw_below_drewN HB.out _) GB30.out⟩⟩
                   ·rw [if_neg c29] at H
                    exact absurd H (by simp)
                  ·rw [if_neg c28] at H
                   exact absurd H (by simp)
                 ·rw [if_neg c25] at H
                  exact absurd H (by simp)
                ·rw [if_neg c24] at H
                 exact absurd H (by simp)
               ·replace c22 := Bool.eq_false_iff.mpr c22
                subst c22
                have H1 : (if 0 ≤ (wrap64 ((wrap64 (x8_1 * (wrap64 (a2 + 1)))) + x9_2)) then (if (wrap64 ((wrap64 (x8_1 * (wrap64 (a2 + 1)))) + x9_2)) < (x7_2.length : Int) then (treemergeref19_table.l1 k2 l0 a2 (x7_2.set ((wrap64 ((wrap64 (x8_1 * (wrap64 (a2 + 1)))) + x9_2)) : Int).toNat (ji17)) x8_1 (wrap64 (x9_2 - 1))) else (none)) else (none)) = some r := by rw [if_neg (show ¬ (false = true) by decide)] at H; exact H
                clear H
                have H := H1
                clear H1
                obtain ⟨ji34, hji34⟩ : ∃ j_ : Int, (wrap64 ((wrap64 (x8_1 * (wrap64 (a2 + 1)))) + x9_2)) = j_ := ⟨_, rfl⟩
                replace H : (if 0 ≤ (ji34) then (if (ji34) < (x7_2.length : Int) then (treemergeref19_table.l1 k2 l0 a2 (x7_2.set ((ji34) : Int).toNat (ji17)) x8_1 (wrap64 (x9_2 - 1))) else (none)) else (none)) = some r := by first | (rw [hji34] at H; exact H) | (simp only [hji34] at H ⊢; exact H)
                have hji34w : (IntKind.i64.wrap ((wrap64 (x8_1 * (wrap64 (a2 + 1)))) + x9_2)) = ji34 := (i64_w _).trans hji34
                by_cases c35 : 0 ≤ (ji34)
                ·rw [if_pos c35] at H
                 have c35b0 : decide (0 ≤ (ji34)) = true := decide_eq_true c35
                 clear c35
                 by_cases c36 : (ji34) < (x7_2.length : Int)
                 ·rw [if_pos c36] at H
                  have c36b0 : decide ((ji34) < (x7_2.length : Int)) = true := decide_eq_true c36
                  try (have c36b0h := (by assumption : x7_2.length = _) ▸ c36b0)
                  clear c36
                  obtain ⟨y241, hy241⟩ : ∃ y_ : List Int, y_ = (x7_2.set ((ji34) : Int).toNat (ji17)) := ⟨_, rfl⟩
                  replace H : (treemergeref19_table.l1 k2 l0 a2 y241 x8_1 (wrap64 (x9_2 - 1))) = some r := by first | (rw [hy241]; with_reducible exact H) | (have H2_ := (Option.bind_some _ _).symm.trans H; rw [hy241]; with_reducible exact H2_) | (have H2_ := (Option.bind_some _ _).symm.trans H; with_reducible exact H2_) | with_reducible exact H | (rw [hy241]; exact H) | exact H
                  have Ny241 := Aside0.mk hy241
                  clear hy241
                  have H' := Aside0.mk H
                  clear H
                  obtain ⟨Ao38, co38, eo38⟩ := Kd.R_slice HO_7.out
                  subst eo38
                  have p236 : 0 ≤ ((ji11) : Int) := of_decide_eq_true AX
                  have q236 : (ji11) < (x7_2.length : Int) := of_decide_eq_true AX
                  obtain ⟨ad236, e236, hx236_0⟩ := Kd.at_int (Kd.R_reads' HO_7.out).2.2 (ji11) p236 q236
                  cases e236
                  replace p236 := eq_true p236
                  replace q236 := eq_true q236
                  have p237 : 0 ≤ ((ji14) : Int) := of_decide_eq_true AX
                  have q237 : (ji14) < (x7_2.length : Int) := of_decide_eq_true AX
                  obtain ⟨ad237, e237, hx237_0⟩ := Kd.at_int (Kd.R_reads' HO_7.out).2.2 (ji14) p237 q237
                  obtain rfl : ad236 = ad237 := (by injection e237)
                  replace p237 := eq_true p237
                  replace q237 := eq_true q237
                  have p238 : 0 ≤ ((ji18) : Int) := of_decide_eq_true AX
                  have q238 : (ji18) < (l0.length : Int) := of_decide_eq_true AX
                  obtain ⟨ad238, e238, hx238_0⟩ := Kd.at_bool HR0.out (ji18) p238 q238
                  (try rw [← Nbq21.out] at hx238_0)
                  cases e238
                  replace hx238_0 := (HB.out.cell (World.block_lt_of_cell? w _ hx238_0)).trans hx238_0
                  replace p238 := eq_true p238
                  replace q238 := eq_true q238
                  have p37 : 0 ≤ ((ji34) : Int) := of_decide_eq_true AX
                  have q37 : ((ji34) : Int) < ((x7_2.length : Int) : Int) := of_decide_eq_true AX
                  obtain ⟨go37, co37, eo37, gb37, gl37, cl37, HG37⟩ := Kd.R_form HO_7.out (by omega)
                  (first | cases eo37 | (injection eo37 with ea_ en_ ec_; (first | subst ea_ | (injection ea_ with ea_; subst ea_)); subst ec_; clear en_))
                  have GB37 := Aside0.mk gb37
                  have GG37 := Aside0.mk HG37
                  clear gb37 gl37 HG37
                  (first | simp only [add_plain] at hx236_0 | skip)
                  (first | simp only [add_plain] at hx237_0 | skip)
                  obtain ⟨hx37_0, hf37_0⟩ := Kd.R_celln 0 HO_7.out ((ji34) : Int) p37 q37
                  replace p37 := eq_true p37
                  replace q37 := eq_true q37
                  have HP39 := Kd.R_putg HO_7.out ((ji34) : Int) ji17
                  have e_11 : IntKind.i64.wrap (IntKind.i64.wrap (IntKind.i64.wrap (x8_1 + 1) * IntKind.i64.wrap (a2 + 1)) + x9_2) = ji11 := by simp only [i64_w]; exact hji11
                  have e_18 : IntKind.i64.wrap (IntKind.i64.wrap (x8_1 * a2) + x9_2) = ji18 := by simp only [i64_w]; exact hji18
                  have e_27 : IntKind.i64.wrap (IntKind.i64.wrap (x8_1 * IntKind.i64.wrap (a2 + 1)) + x9_2) = ji34 := by simp only [i64_w]; exact hji34
                  have e_14 : IntKind.i64.wrap (ji34 + 1) = ji14 := by rw [← hji34, i64_w]; exact hji14
                  go_wp2
                  repeat (go_quiet (fail); try go_wp2)
                  go_roundg k2
                  case measure => have := HK1.out; have := HK2.out; omega
                  case rel => exact ⟨y241, (wrap64 (x9_2 - 1)), SX, H', ⟨by have := HK1.out; have := HK2.out; omega⟩, ⟨by rw [Ny241.out]; exact (Kd.R_putg (Kd.R_drewN HO_7.out _) ji34 ji17).1⟩, ⟨below_set (pw_below_drewN HB.out _) GB37.out⟩⟩
                 ·rw [if_neg c36] at H
                  exact absurd H (by simp)
                ·rw [if_neg c35] at H
                 exact absurd H (by simp)
              ·rw [if_neg c20] at H
               exact absurd H (by simp)
             ·rw [if_neg c19] at H
              exact absurd H (by simp)
            ·rw [if_neg c16] at H
             exact absurd H (by simp)
           ·rw [if_neg c15] at H
            exact absurd H (by simp)
          ·rw [if_neg c13] at H
           exact absurd H (by simp)
         ·rw [if_neg c12] at H
          exact absurd H (by simp)
        ·rw [if_neg c10] at H
         have c10b0 : decide (0 ≤ x9_2) = false := decide_eq_false c10
         clear c10
         have H' := Aside0.mk H
         clear H
         go_wp2
         repeat (go_quiet (fail); try go_wp2)
         go_roundg k2
         case measure => have := HK1.out; have := HK2.out; omega
         case rel => exact ⟨(x7_2), (wrap64 (x8_1 - 1)), SX, H', ⟨by have := HK1.out; have := HK2.out; omega⟩, ⟨RX HO_7.out⟩, ⟨BX HB.out⟩⟩
     ·rw [if_neg c9] at H
      have c9b0 : decide (0 ≤ x8_1) = false := decide_eq_false c9
      clear c9
      obtain rfl := Option.some.inj H
      go_wp2
      repeat (go_quiet (fail); try go_wp2)
      go_ret
      exact ⟨_, by first | rfl | (simp [errW_none, errW_some] <;> rfl) | (simp only [← hji4]; first | rfl | (simp [errW_none, errW_some] <;> rfl)) | (simp [*, errW_none, errW_some] <;> rfl), by (with_reducible repeat (first | apply Kd.R_alloc | apply Kd.R_drewN | apply Kd.R_drew)); exact HO_7.out, BX HB.out⟩
  ·rw [if_neg c6] at H
   exact absurd H (by simp)
 ·rw [if_neg c5] at H
  exact absurd H (by simp)

end Go.Proofs.Ytdbgdkbpamekpaa.Q
