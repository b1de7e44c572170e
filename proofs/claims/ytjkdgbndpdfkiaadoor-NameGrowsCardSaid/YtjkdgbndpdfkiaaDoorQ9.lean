-- Written by a program of this session (mk.py) out of the translation; Lean checks it.
import Derived.Test.YtjkdgbndpdfkiaaDoorQ0
import Derived.Test.YtjkdgbndpdfkiaaDoorQ1
import Derived.Test.YtjkdgbndpdfkiaaDoorQ3
namespace Go.Proofs.YtjkdgbndpdfkiaaDoor.Q
open Go.RowKit Go.Proofs.YtjkdgbndpdfkiaaDoorW.PrintWords Go.Proofs.YtjkdgbndpdfkiaaDoorW.PrintLast Go.Proofs.YtjkdgbndpdfkiaaDoorW.PrintMore
attribute [local go_sem] max2_int min2_int max_two min_two max_three min_three max_four min_four   -- for this text's walks alone
set_option linter.unusedVariables false
set_option linter.unusedSimpArgs false

/-! ### treemergelaw03_NameGrows: function 9 -/
mutual
def treemergelaw03_NameGrows.j0 : Nat → ByteArray → Int → Bool → Option (Bool)
  | 0, _, _, _ => none
  | k + 1, x0, x1, x16 => if x16 = true then (some false) else ((some (([x1] : List Int) : List Int)).bind fun y253 => (if x0.size + (strOfNums y253).size ≤ 9223372036854775807 then (if x1 ≥ 97 then (if x1 ≤ 122 then (treemergelaw03_NameGrows.j1 k x0 (x0 ++ (strOfNums y253)) true) else (if x1 ≥ 65 then (if x1 ≤ 90 then (treemergelaw03_NameGrows.j1 k x0 (x0 ++ (strOfNums y253)) true) else (if x1 ≥ 48 then (if x1 ≤ 57 then (treemergelaw03_NameGrows.j1 k x0 (x0 ++ (strOfNums y253)) true) else (treemergelaw03_NameGrows.j1 k x0 (x0 ++ (strOfNums y253)) (x1 == 95))) else (treemergelaw03_NameGrows.j1 k x0 (x0 ++ (strOfNums y253)) (x1 == 95)))) else (if x1 ≥ 48 then (if x1 ≤ 57 then (treemergelaw03_NameGrows.j1 k x0 (x0 ++ (strOfNums y253)) true) else (treemergelaw03_NameGrows.j1 k x0 (x0 ++ (strOfNums y253)) (x1 == 95))) else (treemergelaw03_NameGrows.j1 k x0 (x0 ++ (strOfNums y253)) (x1 == 95))))) else (if x1 ≥ 65 then (if x1 ≤ 90 then (treemergelaw03_NameGrows.j1 k x0 (x0 ++ (strOfNums y253)) true) else (if x1 ≥ 48 then (if x1 ≤ 57 then (treemergelaw03_NameGrows.j1 k x0 (x0 ++ (strOfNums y253)) true) else (treemergelaw03_NameGrows.j1 k x0 (x0 ++ (strOfNums y253)) (x1 == 95))) else (treemergelaw03_NameGrows.j1 k x0 (x0 ++ (strOfNums y253)) (x1 == 95)))) else (if x1 ≥ 48 then (if x1 ≤ 57 then (treemergelaw03_NameGrows.j1 k x0 (x0 ++ (strOfNums y253)) true) else (treemergelaw03_NameGrows.j1 k x0 (x0 ++ (strOfNums y253)) (x1 == 95))) else (treemergelaw03_NameGrows.j1 k x0 (x0 ++ (strOfNums y253)) (x1 == 95))))) else (none)))
def treemergelaw03_NameGrows.j1 : Nat → ByteArray → ByteArray → Bool → Option (Bool)
  | 0, _, _, _ => none
  | k + 1, x0, x5, x6 => (name_Valid.f x0).bind fun t256 => (if t256 = true then (if (x5.size : Int) > 32 then (treemergelaw03_NameGrows.j2 k x5 x6 true) else ((name_Keyword.f x5).bind fun t257 => (treemergelaw03_NameGrows.j2 k x5 x6 t257))) else (treemergelaw03_NameGrows.j2 k x5 x6 true))
def treemergelaw03_NameGrows.j2 : Nat → ByteArray → Bool → Bool → Option (Bool)
  | 0, _, _, _ => none
  | k + 1, x5, x6, x59 => if x59 = true then ((treemergelaw03_awake.f k).bind fun t258 => (some t258)) else ((treemergelaw03_awake.f k).bind fun t259 => (if t259 = true then ((name_Valid.f x5).bind fun t260 => (some (t260 == x6))) else (some false)))
end
def treemergelaw03_NameGrows.f (k : Nat) (a0 : ByteArray) (a1 : Int) : Option (Bool) := if (a0.size : Int) > 100 then ((treemergelaw03_awake.f k).bind fun t250 => (some t250)) else ((name_Keyword.f a0).bind fun t251 => (if t251 = true then ((name_Valid.f a0).bind fun t252 => (treemergelaw03_NameGrows.j0 k a0 a1 t252)) else (treemergelaw03_NameGrows.j0 k a0 a1 false)))
theorem treemergelaw03_NameGrows.mono_l : ∀ k, (∀ y0 y1 y2, LeO (treemergelaw03_NameGrows.j0 k y0 y1 y2) (treemergelaw03_NameGrows.j0 (k + 1) y0 y1 y2)) ∧ (∀ y0 y1 y2, LeO (treemergelaw03_NameGrows.j1 k y0 y1 y2) (treemergelaw03_NameGrows.j1 (k + 1) y0 y1 y2)) ∧ (∀ y0 y1 y2, LeO (treemergelaw03_NameGrows.j2 k y0 y1 y2) (treemergelaw03_NameGrows.j2 (k + 1) y0 y1 y2))
  | 0 => ⟨fun _ _ _ r h => by simp [treemergelaw03_NameGrows.j0] at h, fun _ _ _ r h => by simp [treemergelaw03_NameGrows.j1] at h, fun _ _ _ r h => by simp [treemergelaw03_NameGrows.j2] at h⟩
  | k + 1 => by
    obtain ⟨ih0, ih1, ih2⟩ := treemergelaw03_NameGrows.mono_l k
    refine ⟨?_, ?_, ?_⟩
    · intro y0 y1 y2
      unfold treemergelaw03_NameGrows.j0
      repeat' first
      | (with_reducible exact ih0 _ _ _)
      | (with_reducible exact ih1 _ _ _)
      | (with_reducible exact ih2 _ _ _)
      | (with_reducible exact treemergelaw03_awake.mono _)
      | (with_reducible exact LeO.refl _)
      | (with_reducible exact LeO.none _)
      | (with_reducible refine LeO.ite ?_ ?_)
      | (with_reducible refine LeO.bind ?_ (fun _ => ?_))
      | exact ih0 _ _ _
      | exact ih1 _ _ _
      | exact ih2 _ _ _
      | exact treemergelaw03_awake.mono _
      | exact LeO.none _
      | refine LeO.ite ?_ ?_
      | refine LeO.bind ?_ (fun _ => ?_)
    · intro y0 y1 y2
      unfold treemergelaw03_NameGrows.j1
      repeat' first
      | (with_reducible exact ih0 _ _ _)
      | (with_reducible exact ih1 _ _ _)
      | (with_reducible exact ih2 _ _ _)
      | (with_reducible exact treemergelaw03_awake.mono _)
      | (with_reducible exact LeO.refl _)
      | (with_reducible exact LeO.none _)
      | (with_reducible refine LeO.ite ?_ ?_)
      | (with_reducible refine LeO.bind ?_ (fun _ => ?_))
      | exact ih0 _ _ _
      | exact ih1 _ _ _
      | exact ih2 _ _ _
      | exact treemergelaw03_awake.mono _
      | exact LeO.none _
      | refine LeO.ite ?_ ?_
      | refine LeO.bind ?_ (fun _ => ?_)
    · intro y0 y1 y2
      unfold treemergelaw03_NameGrows.j2
      repeat' first
      | (with_reducible exact ih0 _ _ _)
      | (with_reducible exact ih1 _ _ _)
      | (with_reducible exact ih2 _ _ _)
      | (with_reducible exact treemergelaw03_awake.mono _)
      | (with_reducible exact LeO.refl _)
      | (with_reducible exact LeO.none _)
      | (with_reducible refine LeO.ite ?_ ?_)
      | (with_reducible refine LeO.bind ?_ (fun _ => ?_))
      | exact ih0 _ _ _
      | exact ih1 _ _ _
      | exact ih2 _ _ _
      | exact treemergelaw03_awake.mono _
      | exact LeO.none _
      | refine LeO.ite ?_ ?_
      | refine LeO.bind ?_ (fun _ => ?_)
theorem treemergelaw03_NameGrows.mono : ∀ a0 a1 k, LeO (treemergelaw03_NameGrows.f k a0 a1) (treemergelaw03_NameGrows.f (k + 1) a0 a1) := by
  intro a0 a1 k
  obtain ⟨ih0, ih1, ih2⟩ := treemergelaw03_NameGrows.mono_l k
  unfold treemergelaw03_NameGrows.f
  repeat' first
      | (with_reducible exact ih0 _ _ _)
      | (with_reducible exact ih1 _ _ _)
      | (with_reducible exact ih2 _ _ _)
      | (with_reducible exact treemergelaw03_awake.mono _)
      | (with_reducible exact LeO.refl _)
      | (with_reducible exact LeO.none _)
      | (with_reducible refine LeO.ite ?_ ?_)
      | (with_reducible refine LeO.bind ?_ (fun _ => ?_))
      | exact ih0 _ _ _
      | exact ih1 _ _ _
      | exact ih2 _ _ _
      | exact treemergelaw03_awake.mono _
      | exact LeO.none _
      | refine LeO.ite ?_ ?_
      | refine LeO.bind ?_ (fun _ => ?_)
set_option maxHeartbeats 8000000 in
set_option maxRecDepth 100000 in
theorem treemergelaw03_NameGrows.calls (k : Nat) (a0 : ByteArray) (a1 : Int) (r : Bool) (w : World) (h : treemergelaw03_NameGrows.f k a0 a1 = some r) :
    Calls Tryd.prog 9 #[.string a0, .int .u8 a1] w fun e w' => e = .returned (.bool r) ∧ Below w.heap.size w w' := by
  have HB := Aside0.mk (Below.refl w.heap.size w)
  have H : (if (a0.size : Int) > 100 then ((treemergelaw03_awake.f k).bind fun t250 => (some t250)) else ((name_Keyword.f a0).bind fun t251 => (if t251 = true then ((name_Valid.f a0).bind fun t252 => (treemergelaw03_NameGrows.j0 k a0 a1 t252)) else (treemergelaw03_NameGrows.j0 k a0 a1 false)))) = some r := h
  clear h
  by_cases c3 : (a0.size : Int) > 100
  · rw [if_pos c3] at H
    have c3b0 : decide (100 < (a0.size : Int)) = true := decide_eq_true c3
    have c3b1 : decide (100 < a0.size) = true := decide_eq_true (by omega)
    clear c3
    replace H := Option.bind_eq_some_iff.mp H
    obtain ⟨t250, A40, H⟩ := H
    replace H : (some t250) = some r := H
    have A4 := Aside0.mk A40
    clear A40
    obtain rfl := Option.some.inj H
    go_enter Tryd.func9, Tryd.ntmps9
    go_wp2_with (first | ((with_reducible refine gate_callee (f := 10) rfl ?_); refine goesL_ (some 10) rfl rfl Tryd.func10 (by kernel_rfl) rfl #[] rfl (by (try simp only [List.map_toArray, List.map_cons, List.map_nil]); first | done | rfl | (simp only [List.length_drop, List.length_take]; rfl)) ?_; (with_reducible refine (treemergelaw03_awake.calls k  t250 _ A4.out).mono ?_); rintro e w5 ⟨rfl, hb⟩; refine ⟨_, rfl, ?_⟩; have n0_ := Aside0.mk (below_step (by repeat (first | (with_reducible first | exact HB.out | apply below_alloc | apply pw_below_drewN | apply below_drew1) | exact HB.out)) hb); clear HB; have HB := n0_; clear n0_; (try clear hb); (try clear hb2); (try clear hk); (try clear hi)))
    go_ret
    exact ⟨by first | rfl | (simp [errW_none, errW_some] <;> rfl) | (simp [*, errW_none, errW_some] <;> rfl), by repeat (first | (with_reducible first | exact HB.out | apply below_alloc | apply pw_below_drewN | apply below_drew1) | exact HB.out)⟩
  · rw [if_neg c3] at H
    have c3b0 : decide (100 < (a0.size : Int)) = false := decide_eq_false c3
    have c3b1 : decide (100 < a0.size) = false := decide_eq_false (by omega)
    clear c3
    have HC6 := Aside0.mk H
    clear H
    go_enter Tryd.func9, Tryd.ntmps9
    go_upto_region 3 with (fail)
    go_cut [16] (fun v16 wc => ∃ (kq : Nat) (x16_5 : Bool), v16 = .bool x16_5 ∧ Aside0 (treemergelaw03_NameGrows.j0 kq a0 a1 x16_5 = some r) ∧ Aside0 (kq ≤ k) ∧ Aside0 (Below w.heap.size w wc))
    case first =>
      have H := HC6.out
      clear HC6
      replace H := Option.bind_eq_some_iff.mp H
      obtain ⟨t251, A70, H⟩ := H
      replace H : (if t251 = true then ((name_Valid.f a0).bind fun t252 => (treemergelaw03_NameGrows.j0 k a0 a1 t252)) else (treemergelaw03_NameGrows.j0 k a0 a1 false)) = some r := H
      have A7 := Aside0.mk A70
      clear A70
      by_cases c8 : t251 = true
      · subst c8
        have H1 : ((name_Valid.f a0).bind fun t252 => (treemergelaw03_NameGrows.j0 k a0 a1 t252)) = some r := by rw [if_pos rfl] at H; exact H
        clear H
        have H := H1
        clear H1
        replace H := Option.bind_eq_some_iff.mp H
        obtain ⟨t252, A90, H⟩ := H
        replace H : (treemergelaw03_NameGrows.j0 k a0 a1 t252) = some r := H
        have A9 := Aside0.mk A90
        clear A90
        have H' := Aside0.mk H
        clear H
        go_wp2_with (first | ((with_reducible refine gate_callee (f := 13) rfl ?_); refine goesL_ (some 12) rfl rfl Tryd.func13 (by kernel_rfl) rfl #[.string a0] rfl (by (try simp only [List.map_toArray, List.map_cons, List.map_nil]); first | done | rfl | (simp only [List.length_drop, List.length_take]; rfl)) ?_; (with_reducible refine (name_Keyword.calls a0 true _ A7.out).mono ?_); rintro e w' ⟨rfl, ⟨nd, rfl⟩⟩; refine ⟨_, rfl, ?_⟩) | (go_at_call 11; (with_reducible refine (name_Valid.calls a0 t252 _ A9.out).mono ?_); rintro e w10 ⟨rfl, hb⟩; have n0_ := Aside0.mk (below_step (by repeat (first | (with_reducible first | exact HB.out | apply below_alloc | apply pw_below_drewN | apply below_drew1) | exact HB.out)) hb); clear HB; have HB := n0_; clear n0_; (try clear hb); (try clear hb2); (try clear hk); (try clear hi)))
        go_meet
        case rel => exact ⟨_, (t252), (by first | rfl | (simp; done) | (simp [*]; done)), H', ⟨by first | omega | exact Nat.le_refl _⟩, ⟨by repeat (first | (with_reducible first | exact HB.out | apply below_alloc | apply pw_below_drewN | apply below_drew1) | exact HB.out)⟩⟩
      · replace c8 := Bool.eq_false_iff.mpr c8
        subst c8
        have H1 : (treemergelaw03_NameGrows.j0 k a0 a1 false) = some r := by rw [if_neg (show ¬ (false = true) by decide)] at H; exact H
        clear H
        have H := H1
        clear H1
        have H' := Aside0.mk H
        clear H
        go_wp2_with (first | ((with_reducible refine gate_callee (f := 13) rfl ?_); refine goesL_ (some 12) rfl rfl Tryd.func13 (by kernel_rfl) rfl #[.string a0] rfl (by (try simp only [List.map_toArray, List.map_cons, List.map_nil]); first | done | rfl | (simp only [List.length_drop, List.length_take]; rfl)) ?_; (with_reducible refine (name_Keyword.calls a0 false _ A7.out).mono ?_); rintro e w' ⟨rfl, ⟨nd, rfl⟩⟩; refine ⟨_, rfl, ?_⟩))
        go_meet
        case rel => exact ⟨_, (false), (by first | rfl | (simp; done) | (simp [*]; done)), H', ⟨by first | omega | exact Nat.le_refl _⟩, ⟨by repeat (first | (with_reducible first | exact HB.out | apply below_alloc | apply pw_below_drewN | apply below_drew1) | exact HB.out)⟩⟩
    case rest =>
      clear HC6
      try clear c1
      try clear p2
      try clear c3
      try clear c3b0
      try clear c3b1
      try clear c8
      try clear c9
      try clear c10
      obtain ⟨kq, x16_5, rfl, HA, HJ5, HB⟩ := hcut
      cases kq with
      | zero => exact absurd HA.out (by simp [treemergelaw03_NameGrows.j0])
      | succ kj5 =>
        have H := HA.out
        clear HA
        simp only [treemergelaw03_NameGrows.j0] at H
        by_cases c11 : x16_5 = true
        · subst c11
          have H1 : (some false) = some r := by rw [if_pos rfl] at H; exact H
          clear H
          have H := H1
          clear H1
          obtain rfl := Option.some.inj H
          go_wp2
          go_ret
          exact ⟨by first | rfl | (simp [errW_none, errW_some] <;> rfl) | (simp [*, errW_none, errW_some] <;> rfl), by repeat (first | (with_reducible first | exact HB.out | apply below_alloc | apply pw_below_drewN | apply below_drew1) | exact HB.out)⟩
        · replace c11 := Bool.eq_false_iff.mpr c11
          subst c11
          have H1 : ((some (([a1] : List Int) : List Int)).bind fun y253 => (if a0.size + (strOfNums y253).size ≤ 9223372036854775807 then (if a1 ≥ 97 then (if a1 ≤ 122 then (treemergelaw03_NameGrows.j1 kj5 a0 (a0 ++ (strOfNums y253)) true) else (if a1 ≥ 65 then (if a1 ≤ 90 then (treemergelaw03_NameGrows.j1 kj5 a0 (a0 ++ (strOfNums y253)) true) else (if a1 ≥ 48 then (if a1 ≤ 57 then (treemergelaw03_NameGrows.j1 kj5 a0 (a0 ++ (strOfNums y253)) true) else (treemergelaw03_NameGrows.j1 kj5 a0 (a0 ++ (strOfNums y253)) (a1 == 95))) else (treemergelaw03_NameGrows.j1 kj5 a0 (a0 ++ (strOfNums y253)) (a1 == 95)))) else (if a1 ≥ 48 then (if a1 ≤ 57 then (treemergelaw03_NameGrows.j1 kj5 a0 (a0 ++ (strOfNums y253)) true) else (treemergelaw03_NameGrows.j1 kj5 a0 (a0 ++ (strOfNums y253)) (a1 == 95))) else (treemergelaw03_NameGrows.j1 kj5 a0 (a0 ++ (strOfNums y253)) (a1 == 95))))) else (if a1 ≥ 65 then (if a1 ≤ 90 then (treemergelaw03_NameGrows.j1 kj5 a0 (a0 ++ (strOfNums y253)) true) else (if a1 ≥ 48 then (if a1 ≤ 57 then (treemergelaw03_NameGrows.j1 kj5 a0 (a0 ++ (strOfNums y253)) true) else (treemergelaw03_NameGrows.j1 kj5 a0 (a0 ++ (strOfNums y253)) (a1 == 95))) else (treemergelaw03_NameGrows.j1 kj5 a0 (a0 ++ (strOfNums y253)) (a1 == 95)))) else (if a1 ≥ 48 then (if a1 ≤ 57 then (treemergelaw03_NameGrows.j1 kj5 a0 (a0 ++ (strOfNums y253)) true) else (treemergelaw03_NameGrows.j1 kj5 a0 (a0 ++ (strOfNums y253)) (a1 == 95))) else (treemergelaw03_NameGrows.j1 kj5 a0 (a0 ++ (strOfNums y253)) (a1 == 95))))) else (none))) = some r := by rw [if_neg (show ¬ (false = true) by decide)] at H; exact H
          clear H
          have H := H1
          clear H1
          obtain ⟨y253, hy253⟩ : ∃ y_ : List Int, y_ = (([a1] : List Int)) := ⟨_, rfl⟩
          replace H : (if a0.size + (strOfNums y253).size ≤ 9223372036854775807 then (if a1 ≥ 97 then (if a1 ≤ 122 then (treemergelaw03_NameGrows.j1 kj5 a0 (a0 ++ (strOfNums y253)) true) else (if a1 ≥ 65 then (if a1 ≤ 90 then (treemergelaw03_NameGrows.j1 kj5 a0 (a0 ++ (strOfNums y253)) true) else (if a1 ≥ 48 then (if a1 ≤ 57 then (treemergelaw03_NameGrows.j1 kj5 a0 (a0 ++ (strOfNums y253)) true) else (treemergelaw03_NameGrows.j1 kj5 a0 (a0 ++ (strOfNums y253)) (a1 == 95))) else (treemergelaw03_NameGrows.j1 kj5 a0 (a0 ++ (strOfNums y253)) (a1 == 95)))) else (if a1 ≥ 48 then (if a1 ≤ 57 then (treemergelaw03_NameGrows.j1 kj5 a0 (a0 ++ (strOfNums y253)) true) else (treemergelaw03_NameGrows.j1 kj5 a0 (a0 ++ (strOfNums y253)) (a1 == 95))) else (treemergelaw03_NameGrows.j1 kj5 a0 (a0 ++ (strOfNums y253)) (a1 == 95))))) else (if a1 ≥ 65 then (if a1 ≤ 90 then (treemergelaw03_NameGrows.j1 kj5 a0 (a0 ++ (strOfNums y253)) true) else (if a1 ≥ 48 then (if a1 ≤ 57 then (treemergelaw03_NameGrows.j1 kj5 a0 (a0 ++ (strOfNums y253)) true) else (treemergelaw03_NameGrows.j1 kj5 a0 (a0 ++ (strOfNums y253)) (a1 == 95))) else (treemergelaw03_NameGrows.j1 kj5 a0 (a0 ++ (strOfNums y253)) (a1 == 95)))) else (if a1 ≥ 48 then (if a1 ≤ 57 then (treemergelaw03_NameGrows.j1 kj5 a0 (a0 ++ (strOfNums y253)) true) else (treemergelaw03_NameGrows.j1 kj5 a0 (a0 ++ (strOfNums y253)) (a1 == 95))) else (treemergelaw03_NameGrows.j1 kj5 a0 (a0 ++ (strOfNums y253)) (a1 == 95))))) else (none)) = some r := by first | (rw [hy253]; with_reducible exact H) | (have H2_ := (Option.bind_some _ _).symm.trans H; rw [hy253]; with_reducible exact H2_) | (have H2_ := (Option.bind_some _ _).symm.trans H; with_reducible exact H2_) | with_reducible exact H | (rw [hy253]; exact H) | exact H
          have Ny253 := Aside0.mk hy253
          clear hy253
          by_cases c12 : a0.size + (strOfNums y253).size ≤ 9223372036854775807
          · rw [if_pos c12] at H
            have c12b0 := eq_true c12
            have c12b1 : decide (a0.size + (strOfNums y253).size ≤ 9223372036854775807) = true := decide_eq_true c12
            try have c12b2 : (9223372036854775807 < a0.size + (strOfNums y253).size) = False := eq_false (Nat.not_lt.2 c12)
            have HC13 := Aside0.mk H
            clear H
            go_upto_region 6 with (first | ((with_reducible refine gate_dst (N := 19) rfl ?_); (try (refine gate_guard (by rfl) ?_; dsimp only)); refine Kd.R_lit (Kd.int .u8) _ 5 ?hg (N := 19) ?hd (xs := ([a1] : List Int)) (inner := [.int .u8 a1]) (ok := fun _ => True) (okp := fun _ => True) ?hr ?hp (fun _ hk => hk) trivial (Below.refl _ _) (Nat.le_refl _) (by simp) ?_; (case hd => rfl); (case hg => rfl); (case hr => first | (go_simp; done) | (go_simp; rfl)); (case hp => exact (Reps.one (show Kd.M (Kd.int .u8) _ _ _ a1 [.int .u8 a1] from rfl) (Reps.none _ _))); intro v254 w14 ho15 hb hg_ hnew_; clear hg_ hnew_; (first | rw [← Ny253.out] at ho15 | (simp only [Int.reduceToNat] at ho15; rw [← Ny253.out] at ho15)); have n0_ := Aside0.mk (Kd.R_lower ho15 (below_size (by repeat (first | (with_reducible first | exact HB.out | apply below_alloc | apply pw_below_drewN | apply below_drew1) | exact HB.out)))); have n1_ := Aside0.mk (below_step (by repeat (first | (with_reducible first | exact HB.out | apply below_alloc | apply pw_below_drewN | apply below_drew1) | exact HB.out)) hb); clear HB; have HO255 := n0_; have HB := n1_; clear n0_ n1_; clear hb ho15; have hcv16 := own_string (P := Tryd.prog) Tryd.underlying34 Tryd.underlying5 Tryd.underlying9 (Kd.own_of_R HO255.out)))
            (try simp only [Act.put, List.setIfInBounds_toArray, List.set_cons_zero, List.set_cons_succ])
            go_cut [6] (fun v6 wc => ∃ (kq : Nat) (x6_12 : Bool), v6 = .bool x6_12 ∧ Aside0 (treemergelaw03_NameGrows.j1 kq a0 (a0 ++ (strOfNums y253)) x6_12 = some r) ∧ Aside0 (kq ≤ kj5) ∧ Aside0 (Below w.heap.size w wc))
            case first =>
              have H := HC13.out
              clear HC13
              by_cases c17 : a1 ≥ 97
              · rw [if_pos c17] at H
                have c17b0 : decide (97 ≤ a1) = true := decide_eq_true c17
                clear c17
                (first | rw [c17b0] | (simp only [i64_w, i32_w]; rw [c17b0]) | skip)
                by_cases c18 : a1 ≤ 122
                · rw [if_pos c18] at H
                  have c18b0 : decide (a1 ≤ 122) = true := decide_eq_true c18
                  clear c18
                  have H' := Aside0.mk H
                  clear H
                  go_wp2
                  go_meet
                  case rel => exact ⟨_, (true), (by first | rfl | (simp; done) | (simp [*]; done)), H', ⟨by have := HJ5.out; first | omega | exact Nat.le_refl _⟩, ⟨by repeat (first | (with_reducible first | exact HB.out | apply below_alloc | apply pw_below_drewN | apply below_drew1) | exact HB.out)⟩⟩
                · rw [if_neg c18] at H
                  have c18b0 : decide (a1 ≤ 122) = false := decide_eq_false c18
                  clear c18
                  by_cases c19 : a1 ≥ 65
                  · rw [if_pos c19] at H
                    have c19b0 : decide (65 ≤ a1) = true := decide_eq_true c19
                    clear c19
                    by_cases c20 : a1 ≤ 90
                    · rw [if_pos c20] at H
                      have c20b0 : decide (a1 ≤ 90) = true := decide_eq_true c20
                      clear c20
                      have H' := Aside0.mk H
                      clear H
                      go_wp2
                      go_meet
                      case rel => exact ⟨_, (true), (by first | rfl | (simp; done) | (simp [*]; done)), H', ⟨by have := HJ5.out; first | omega | exact Nat.le_refl _⟩, ⟨by repeat (first | (with_reducible first | exact HB.out | apply below_alloc | apply pw_below_drewN | apply below_drew1) | exact HB.out)⟩⟩
                    · rw [if_neg c20] at H
                      have c20b0 : decide (a1 ≤ 90) = false := decide_eq_false c20
                      clear c20
                      by_cases c21 : a1 ≥ 48
                      · rw [if_pos c21] at H
                        have c21b0 : decide (48 ≤ a1) = true := decide_eq_true c21
                        clear c21
                        by_cases c22 : a1 ≤ 57
                        · rw [if_pos c22] at H
                          have c22b0 : decide (a1 ≤ 57) = true := decide_eq_true c22
                          clear c22
                          have H' := Aside0.mk H
                          clear H
                          go_wp2
                          go_meet
                          case rel => exact ⟨_, (true), (by first | rfl | (simp; done) | (simp [*]; done)), H', ⟨by have := HJ5.out; first | omega | exact Nat.le_refl _⟩, ⟨by repeat (first | (with_reducible first | exact HB.out | apply below_alloc | apply pw_below_drewN | apply below_drew1) | exact HB.out)⟩⟩
                        · rw [if_neg c22] at H
                          have c22b0 : decide (a1 ≤ 57) = false := decide_eq_false c22
                          clear c22
                          have H' := Aside0.mk H
                          clear H
                          go_wp2
                          go_meet
                          case rel => exact ⟨_, ((a1 == 95)), (by first | rfl | (simp; done) | (simp [*]; done)), H', ⟨by have := HJ5.out; first | omega | exact Nat.le_refl _⟩, ⟨by repeat (first | (with_reducible first | exact HB.out | apply below_alloc | apply pw_below_drewN | apply below_drew1) | exact HB.out)⟩⟩
                      · rw [if_neg c21] at H
                        have c21b0 : decide (48 ≤ a1) = false := decide_eq_false c21
                        clear c21
                        have H' := Aside0.mk H
                        clear H
                        go_wp2
                        go_meet
                        case rel => exact ⟨_, ((a1 == 95)), (by first | rfl | (simp; done) | (simp [*]; done)), H', ⟨by have := HJ5.out; first | omega | exact Nat.le_refl _⟩, ⟨by repeat (first | (with_reducible first | exact HB.out | apply below_alloc | apply pw_below_drewN | apply below_drew1) | exact HB.out)⟩⟩
                  · rw [if_neg c19] at H
                    have c19b0 : decide (65 ≤ a1) = false := decide_eq_false c19
                    clear c19
                    by_cases c23 : a1 ≥ 48
                    · rw [if_pos c23] at H
                      have c23b0 : decide (48 ≤ a1) = true := decide_eq_true c23
                      clear c23
                      by_cases c24 : a1 ≤ 57
                      · rw [if_pos c24] at H
                        have c24b0 : decide (a1 ≤ 57) = true := decide_eq_true c24
                        clear c24
                        have H' := Aside0.mk H
                        clear H
                        go_wp2
                        go_meet
                        case rel => exact ⟨_, (true), (by first | rfl | (simp; done) | (simp [*]; done)), H', ⟨by have := HJ5.out; first | omega | exact Nat.le_refl _⟩, ⟨by repeat (first | (with_reducible first | exact HB.out | apply below_alloc | apply pw_below_drewN | apply below_drew1) | exact HB.out)⟩⟩
                      · rw [if_neg c24] at H
                        have c24b0 : decide (a1 ≤ 57) = false := decide_eq_false c24
                        clear c24
                        have H' := Aside0.mk H
                        clear H
                        go_wp2
                        go_meet
                        case rel => exact ⟨_, ((a1 == 95)), (by first | rfl | (simp; done) | (simp [*]; done)), H', ⟨by have := HJ5.out; first | omega | exact Nat.le_refl _⟩, ⟨by repeat (first | (with_reducible first | exact HB.out | apply below_alloc | apply pw_below_drewN | apply below_drew1) | exact HB.out)⟩⟩
                    · rw [if_neg c23] at H
                      have c23b0 : decide (48 ≤ a1) = false := decide_eq_false c23
                      clear c23
                      have H' := Aside0.mk H
                      clear H
                      go_wp2
                      go_meet
                      case rel => exact ⟨_, ((a1 == 95)), (by first | rfl | (simp; done) | (simp [*]; done)), H', ⟨by have := HJ5.out; first | omega | exact Nat.le_refl _⟩, ⟨by repeat (first | (with_reducible first | exact HB.out | apply below_alloc | apply pw_below_drewN | apply below_drew1) | exact HB.out)⟩⟩
              · rw [if_neg c17] at H
                have c17b0 : decide (97 ≤ a1) = false := decide_eq_false c17
                clear c17
                (first | rw [c17b0] | (simp only [i64_w, i32_w]; rw [c17b0]) | skip)
                by_cases c25 : a1 ≥ 65
                · rw [if_pos c25] at H
                  have c25b0 : decide (65 ≤ a1) = true := decide_eq_true c25
                  clear c25
                  by_cases c26 : a1 ≤ 90
                  · rw [if_pos c26] at H
                    have c26b0 : decide (a1 ≤ 90) = true := decide_eq_true c26
                    clear c26
                    have H' := Aside0.mk H
                    clear H
                    go_wp2
                    go_meet
                    case rel => exact ⟨_, (true), (by first | rfl | (simp; done) | (simp [*]; done)), H', ⟨by have := HJ5.out; first | omega | exact Nat.le_refl _⟩, ⟨by repeat (first | (with_reducible first | exact HB.out | apply below_alloc | apply pw_below_drewN | apply below_drew1) | exact HB.out)⟩⟩
                  · rw [if_neg c26] at H
                    have c26b0 : decide (a1 ≤ 90) = false := decide_eq_false c26
                    clear c26
                    by_cases c27 : a1 ≥ 48
                    · rw [if_pos c27] at H
                      have c27b0 : decide (48 ≤ a1) = true := decide_eq_true c27
                      clear c27
                      by_cases c28 : a1 ≤ 57
                      · rw [if_pos c28] at H
                        have c28b0 : decide (a1 ≤ 57) = true := decide_eq_true c28
                        clear c28
                        have H' := Aside0.mk H
                        clear H
                        go_wp2
                        go_meet
                        case rel => exact ⟨_, (true), (by first | rfl | (simp; done) | (simp [*]; done)), H', ⟨by have := HJ5.out; first | omega | exact Nat.le_refl _⟩, ⟨by repeat (first | (with_reducible first | exact HB.out | apply below_alloc | apply pw_below_drewN | apply below_drew1) | exact HB.out)⟩⟩
                      · rw [if_neg c28] at H
                        have c28b0 : decide (a1 ≤ 57) = false := decide_eq_false c28
                        clear c28
                        have H' := Aside0.mk H
                        clear H
                        go_wp2
                        go_meet
                        case rel => exact ⟨_, ((a1 == 95)), (by first | rfl | (simp; done) | (simp [*]; done)), H', ⟨by have := HJ5.out; first | omega | exact Nat.le_refl _⟩, ⟨by repeat (first | (with_reducible first | exact HB.out | apply below_alloc | apply pw_below_drewN | apply below_drew1) | exact HB.out)⟩⟩
                    · rw [if_neg c27] at H
                      have c27b0 : decide (48 ≤ a1) = false := decide_eq_false c27
                      clear c27
                      have H' := Aside0.mk H
                      clear H
                      go_wp2
                      go_meet
                      case rel => exact ⟨_, ((a1 == 95)), (by first | rfl | (simp; done) | (simp [*]; done)), H', ⟨by have := HJ5.out; first | omega | exact Nat.le_refl _⟩, ⟨by repeat (first | (with_reducible first | exact HB.out | apply below_alloc | apply pw_below_drewN | apply below_drew1) | exact HB.out)⟩⟩
                · rw [if_neg c25] at H
                  have c25b0 : decide (65 ≤ a1) = false := decide_eq_false c25
                  clear c25
                  by_cases c29 : a1 ≥ 48
                  · rw [if_pos c29] at H
                    have c29b0 : decide (48 ≤ a1) = true := decide_eq_true c29
                    clear c29
                    by_cases c30 : a1 ≤ 57
                    · rw [if_pos c30] at H
                      have c30b0 : decide (a1 ≤ 57) = true := decide_eq_true c30
                      clear c30
                      have H' := Aside0.mk H
                      clear H
                      go_wp2
                      go_meet
                      case rel => exact ⟨_, (true), (by first | rfl | (simp; done) | (simp [*]; done)), H', ⟨by have := HJ5.out; first | omega | exact Nat.le_refl _⟩, ⟨by repeat (first | (with_reducible first | exact HB.out | apply below_alloc | apply pw_below_drewN | apply below_drew1) | exact HB.out)⟩⟩
                    · rw [if_neg c30] at H
                      have c30b0 : decide (a1 ≤ 57) = false := decide_eq_false c30
                      clear c30
                      have H' := Aside0.mk H
                      clear H
                      go_wp2
                      go_meet
                      case rel => exact ⟨_, ((a1 == 95)), (by first | rfl | (simp; done) | (simp [*]; done)), H', ⟨by have := HJ5.out; first | omega | exact Nat.le_refl _⟩, ⟨by repeat (first | (with_reducible first | exact HB.out | apply below_alloc | apply pw_below_drewN | apply below_drew1) | exact HB.out)⟩⟩
                  · rw [if_neg c29] at H
                    have c29b0 : decide (48 ≤ a1) = false := decide_eq_false c29
                    clear c29
                    have H' := Aside0.mk H
                    clear H
                    go_wp2
                    go_meet
                    case rel => exact ⟨_, ((a1 == 95)), (by first | rfl | (simp; done) | (simp [*]; done)), H', ⟨by have := HJ5.out; first | omega | exact Nat.le_refl _⟩, ⟨by repeat (first | (with_reducible first | exact HB.out | apply below_alloc | apply pw_below_drewN | apply below_drew1) | exact HB.out)⟩⟩
            case rest =>
              clear HC13
              try clear c1
              try clear hcv1
              try clear c2
              try clear p2
              try clear c3
              try clear c3b0
              try clear c3b1
              try clear c8
              try clear c9
              try clear c10
              try clear c11
              try clear c12
              try clear c12b0
              try clear c12b1
              try clear c12b2
              try clear c13
              try clear hcv16
              try clear c17
              try clear c17b0
              try clear c18
              try clear c18b0
              try clear c19
              try clear c19b0
              try clear c20
              try clear c20b0
              try clear c21
              try clear c21b0
              try clear c22
              try clear c22b0
              try clear c23
              try clear c23b0
              try clear c24
              try clear c24b0
              try clear c25
              try clear c25b0
              try clear c26
              try clear c26b0
              try clear c27
              try clear c27b0
              try clear c28
              try clear c28b0
              try clear c29
              try clear c29b0
              try clear c30
              try clear c30b0
              try clear p2
              obtain ⟨kq, x6_12, rfl, HA, HJ12, HB⟩ := hcut
              cases kq with
              | zero => exact absurd HA.out (by simp [treemergelaw03_NameGrows.j1])
              | succ kj12 =>
                have H := HA.out
                clear HA
                simp only [treemergelaw03_NameGrows.j1] at H
                have HC31 := Aside0.mk H
                clear H
                go_upto_region 7 with (fail)
                go_cut [59] (fun v59 wc => ∃ (kq : Nat) (x59_30 : Bool), v59 = .bool x59_30 ∧ Aside0 (treemergelaw03_NameGrows.j2 kq (a0 ++ (strOfNums y253)) x6_12 x59_30 = some r) ∧ Aside0 (kq ≤ kj12) ∧ Aside0 (Below w.heap.size w wc))
                case first =>
                  have H := HC31.out
                  clear HC31
                  replace H := Option.bind_eq_some_iff.mp H
                  obtain ⟨t256, A320, H⟩ := H
                  replace H : (if t256 = true then (if ((a0 ++ (strOfNums y253)).size : Int) > 32 then (treemergelaw03_NameGrows.j2 kj12 (a0 ++ (strOfNums y253)) x6_12 true) else ((name_Keyword.f (a0 ++ (strOfNums y253))).bind fun t257 => (treemergelaw03_NameGrows.j2 kj12 (a0 ++ (strOfNums y253)) x6_12 t257))) else (treemergelaw03_NameGrows.j2 kj12 (a0 ++ (strOfNums y253)) x6_12 true)) = some r := H
                  have A32 := Aside0.mk A320
                  clear A320
                  by_cases c33 : t256 = true
                  · subst c33
                    have H1 : (if ((a0 ++ (strOfNums y253)).size : Int) > 32 then (treemergelaw03_NameGrows.j2 kj12 (a0 ++ (strOfNums y253)) x6_12 true) else ((name_Keyword.f (a0 ++ (strOfNums y253))).bind fun t257 => (treemergelaw03_NameGrows.j2 kj12 (a0 ++ (strOfNums y253)) x6_12 t257))) = some r := by rw [if_pos rfl] at H; exact H
                    clear H
                    have H := H1
                    clear H1
                    by_cases c34 : ((a0 ++ (strOfNums y253)).size : Int) > 32
                    · rw [if_pos c34] at H
                      have c34b0 : decide (32 < ((a0 ++ (strOfNums y253)).size : Int)) = true := decide_eq_true c34
                      have c34b1 : decide (32 < (a0 ++ (strOfNums y253)).size) = true := decide_eq_true (by omega)
                      have c34b2 : decide (32 < ((a0.size : Int) + ((strOfNums y253).size : Int))) = true := decide_eq_true (by have h_ := c34; rw [ByteArray.size_append] at h_; omega)
                      clear c34
                      (first | rw [c34b0] | (simp only [i64_w, i32_w]; rw [c34b0]) | skip)
                      have H' := Aside0.mk H
                      clear H
                      go_wp2_with (first | ((with_reducible refine gate_callee (f := 11) rfl ?_); refine goesL_ (some 49) rfl rfl Tryd.func11 (by kernel_rfl) rfl #[.string a0] rfl (by (try simp only [List.map_toArray, List.map_cons, List.map_nil]); first | done | rfl | (simp only [List.length_drop, List.length_take]; rfl)) ?_; (with_reducible refine (name_Valid.calls a0 true _ A32.out).mono ?_); rintro e w35 ⟨rfl, hb⟩; refine ⟨_, rfl, ?_⟩; have n0_ := Aside0.mk (below_step (by repeat (first | (with_reducible first | exact HB.out | apply below_alloc | apply pw_below_drewN | apply below_drew1) | exact HB.out)) hb); clear HB; have HB := n0_; clear n0_; (try clear hb); (try clear hb2); (try clear hk); (try clear hi)))
                      go_meet
                      case rel => exact ⟨_, (true), (by first | rfl | (simp; done) | (simp [*]; done)), H', ⟨by have := HJ5.out; have := HJ12.out; first | omega | exact Nat.le_refl _⟩, ⟨by repeat (first | (with_reducible first | exact HB.out | apply below_alloc | apply pw_below_drewN | apply below_drew1) | exact HB.out)⟩⟩
                    · rw [if_neg c34] at H
                      have c34b0 : decide (32 < ((a0 ++ (strOfNums y253)).size : Int)) = false := decide_eq_false c34
                      have c34b1 : decide (32 < (a0 ++ (strOfNums y253)).size) = false := decide_eq_false (by omega)
                      have c34b2 : decide (32 < ((a0.size : Int) + ((strOfNums y253).size : Int))) = false := decide_eq_false (by have h_ := c34; rw [ByteArray.size_append] at h_; omega)
                      clear c34
                      (first | rw [c34b0] | (simp only [i64_w, i32_w]; rw [c34b0]) | skip)
                      replace H := Option.bind_eq_some_iff.mp H
                      obtain ⟨t257, A360, H⟩ := H
                      replace H : (treemergelaw03_NameGrows.j2 kj12 (a0 ++ (strOfNums y253)) x6_12 t257) = some r := H
                      have A36 := Aside0.mk A360
                      clear A360
                      have H' := Aside0.mk H
                      clear H
                      go_wp2_with (first | ((with_reducible refine gate_callee (f := 11) rfl ?_); refine goesL_ (some 49) rfl rfl Tryd.func11 (by kernel_rfl) rfl #[.string a0] rfl (by (try simp only [List.map_toArray, List.map_cons, List.map_nil]); first | done | rfl | (simp only [List.length_drop, List.length_take]; rfl)) ?_; (with_reducible refine (name_Valid.calls a0 true _ A32.out).mono ?_); rintro e w37 ⟨rfl, hb⟩; refine ⟨_, rfl, ?_⟩; have n0_ := Aside0.mk (below_step (by repeat (first | (with_reducible first | exact HB.out | apply below_alloc | apply pw_below_drewN | apply below_drew1) | exact HB.out)) hb); clear HB; have HB := n0_; clear n0_; (try clear hb); (try clear hb2); (try clear hk); (try clear hi)) | (go_at_call 13; (with_reducible refine (name_Keyword.calls (a0 ++ (strOfNums y253)) t257 _ A36.out).mono ?_); rintro e w' ⟨rfl, ⟨nd, rfl⟩⟩))
                      go_meet
                      case rel => exact ⟨_, (t257), (by first | rfl | (simp; done) | (simp [*]; done)), H', ⟨by have := HJ5.out; have := HJ12.out; first | omega | exact Nat.le_refl _⟩, ⟨by repeat (first | (with_reducible first | exact HB.out | apply below_alloc | apply pw_below_drewN | apply below_drew1) | exact HB.out)⟩⟩
                  · replace c33 := Bool.eq_false_iff.mpr c33
                    subst c33
                    have H1 : (treemergelaw03_NameGrows.j2 kj12 (a0 ++ (strOfNums y253)) x6_12 true) = some r := by rw [if_neg (show ¬ (false = true) by decide)] at H; exact H
                    clear H
                    have H := H1
                    clear H1
                    have H' := Aside0.mk H
                    clear H
                    go_wp2_with (first | ((with_reducible refine gate_callee (f := 11) rfl ?_); refine goesL_ (some 49) rfl rfl Tryd.func11 (by kernel_rfl) rfl #[.string a0] rfl (by (try simp only [List.map_toArray, List.map_cons, List.map_nil]); first | done | rfl | (simp only [List.length_drop, List.length_take]; rfl)) ?_; (with_reducible refine (name_Valid.calls a0 false _ A32.out).mono ?_); rintro e w38 ⟨rfl, hb⟩; refine ⟨_, rfl, ?_⟩; have n0_ := Aside0.mk (below_step (by repeat (first | (with_reducible first | exact HB.out | apply below_alloc | apply pw_below_drewN | apply below_drew1) | exact HB.out)) hb); clear HB; have HB := n0_; clear n0_; (try clear hb); (try clear hb2); (try clear hk); (try clear hi)))
                    go_meet
                    case rel => exact ⟨_, (true), (by first | rfl | (simp; done) | (simp [*]; done)), H', ⟨by have := HJ5.out; have := HJ12.out; first | omega | exact Nat.le_refl _⟩, ⟨by repeat (first | (with_reducible first | exact HB.out | apply below_alloc | apply pw_below_drewN | apply below_drew1) | exact HB.out)⟩⟩
                case rest =>
                  clear HC31
                  try clear c1
                  try clear hcv1
                  try clear c2
                  try clear p2
                  try clear c3
                  try clear c3b0
                  try clear c3b1
                  try clear c8
                  try clear c9
                  try clear c10
                  try clear c11
                  try clear c12
                  try clear c12b0
                  try clear c12b1
                  try clear c12b2
                  try clear c13
                  try clear hcv16
                  try clear c17
                  try clear c17b0
                  try clear c18
                  try clear c18b0
                  try clear c19
                  try clear c19b0
                  try clear c20
                  try clear c20b0
                  try clear c21
                  try clear c21b0
                  try clear c22
                  try clear c22b0
                  try clear c23
                  try clear c23b0
                  try clear c24
                  try clear c24b0
                  try clear c25
                  try clear c25b0
                  try clear c26
                  try clear c26b0
                  try clear c27
                  try clear c27b0
                  try clear c28
                  try clear c28b0
                  try clear c29
                  try clear c29b0
                  try clear c30
                  try clear c30b0
                  try clear c33
                  try clear c34
                  try clear c34b0
                  try clear c34b1
                  try clear c34b2
                  try clear p2
                  obtain ⟨kq, x59_30, rfl, HA, HJ30, HB⟩ := hcut
                  cases kq with
                  | zero => exact absurd HA.out (by simp [treemergelaw03_NameGrows.j2])
                  | succ kj30 =>
                    have H := HA.out
                    clear HA
                    simp only [treemergelaw03_NameGrows.j2] at H
                    by_cases c39 : x59_30 = true
                    · subst c39
                      have H1 : ((treemergelaw03_awake.f kj30).bind fun t258 => (some t258)) = some r := by rw [if_pos rfl] at H; exact H
                      clear H
                      have H := H1
                      clear H1
                      replace H := Option.bind_eq_some_iff.mp H
                      obtain ⟨t258, A400, H⟩ := H
                      replace H : (some t258) = some r := H
                      have A40 := Aside0.mk A400
                      clear A400
                      obtain rfl := Option.some.inj H
                      go_wp2_with (first | ((with_reducible refine gate_callee (f := 10) rfl ?_); refine goesL_ (some 60) rfl rfl Tryd.func10 (by kernel_rfl) rfl #[] rfl (by (try simp only [List.map_toArray, List.map_cons, List.map_nil]); first | done | rfl | (simp only [List.length_drop, List.length_take]; rfl)) ?_; (with_reducible refine (treemergelaw03_awake.calls kj30  t258 _ A40.out).mono ?_); rintro e w41 ⟨rfl, hb⟩; refine ⟨_, rfl, ?_⟩; have n0_ := Aside0.mk (below_step (by repeat (first | (with_reducible first | exact HB.out | apply below_alloc | apply pw_below_drewN | apply below_drew1) | exact HB.out)) hb); clear HB; have HB := n0_; clear n0_; (try clear hb); (try clear hb2); (try clear hk); (try clear hi)))
                      go_ret
                      exact ⟨by first | rfl | (simp [errW_none, errW_some] <;> rfl) | (simp [*, errW_none, errW_some] <;> rfl), by repeat (first | (with_reducible first | exact HB.out | apply below_alloc | apply pw_below_drewN | apply below_drew1) | exact HB.out)⟩
                    · replace c39 := Bool.eq_false_iff.mpr c39
                      subst c39
                      have H1 : ((treemergelaw03_awake.f kj30).bind fun t259 => (if t259 = true then ((name_Valid.f (a0 ++ (strOfNums y253))).bind fun t260 => (some (t260 == x6_12))) else (some false))) = some r := by rw [if_neg (show ¬ (false = true) by decide)] at H; exact H
                      clear H
                      have H := H1
                      clear H1
                      replace H := Option.bind_eq_some_iff.mp H
                      obtain ⟨t259, A420, H⟩ := H
                      replace H : (if t259 = true then ((name_Valid.f (a0 ++ (strOfNums y253))).bind fun t260 => (some (t260 == x6_12))) else (some false)) = some r := H
                      have A42 := Aside0.mk A420
                      clear A420
                      by_cases c43 : t259 = true
                      · subst c43
                        have H1 : ((name_Valid.f (a0 ++ (strOfNums y253))).bind fun t260 => (some (t260 == x6_12))) = some r := by rw [if_pos rfl] at H; exact H
                        clear H
                        have H := H1
                        clear H1
                        replace H := Option.bind_eq_some_iff.mp H
                        obtain ⟨t260, A440, H⟩ := H
                        replace H : (some (t260 == x6_12)) = some r := H
                        have A44 := Aside0.mk A440
                        clear A440
                        obtain rfl := Option.some.inj H
                        go_wp2_with (first | ((with_reducible refine gate_callee (f := 10) rfl ?_); refine goesL_ (some 61) rfl rfl Tryd.func10 (by kernel_rfl) rfl #[] rfl (by (try simp only [List.map_toArray, List.map_cons, List.map_nil]); first | done | rfl | (simp only [List.length_drop, List.length_take]; rfl)) ?_; (with_reducible refine (treemergelaw03_awake.calls kj30  true _ A42.out).mono ?_); rintro e w45 ⟨rfl, hb⟩; refine ⟨_, rfl, ?_⟩; have n0_ := Aside0.mk (below_step (by repeat (first | (with_reducible first | exact HB.out | apply below_alloc | apply pw_below_drewN | apply below_drew1) | exact HB.out)) hb); clear HB; have HB := n0_; clear n0_; (try clear hb); (try clear hb2); (try clear hk); (try clear hi)) | (go_at_call 11; (with_reducible refine (name_Valid.calls (a0 ++ (strOfNums y253)) t260 _ A44.out).mono ?_); rintro e w46 ⟨rfl, hb⟩; have n0_ := Aside0.mk (below_step (by repeat (first | (with_reducible first | exact HB.out | apply below_alloc | apply pw_below_drewN | apply below_drew1) | exact HB.out)) hb); clear HB; have HB := n0_; clear n0_; (try clear hb); (try clear hb2); (try clear hk); (try clear hi)))
                        go_ret
                        exact ⟨by first | rfl | (simp [errW_none, errW_some] <;> rfl) | (simp [*, errW_none, errW_some] <;> rfl), by repeat (first | (with_reducible first | exact HB.out | apply below_alloc | apply pw_below_drewN | apply below_drew1) | exact HB.out)⟩
                      · replace c43 := Bool.eq_false_iff.mpr c43
                        subst c43
                        have H1 : (some false) = some r := by rw [if_neg (show ¬ (false = true) by decide)] at H; exact H
                        clear H
                        have H := H1
                        clear H1
                        obtain rfl := Option.some.inj H
                        go_wp2_with (first | ((with_reducible refine gate_callee (f := 10) rfl ?_); refine goesL_ (some 61) rfl rfl Tryd.func10 (by kernel_rfl) rfl #[] rfl (by (try simp only [List.map_toArray, List.map_cons, List.map_nil]); first | done | rfl | (simp only [List.length_drop, List.length_take]; rfl)) ?_; (with_reducible refine (treemergelaw03_awake.calls kj30  false _ A42.out).mono ?_); rintro e w47 ⟨rfl, hb⟩; refine ⟨_, rfl, ?_⟩; have n0_ := Aside0.mk (below_step (by repeat (first | (with_reducible first | exact HB.out | apply below_alloc | apply pw_below_drewN | apply below_drew1) | exact HB.out)) hb); clear HB; have HB := n0_; clear n0_; (try clear hb); (try clear hb2); (try clear hk); (try clear hi)))
                        go_ret
                        exact ⟨by first | rfl | (simp [errW_none, errW_some] <;> rfl) | (simp [*, errW_none, errW_some] <;> rfl), by repeat (first | (with_reducible first | exact HB.out | apply below_alloc | apply pw_below_drewN | apply below_drew1) | exact HB.out)⟩
          · rw [if_neg c12] at H
            exact absurd H (by simp)

end Go.Proofs.YtjkdgbndpdfkiaaDoor.Q
