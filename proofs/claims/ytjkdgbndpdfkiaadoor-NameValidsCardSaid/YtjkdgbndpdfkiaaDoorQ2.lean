-- Written by a program of this session (mk.py) out of the translation; Lean checks it.
import Derived.Test.YtjkdgbndpdfkiaaDoorQ0
import Derived.Test.YtjkdgbndpdfkiaaDoorQ1
namespace Go.Proofs.YtjkdgbndpdfkiaaDoor.Q
open Go.RowKit Go.Proofs.YtjkdgbndpdfkiaaDoorW.PrintWords Go.Proofs.YtjkdgbndpdfkiaaDoorW.PrintLast Go.Proofs.YtjkdgbndpdfkiaaDoorW.PrintMore
attribute [local go_sem] max2_int min2_int max_two min_two max_three min_three max_four min_four   -- for this text's walks alone
set_option linter.unusedVariables false
set_option linter.unusedSimpArgs false

/-! ### name_Path: function 15 -/
mutual
def name_Path.j0 : Nat → ByteArray → Bool → Option (Bool)
  | 0, _, _ => none
  | k + 1, x0, x11 => if x11 = true then (some false) else (name_Path.l0 k x0 0 0)
def name_Path.l0 : Nat → ByteArray → Int → Int → Option (Bool)
  | 0, _, _, _ => none
  | k + 1, x0, x3, x4 => if x4 ≤ (x0.size : Int) then (if x4 < (x0.size : Int) then (if 0 ≤ x4 then (name_Path.j2 k x0 x3 x4 ((bt x0 x4) != 47)) else (none)) else (name_Path.j2 k x0 x3 x4 false)) else (some true)
def name_Path.j2 : Nat → ByteArray → Int → Int → Bool → Option (Bool)
  | 0, _, _, _, _ => none
  | k + 1, x0, x3, x4, x27 => if x27 = true then (name_Path.l0 k x0 x3 (wrap64 (x4 + 1))) else (if 0 ≤ x3 then (if x3 ≤ x4 then (if x4 ≤ (x0.size : Int) then ((name_part.f (x0.extract (x3 : Int).toNat (x4 : Int).toNat)).bind fun t101 => (if t101 = true then (name_Path.l0 k x0 (wrap64 (x4 + 1)) (wrap64 (x4 + 1))) else (some false))) else (none)) else (none)) else (none))
end
def name_Path.f (k : Nat) (a0 : ByteArray) : Option (Bool) := if a0.toList = ([] : List UInt8) then (name_Path.j0 k a0 true) else (name_Path.j0 k a0 (decide ((a0.size : Int) > 64)))
theorem name_Path.mono_l : ∀ k, (∀ y0 y1, LeO (name_Path.j0 k y0 y1) (name_Path.j0 (k + 1) y0 y1)) ∧ (∀ y0 y1 y2, LeO (name_Path.l0 k y0 y1 y2) (name_Path.l0 (k + 1) y0 y1 y2)) ∧ (∀ y0 y1 y2 y3, LeO (name_Path.j2 k y0 y1 y2 y3) (name_Path.j2 (k + 1) y0 y1 y2 y3))
  | 0 => ⟨fun _ _ r h => by simp [name_Path.j0] at h, fun _ _ _ r h => by simp [name_Path.l0] at h, fun _ _ _ _ r h => by simp [name_Path.j2] at h⟩
  | k + 1 => by
    obtain ⟨ih0, ih1, ih2⟩ := name_Path.mono_l k
    refine ⟨?_, ?_, ?_⟩
    · intro y0 y1
      unfold name_Path.j0
      repeat' first
      | (with_reducible exact ih0 _ _)
      | (with_reducible exact ih1 _ _ _)
      | (with_reducible exact ih2 _ _ _ _)
      | (with_reducible exact LeO.refl _)
      | (with_reducible exact LeO.none _)
      | (with_reducible refine LeO.ite ?_ ?_)
      | (with_reducible refine LeO.bind ?_ (fun _ => ?_))
      | exact ih0 _ _
      | exact ih1 _ _ _
      | exact ih2 _ _ _ _
      | exact LeO.none _
      | refine LeO.ite ?_ ?_
      | refine LeO.bind ?_ (fun _ => ?_)
    · intro y0 y1 y2
      unfold name_Path.l0
      repeat' first
      | (with_reducible exact ih0 _ _)
      | (with_reducible exact ih1 _ _ _)
      | (with_reducible exact ih2 _ _ _ _)
      | (with_reducible exact LeO.refl _)
      | (with_reducible exact LeO.none _)
      | (with_reducible refine LeO.ite ?_ ?_)
      | (with_reducible refine LeO.bind ?_ (fun _ => ?_))
      | exact ih0 _ _
      | exact ih1 _ _ _
      | exact ih2 _ _ _ _
      | exact LeO.none _
      | refine LeO.ite ?_ ?_
      | refine LeO.bind ?_ (fun _ => ?_)
    · intro y0 y1 y2 y3
      unfold name_Path.j2
      repeat' first
      | (with_reducible exact ih0 _ _)
      | (with_reducible exact ih1 _ _ _)
      | (with_reducible exact ih2 _ _ _ _)
      | (with_reducible exact LeO.refl _)
      | (with_reducible exact LeO.none _)
      | (with_reducible refine LeO.ite ?_ ?_)
      | (with_reducible refine LeO.bind ?_ (fun _ => ?_))
      | exact ih0 _ _
      | exact ih1 _ _ _
      | exact ih2 _ _ _ _
      | exact LeO.none _
      | refine LeO.ite ?_ ?_
      | refine LeO.bind ?_ (fun _ => ?_)
theorem name_Path.mono : ∀ a0 k, LeO (name_Path.f k a0) (name_Path.f (k + 1) a0) := by
  intro a0 k
  obtain ⟨ih0, ih1, ih2⟩ := name_Path.mono_l k
  unfold name_Path.f
  repeat' first
      | (with_reducible exact ih0 _ _)
      | (with_reducible exact ih1 _ _ _)
      | (with_reducible exact ih2 _ _ _ _)
      | (with_reducible exact LeO.refl _)
      | (with_reducible exact LeO.none _)
      | (with_reducible refine LeO.ite ?_ ?_)
      | (with_reducible refine LeO.bind ?_ (fun _ => ?_))
      | exact ih0 _ _
      | exact ih1 _ _ _
      | exact ih2 _ _ _ _
      | exact LeO.none _
      | refine LeO.ite ?_ ?_
      | refine LeO.bind ?_ (fun _ => ?_)
set_option maxHeartbeats 8000000 in
set_option maxRecDepth 100000 in
theorem name_Path.calls (k : Nat) (a0 : ByteArray) (r : Bool) (w : World) (h : name_Path.f k a0 = some r) :
    Calls Tryd.prog 15 #[.string a0] w fun e w' => e = .returned (.bool r) ∧ Below w.heap.size w w' := by
  have HB := Aside0.mk (Below.refl w.heap.size w)
  have H : (if a0.toList = ([] : List UInt8) then (name_Path.j0 k a0 true) else (name_Path.j0 k a0 (decide ((a0.size : Int) > 64)))) = some r := h
  clear h
  have HC2 := Aside0.mk H
  clear H
  go_enter Tryd.func15, Tryd.ntmps15
  go_upto_region 1 with (fail)
  go_cut [11] (fun v11 wc => ∃ (kq : Nat) (x11_1 : Bool), v11 = .bool x11_1 ∧ Aside0 (name_Path.j0 kq a0 x11_1 = some r) ∧ Aside0 (kq ≤ k) ∧ Aside0 (Below w.heap.size w wc))
  case first =>
    have H := HC2.out
    clear HC2
    by_cases c3 : a0.toList = ([] : List UInt8)
    · rw [if_pos c3] at H
      have c3b0 : (a0.toList == ([] : List UInt8)) = true := beq_iff_eq.mpr c3
      have c3b1 : (a0.toList != ([] : List UInt8)) = false := bne_eq_false_iff_eq.mpr c3
      clear c3
      (first | rw [c3b0] | (simp only [i64_w, i32_w]; rw [c3b0]) | skip)
      have H' := Aside0.mk H
      clear H
      go_wp2
      go_meet
      case rel => exact ⟨_, (true), (by first | rfl | (simp; done) | (simp [*]; done)), H', ⟨by first | omega | exact Nat.le_refl _⟩, ⟨by repeat (first | (with_reducible first | exact HB.out | apply below_alloc | apply pw_below_drewN | apply below_drew1) | exact HB.out)⟩⟩
    · rw [if_neg c3] at H
      have c3b0 : (a0.toList == ([] : List UInt8)) = false := beq_eq_false_iff_ne.mpr c3
      have c3b1 : (a0.toList != ([] : List UInt8)) = true := bne_iff_ne.mpr c3
      (first | rw [c3b0] | (simp only [i64_w, i32_w]; rw [c3b0]) | skip)
      have H' := Aside0.mk H
      clear H
      go_wp2
      go_meet
      case rel => exact ⟨_, (decide ((a0.size : Int) > 64)), (by first | rfl | (simp; done) | (simp [*]; done)), H', ⟨by first | omega | exact Nat.le_refl _⟩, ⟨by repeat (first | (with_reducible first | exact HB.out | apply below_alloc | apply pw_below_drewN | apply below_drew1) | exact HB.out)⟩⟩
  case rest =>
    clear HC2
    try clear c1
    try clear p2
    try clear c3
    try clear c3b0
    try clear c3b1
    obtain ⟨kq, x11_1, rfl, HA, HJ1, HB⟩ := hcut
    cases kq with
    | zero => exact absurd HA.out (by simp [name_Path.j0])
    | succ kj1 =>
      have H := HA.out
      clear HA
      simp only [name_Path.j0] at H
      by_cases c4 : x11_1 = true
      · subst c4
        have H1 : (some false) = some r := by rw [if_pos rfl] at H; exact H
        clear H
        have H := H1
        clear H1
        obtain rfl := Option.some.inj H
        go_wp2
        go_ret
        exact ⟨by first | rfl | (simp [errW_none, errW_some] <;> rfl) | (simp [*, errW_none, errW_some] <;> rfl), by repeat (first | (with_reducible first | exact HB.out | apply below_alloc | apply pw_below_drewN | apply below_drew1) | exact HB.out)⟩
      · replace c4 := Bool.eq_false_iff.mpr c4
        subst c4
        have H1 : (name_Path.l0 kj1 a0 0 0) = some r := by rw [if_neg (show ¬ (false = true) by decide)] at H; exact H
        clear H
        have H := H1
        clear H1
        have H' := Aside0.mk H
        clear H
        go_wp2
        go_loopg [3, 4] kj1 (fun kq v3 v4 w' => ∃ (x3_2 : Int) (x4_2 : Int), v3 = .int .i64 x3_2 ∧ v4 = .int .i64 x4_2 ∧ Aside0 (name_Path.l0 kq a0 x3_2 x4_2 = some r) ∧ Aside0 (kq ≤ kj1) ∧ Aside0 (Below w.heap.size w w'))
        case atStart => exact ⟨(0), (0), (by first | rfl | (simp; done) | (simp [*]; done)), (by first | rfl | (simp; done) | (simp [*]; done)), H', ⟨Nat.le_refl _⟩, ⟨by repeat (first | (with_reducible first | exact HB.out | apply below_alloc | apply pw_below_drewN | apply below_drew1) | exact HB.out)⟩⟩
        case round =>
          clear H'
          try clear c1
          try clear p2
          try clear c3
          try clear c3b0
          try clear c3b1
          try clear c4
          try clear p2
          obtain ⟨x3_2, x4_2, rfl, rfl, HA, HK2, HB⟩ := hrel
          cases gk with
          | zero => exact absurd HA.out (by simp [name_Path.l0])
          | succ k2 =>
            have H := HA.out
            clear HA
            simp only [name_Path.l0] at H
            by_cases c5 : x4_2 ≤ (a0.size : Int)
            · rw [if_pos c5] at H
              have c5b0 : decide (x4_2 ≤ (a0.size : Int)) = true := decide_eq_true c5
              clear c5
              have HC6 := Aside0.mk H
              clear H
              go_upto_region 7 with (fail)
              go_cut [27] (fun v27 wc => ∃ (kq : Nat) (x27_5 : Bool), v27 = .bool x27_5 ∧ Aside0 (name_Path.j2 kq a0 x3_2 x4_2 x27_5 = some r) ∧ Aside0 (kq ≤ k2) ∧ Aside0 (Below w.heap.size w wc))
              case first =>
                have H := HC6.out
                clear HC6
                by_cases c7 : x4_2 < (a0.size : Int)
                · rw [if_pos c7] at H
                  have c7b0 : decide (x4_2 < (a0.size : Int)) = true := decide_eq_true c7
                  clear c7
                  (first | rw [c7b0] | (simp only [i64_w, i32_w]; rw [c7b0]) | skip)
                  by_cases c8 : 0 ≤ x4_2
                  · rw [if_pos c8] at H
                    have c8b0 : decide (0 ≤ x4_2) = true := decide_eq_true c8
                    clear c8
                    have H' := Aside0.mk H
                    clear H
                    have p9 : 0 ≤ (x4_2 : Int) := of_decide_eq_true (by first | (with_reducible assumption) | assumption)
                    have q9 : x4_2 < (a0.size : Int) := of_decide_eq_true (by first | (with_reducible assumption) | assumption)
                    have hx9 := bt_at a0 x4_2
                    replace p9 := eq_true p9
                    replace q9 := eq_true q9
                    go_wp2
                    go_meet
                    case rel => exact ⟨_, (((bt a0 x4_2) != 47)), (by first | rfl | (simp; done) | (simp [*]; done)), H', ⟨by have := HJ1.out; have := HK2.out; first | omega | exact Nat.le_refl _⟩, ⟨by repeat (first | (with_reducible first | exact HB.out | apply below_alloc | apply pw_below_drewN | apply below_drew1) | exact HB.out)⟩⟩
                  · rw [if_neg c8] at H
                    exact absurd H (by simp)
                · rw [if_neg c7] at H
                  have c7b0 : decide (x4_2 < (a0.size : Int)) = false := decide_eq_false c7
                  clear c7
                  (first | rw [c7b0] | (simp only [i64_w, i32_w]; rw [c7b0]) | skip)
                  have H' := Aside0.mk H
                  clear H
                  go_wp2
                  go_meet
                  case rel => exact ⟨_, (false), (by first | rfl | (simp; done) | (simp [*]; done)), H', ⟨by have := HJ1.out; have := HK2.out; first | omega | exact Nat.le_refl _⟩, ⟨by repeat (first | (with_reducible first | exact HB.out | apply below_alloc | apply pw_below_drewN | apply below_drew1) | exact HB.out)⟩⟩
              case rest =>
                clear HC6
                try clear c1
                try clear p2
                try clear c3
                try clear c3b0
                try clear c3b1
                try clear c4
                try clear c5
                try clear c5b0
                try clear c7
                try clear c7b0
                try clear c8
                try clear c8b0
                try clear p9
                try clear q9
                try clear hx9
                try clear p2
                try clear p9
                try clear q9
                obtain ⟨kq, x27_5, rfl, HA, HJ5, HB⟩ := hcut
                cases kq with
                | zero => exact absurd HA.out (by simp [name_Path.j2])
                | succ kj5 =>
                  have H := HA.out
                  clear HA
                  simp only [name_Path.j2] at H
                  by_cases c10 : x27_5 = true
                  · subst c10
                    have H1 : (name_Path.l0 kj5 a0 x3_2 (wrap64 (x4_2 + 1))) = some r := by rw [if_pos rfl] at H; exact H
                    clear H
                    have H := H1
                    clear H1
                    have H' := Aside0.mk H
                    clear H
                    go_wp2
                    go_roundg kj5
                    case measure => have := HJ1.out; have := HK2.out; have := HJ5.out; omega
                    case rel => exact ⟨(x3_2), (wrap64 (x4_2 + 1)), (by first | rfl | (simp; done) | (simp [*]; done)), (by first | rfl | (simp; done) | (simp [*]; done)), H', ⟨by have := HJ1.out; have := HK2.out; have := HJ5.out; omega⟩, ⟨by repeat (first | (with_reducible first | exact HB.out | apply below_alloc | apply pw_below_drewN | apply below_drew1) | exact HB.out)⟩⟩
                  · replace c10 := Bool.eq_false_iff.mpr c10
                    subst c10
                    have H1 : (if 0 ≤ x3_2 then (if x3_2 ≤ x4_2 then (if x4_2 ≤ (a0.size : Int) then ((name_part.f (a0.extract (x3_2 : Int).toNat (x4_2 : Int).toNat)).bind fun t101 => (if t101 = true then (name_Path.l0 kj5 a0 (wrap64 (x4_2 + 1)) (wrap64 (x4_2 + 1))) else (some false))) else (none)) else (none)) else (none)) = some r := by rw [if_neg (show ¬ (false = true) by decide)] at H; exact H
                    clear H
                    have H := H1
                    clear H1
                    by_cases c11 : 0 ≤ x3_2
                    · rw [if_pos c11] at H
                      have c11b0 := eq_true c11
                      have c11b1 : decide (0 ≤ x3_2) = true := decide_eq_true c11
                      clear c11
                      by_cases c12 : x3_2 ≤ x4_2
                      · rw [if_pos c12] at H
                        have c12b0 := eq_true c12
                        have c12b1 : decide (x3_2 ≤ x4_2) = true := decide_eq_true c12
                        clear c12
                        by_cases c13 : x4_2 ≤ (a0.size : Int)
                        · rw [if_pos c13] at H
                          have c13b0 := eq_true c13
                          have c13b1 : decide (x4_2 ≤ (a0.size : Int)) = true := decide_eq_true c13
                          clear c13
                          replace H := Option.bind_eq_some_iff.mp H
                          obtain ⟨t101, A140, H⟩ := H
                          replace H : (if t101 = true then (name_Path.l0 kj5 a0 (wrap64 (x4_2 + 1)) (wrap64 (x4_2 + 1))) else (some false)) = some r := H
                          have A14 := Aside0.mk A140
                          clear A140
                          by_cases c15 : t101 = true
                          · subst c15
                            have H1 : (name_Path.l0 kj5 a0 (wrap64 (x4_2 + 1)) (wrap64 (x4_2 + 1))) = some r := by rw [if_pos rfl] at H; exact H
                            clear H
                            have H := H1
                            clear H1
                            have H' := Aside0.mk H
                            clear H
                            go_wp2_with (first | ((with_reducible refine gate_callee (f := 30) rfl ?_); refine goesL_ (some 32) rfl rfl Tryd.func30 (by kernel_rfl) rfl #[.string (a0.extract (x3_2 : Int).toNat (x4_2 : Int).toNat)] rfl (by (try simp only [List.map_toArray, List.map_cons, List.map_nil]); first | done | rfl | (simp only [List.length_drop, List.length_take]; rfl)) ?_; (with_reducible refine (name_part.calls (a0.extract (x3_2 : Int).toNat (x4_2 : Int).toNat) true _ A14.out).mono ?_); rintro e w16 ⟨rfl, hb⟩; refine ⟨_, rfl, ?_⟩; have n0_ := Aside0.mk (below_step (by repeat (first | (with_reducible first | exact HB.out | apply below_alloc | apply pw_below_drewN | apply below_drew1) | exact HB.out)) hb); clear HB; have HB := n0_; clear n0_; (try clear hb); (try clear hb2); (try clear hk); (try clear hi)))
                            go_roundg kj5
                            case measure => have := HJ1.out; have := HK2.out; have := HJ5.out; omega
                            case rel => exact ⟨(wrap64 (x4_2 + 1)), (wrap64 (x4_2 + 1)), (by first | rfl | (simp; done) | (simp [*]; done)), (by first | rfl | (simp; done) | (simp [*]; done)), H', ⟨by have := HJ1.out; have := HK2.out; have := HJ5.out; omega⟩, ⟨by repeat (first | (with_reducible first | exact HB.out | apply below_alloc | apply pw_below_drewN | apply below_drew1) | exact HB.out)⟩⟩
                          · replace c15 := Bool.eq_false_iff.mpr c15
                            subst c15
                            have H1 : (some false) = some r := by rw [if_neg (show ¬ (false = true) by decide)] at H; exact H
                            clear H
                            have H := H1
                            clear H1
                            obtain rfl := Option.some.inj H
                            go_wp2_with (first | ((with_reducible refine gate_callee (f := 30) rfl ?_); refine goesL_ (some 32) rfl rfl Tryd.func30 (by kernel_rfl) rfl #[.string (a0.extract (x3_2 : Int).toNat (x4_2 : Int).toNat)] rfl (by (try simp only [List.map_toArray, List.map_cons, List.map_nil]); first | done | rfl | (simp only [List.length_drop, List.length_take]; rfl)) ?_; (with_reducible refine (name_part.calls (a0.extract (x3_2 : Int).toNat (x4_2 : Int).toNat) false _ A14.out).mono ?_); rintro e w17 ⟨rfl, hb⟩; refine ⟨_, rfl, ?_⟩; have n0_ := Aside0.mk (below_step (by repeat (first | (with_reducible first | exact HB.out | apply below_alloc | apply pw_below_drewN | apply below_drew1) | exact HB.out)) hb); clear HB; have HB := n0_; clear n0_; (try clear hb); (try clear hb2); (try clear hk); (try clear hi)))
                            go_ret
                            exact ⟨by first | rfl | (simp [errW_none, errW_some] <;> rfl) | (simp [*, errW_none, errW_some] <;> rfl), by repeat (first | (with_reducible first | exact HB.out | apply below_alloc | apply pw_below_drewN | apply below_drew1) | exact HB.out)⟩
                        · rw [if_neg c13] at H
                          exact absurd H (by simp)
                      · rw [if_neg c12] at H
                        exact absurd H (by simp)
                    · rw [if_neg c11] at H
                      exact absurd H (by simp)
            · rw [if_neg c5] at H
              have c5b0 : decide (x4_2 ≤ (a0.size : Int)) = false := decide_eq_false c5
              clear c5
              obtain rfl := Option.some.inj H
              go_wp2
              go_ret
              exact ⟨by first | rfl | (simp [errW_none, errW_some] <;> rfl) | (simp [*, errW_none, errW_some] <;> rfl), by repeat (first | (with_reducible first | exact HB.out | apply below_alloc | apply pw_below_drewN | apply below_drew1) | exact HB.out)⟩

/-! ### name_Fresh: function 18 (by hand) -/
/-- A base with a number behind it, 32 bytes at the most. -/
def cand (base : ByteArray) (n : Nat) : ByteArray := base.extract 0 (min base.size (32 - (Lib.decDigits n).length)) ++ ⟨(Lib.decDigits n).toArray⟩
def freshL (base : ByteArray) (taken : List ByteArray) : Nat → Nat → ByteArray → Option (ByteArray × Int)
  | 0, _, _ => none
  | g + 1, n, s => if (taken.any fun x => decide (x = s)) = true then freshL base taken g (n + 1) (cand base n) else some (s, 0)
def name_Fresh.f (base : ByteArray) (taken : List ByteArray) : Option (ByteArray × Int) :=
  (name_Valid.f base).bind fun b => if b = true then freshL base taken 98 2 base else some (⟨#[]⟩, 4)
/-- The set of strings as the code fills it. -/
def usedM (l : List ByteArray) : List (ByteArray × Value) := l.foldl (fun m s => mput m s (.bool true)) []
theorem usedM_snoc (l : List ByteArray) (s : ByteArray) : usedM (l ++ [s]) = mput (usedM l) s (.bool true) := by simp [usedM]
theorem usedM_look (s : ByteArray) : ∀ (n : Nat) (l : List ByteArray), l.length = n → mlook (usedM l) s = if (l.any fun x => decide (x = s)) = true then some (.bool true) else none := by
  intro n
  induction n with
  | zero =>
    intro l hl
    rw [List.length_eq_zero_iff.1 hl]
    simp [usedM, mlook]
  | succ n ih =>
    intro l hl
    obtain ⟨x, l', rfl⟩ : ∃ x l', l = l' ++ [x] := by
      rcases List.eq_nil_or_concat l with h | ⟨l', x, h⟩
      · rw [h] at hl; simp at hl
      · exact ⟨x, l', by rw [h, List.concat_eq_append]⟩
    rw [usedM_snoc, mlook_put, ih l' (by simpa using hl)]
    by_cases h : s = x
    · subst h; simp
    · rw [if_neg h]
      have h2 : decide (x = s) = false := decide_eq_false (fun e => h e.symm)
      rw [List.any_append, List.any_cons, h2, List.any_nil, Bool.or_false, Bool.or_false]
theorem decDigits_small (n : Nat) (h : n < 100) : 1 ≤ (Lib.decDigits n).length ∧ (Lib.decDigits n).length ≤ 2 := by
  have : ∀ n : Nat, n < 100 → 1 ≤ (Lib.decDigits n).length ∧ (Lib.decDigits n).length ≤ 2 := by decide +kernel
  exact this n h
theorem extract_all (s : ByteArray) : s.extract 0 s.size = s := by
  apply ByteArray.ext
  simp
abbrev encB (s : ByteArray) : Value := .string s
theorem take_succ_snoc (l : List ByteArray) (k : Nat) (h : k < l.length) : l.take (k + 1) = l.take k ++ [rdOf ByteArray.empty l (k : Int)] := by
  rw [List.take_succ_eq_append_getElem h]
  have : rdOf ByteArray.empty l (k : Int) = l[k] := by
    unfold rdOf
    simp [List.getD_eq_getElem?_getD, List.getElem?_eq_getElem h]
  rw [this]
set_option maxHeartbeats 2000000 in
theorem name_Fresh.calls (a0 : ByteArray) (A1 : Option Addr) (c1 : Nat) (l1 : List ByteArray) (r1 : ByteArray) (r2 : Int) (w : World) (hr1 : Kd.C Kd.string w A1 l1.length l1) (hc1 : l1.length ≤ c1) (h : name_Fresh.f a0 l1 = some (r1, r2)) :
    Calls Tryd.prog 18 #[.string a0, .slice A1 l1.length c1] w fun e w' => e = .returned (.tuple #[.string r1, .int .i64 r2]) ∧ Below w.heap.size w w' := by
  have HR1 := Aside0.mk hr1
  have HC1 := Aside0.mk hc1
  have hlen : l1.length ≤ 9223372036854775807 := hr1.2.1
  clear hr1 hc1
  unfold name_Fresh.f at h
  obtain ⟨b, hb, h⟩ := Option.bind_eq_some_iff.1 h
  have HV := Aside0.mk hb
  clear hb
  cases b with
  | false =>
    simp only [Bool.false_eq_true, if_false, Option.some.injEq, Prod.mk.injEq] at h
    obtain ⟨rfl, rfl⟩ := h
    go_enter Tryd.func18, Tryd.ntmps18
    go_wp2_with (go_at_call 11; (with_reducible refine (name_Valid.calls _ _ _ HV.out).mono ?_); rintro e w1 ⟨rfl, hb1⟩)
    go_ret2
    exact ⟨rfl, hb1⟩
  | true =>
    simp only [if_true] at h
    have HF := Aside0.mk h
    clear h
    have hmm := @run_makeMap Tryd.prog
    go_enter Tryd.func18, Tryd.ntmps18
    go_wp2_with (go_at_call 11; (with_reducible refine (name_Valid.calls _ _ _ HV.out).mono ?_); rintro e w1 ⟨rfl, hb1⟩)
    have HB1 := Aside0.mk hb1
    clear hb1
    go_loopg [18] l1.length (fun gk v18 w' => ∃ k : Nat, v18 = .int .i64 k ∧ k + gk = l1.length ∧ Aside0 (Below w.heap.size w w') ∧ Aside0 (MapAt encB w' w1.heap.size (usedM (l1.take k))))
    case atStart =>
      refine ⟨0, rfl, by omega, ⟨?_⟩, ⟨?_⟩⟩
      · exact below_alloc HB1.out _
      · exact MapAt.new encB w1
    case round =>
      obtain ⟨k, rfl, hk, HB2, HM⟩ := hrel
      obtain ⟨go, rfl⟩ : ∃ go, go = gk := ⟨gk, rfl⟩
      have HK := Aside0.mk hk
      cases go with
      | succ g =>
        have h1 : decide ((k : Int) < (l1.length : Int)) = true := decide_eq_true (by omega)
        have h2 : decide (k < l1.length) = true := decide_eq_true (by omega)
        have p102 : 0 ≤ (k : Int) := by omega
        have q102 : (k : Int) < (l1.length : Int) := by omega
        obtain ⟨ad, e, hx⟩ := Kd.at_string (Kd.C_below HR1.out HB2.out) (k : Int) p102 q102
        cases e
        rw [Int.toNat_natCast] at hx
        have HTK := Aside0.mk (take_succ_snoc l1 k (by omega))
        obtain ⟨s, hs⟩ : ∃ s, s = rdOf ByteArray.empty l1 (k : Int) := ⟨_, rfl⟩
        rw [← hs] at hx HTK
        clear hs
        have hk9 : k < l1.length := by omega
        clear hk
        go_wp2_with (with_reducible refine wpList_mapUpdate rfl _ _ _ rfl (KeyOk.string Tryd.underlying9) Tryd.underlying38 rfl HM.out _ rfl _ rfl ?_; intro w2 hm2 hg2)
        go_roundg g
        case measure => omega
        case rel =>
          refine ⟨k + 1, by go_num, by have := HK.out; omega, ⟨?_⟩, ⟨?_⟩⟩
          · exact HB2.out.grown hg2 (by have := HB2.out.size; omega) (fun j hj => by cases hj; exact HB1.out.size)
          · rw [HTK.out, usedM_snoc]
            exact hm2
      | zero =>
        have h1 : decide ((k : Int) < (l1.length : Int)) = false := decide_eq_false (by omega)
        have h2 : decide (k < l1.length) = false := decide_eq_false (by omega)
        have hkl : l1.take k = l1 := List.take_of_length_le (by omega)
        rw [hkl] at HM
        clear hkl hk
        obtain ⟨wo, rfl⟩ : ∃ wo : World, wo = wr := ⟨_, rfl⟩
        go_wp2
        go_loopg [9, 10] 98 (fun gj v9 v10 w' => ∃ (n : Nat) (s : ByteArray), v9 = .string s ∧ v10 = .int .i64 n ∧ 2 ≤ n ∧ n + gj = 100 ∧ Aside0 (Below wo.heap.size wo w') ∧ Aside0 (freshL a0 l1 gj n s = some (r1, r2)))
        case atStart => exact ⟨2, a0, rfl, rfl, by omega, by omega, ⟨Below.refl _ _⟩, HF⟩
        case round =>
          obtain ⟨n, s, rfl, rfl, hn2, hn, HB3, HF2⟩ := hrel
          obtain ⟨gi, rfl⟩ : ∃ gi, gi = gk := ⟨gk, rfl⟩
          have HN := Aside0.mk hn
          have HLK := Aside0.mk (usedM_look s l1.length l1 rfl)
          cases gi with
          | zero => exact absurd HF2.out (by simp [freshL])
          | succ gi =>
            have hf := HF2.out
            rw [freshL] at hf
            by_cases hin : (l1.any fun x => decide (x = s)) = true
            · rw [if_pos hin] at hf HLK
              have HF3 := Aside0.mk hf
              clear hf HF2 hin
              have hn98 : n < 100 := by omega
              clear hn
              have hdl := decDigits_small n hn98
              obtain ⟨ds, hds⟩ : ∃ ds, ds = Lib.decDigits n := ⟨_, rfl⟩
              rw [← hds] at hdl
              have HCD := Aside0.mk (show cand a0 n = a0.extract 0 (min a0.size (32 - ds.length)) ++ ⟨ds.toArray⟩ by unfold cand; rw [hds])
              have HDS := Aside0.mk hds
              clear hds
              go_wp2_with (first | (with_reducible refine wpList_lookup (z := .bool false) rfl _ _ rfl (KeyOk.string Tryd.underlying9) Tryd.underlying38 (by kernel_rfl) rfl (HM.out.below HB3.out) s rfl ?_; rw [HLK.out]) | (go_at_call 32; (with_reducible refine (Go.Proofs.Tryd.strconv_Itoa_small n hn98 _).mono ?_); rintro e w3 ⟨rfl, rfl⟩; rw [← HDS.out]))
              all_goals
                go_roundg gi
                case measure => omega
                case rel =>
                  refine ⟨n + 1, _, rfl, by go_num, by omega, by have := HN.out; omega, HB3, ⟨?_⟩⟩
                  have hf := HF3.out
                  rw [HCD.out] at hf
                  first
                  | (rw [Nat.min_eq_left (by omega), extract_all] at hf; exact hf)
                  | (rw [Nat.min_eq_right (by omega)] at hf; exact hf)
            · rw [if_neg hin] at hf HLK
              simp only [Option.some.injEq, Prod.mk.injEq] at hf
              obtain ⟨rfl, rfl⟩ := hf
              clear hin hn
              go_wp2_with (first | (with_reducible refine wpList_lookup (z := .bool false) rfl _ _ rfl (KeyOk.string Tryd.underlying9) Tryd.underlying38 (by kernel_rfl) rfl (HM.out.below HB3.out) s rfl ?_; rw [HLK.out]))
              go_ret2
              exact ⟨rfl, HB2.out.trans (HB3.out.mono HB2.out.size)⟩

/-! ### name_Insert: function 21 (by hand) -/
/-- A list without repetitions of neighbours, from the front. -/
def sqStep (acc : List (List UInt8)) (x : List UInt8) : List (List UInt8) := if acc.getLast? = some x then acc else acc ++ [x]
def squeeze (l : List (List UInt8)) : List (List UInt8) := l.foldl sqStep []
def insertS (l : List ByteArray) (s : ByteArray) : List ByteArray := (squeeze (((l ++ [s]).map (fun x => x.data.toList)).mergeSort fun x y => decide (x ≤ y))).map fun x => ⟨x.toArray⟩
def name_Insert.f (l : List ByteArray) (s : ByteArray) : Option (List ByteArray) := if l.length ≤ 1000000 then some (insertS l s) else none
theorem run_append_none_c {P : Program} {w : World} {base : Nat} (t ty e : TypeId) (i : TypeInfo) (size c : Nat) (ht : P.underlying t = some (.slice e)) (hi : P.info? e = some i)
    (v : Value) (n : Nat) (xs : List Value) (hown : w.ownsRow base e size v n xs) :
    (Builtin.append_ #[t, t] ty #[v, .slice none 0 c]).run P w = .ok v w := by
  rcases hown.2 with ⟨rfl, rfl⟩ | ⟨g, cap, cur, rfl, _, _, hnc, _⟩
  · simp [Builtin.append_, run_underlying ht, sizeOf, typeInfo, hi, Builtin.lenOf, Builtin.firstCells]
  · simp [Builtin.append_, run_underlying ht, sizeOf, typeInfo, hi, Builtin.lenOf, Builtin.firstCells, hnc, storeCells]
/-- An append, within the capacity, of a slice of strings that is read. -/
theorem wpList_append_strs {P : Program} {w : World} {ops : Array Oper} {rest : List Oper} {o : Oper} {a : Act} {Q : Exit → Act → World → Prop}
    (hg : o.guard = none) (s x : Operand) (t : TypeId) (hop : o.op = Op.call { callee := Callee.builtin Builtin.append, args := #[s, x], argTypes := #[t, t] })
    (base : Nat) (e : TypeId) (i : TypeInfo) (h1 : P.underlying t = some (.slice e)) (h2 : P.info? e = some i) (h4 : i.size = 1)
    (g k cap : Nat) (xs : List Value) (hs : a.eval s = .slice (some ⟨g, 0, none⟩) k cap) (hown : w.ownsRow base e 1 (.slice (some ⟨g, 0, none⟩) k cap) k xs) (A : Option Addr) (c : Nat) (l : List ByteArray) (hx : a.eval x = .slice A l.length c)
    (hr : Kd.C Kd.string w A l.length l) (b1 : k + l.length ≤ cap)
    (hK : ∀ w', w'.ownsRow base e 1 (.slice (some ⟨g, 0, none⟩) (k + l.length) cap) (k + l.length) (xs ++ l.map Value.string) → w.grownBy w' (some g) → wpList P ops Q rest (a.put o.dst (.slice (some ⟨g, 0, none⟩) (k + l.length) cap)) w') :
    wpList P ops Q (o :: rest) a w := by
  cases l with
  | cons y l =>
    obtain ⟨ad, e0, _⟩ := Kd.at_string hr 0 (by omega) (by simp)
    cases e0
    refine wpList_append_fits w hg s x t hop base e i 1 h1 h2 h4 g k cap xs hs hown ad (y :: l).length c ((y :: l).map Value.string) hx (by simp) (fun j u hu => ?_) (fun u hu => ?_) b1 hK
    · simp only [List.getElem?_map, Option.map_eq_some_iff] at hu
      obtain ⟨z, hz, rfl⟩ := hu
      have hj : j < (y :: l).length := (List.getElem?_eq_some_iff.1 hz).1
      obtain ⟨ad', e1, hc⟩ := Kd.at_string hr (j : Int) (by omega) (by omega)
      cases e1
      rw [Int.toNat_natCast] at hc
      rw [hc]
      unfold rdOf
      simp [List.getD_eq_getElem?_getD, hz]
    · obtain ⟨z, _, rfl⟩ := List.mem_map.1 hu
      rfl
  | nil =>
    cases A with
    | some ad => exact wpList_append_fits w hg s x t hop base e i 1 h1 h2 h4 g k cap xs hs hown ad 0 c [] hx rfl (fun j u hu => by simp at hu) (fun u hu => by simp at hu) b1 hK
    | none =>
      have hr0 := hK w (by simpa using hown) ⟨rfl, rfl, rfl, Nat.le_refl _, fun _ _ _ => rfl⟩
      have hx' : a.eval x = .slice none 0 c := hx
      refine wpList_plain hg fun K' hK' => ?_
      have hrun := run_append_none_c (P := P) t o.type e i 1 c h1 h2 (.slice (some ⟨g, 0, none⟩) k cap) k xs hown
      unfold Oper.wp
      simp [execOp, hop, resolve, invoke, builtin, hs, hx', hrun, Result.andThen]
      exact hK' _ _ hr0
theorem info_string : (Tryd.prog.info? 9).map (fun i => (i.zero, i.size, i.bytes)) = some (some (.string ⟨#[]⟩), 1, 16) := by kernel_rfl
theorem encStr_data (s : ByteArray) : Go.Proofs.encStr s.data.toList = Value.string s := by
  cases s
  rfl
theorem putCells_all (ts : List (List UInt8)) (cur : Array Value) (h : cur.size = ts.length) : Sort.putCells Go.Proofs.encStr 0 ts.toArray cur = (ts.map Go.Proofs.encStr).toArray := by
  apply Array.ext'
  have := take_putCells cur ts (by omega)
  rw [List.take_of_length_le (by simp [Sort.putCells]; omega)] at this
  rw [this]
/-- The library's sort, over a block that is just the row. -/
theorem sort_own (g n cap : Nat) (ss : List (List UInt8)) (w : World) (hb : w.heap[g]? = some (.cells (ss.map Go.Proofs.encStr).toArray 9 (0, 0))) (hn : ss.length = n) (hs : n < 4611686018427387904) :
    Calls Tryd.prog 34 #[.slice (some ⟨g, 0, none⟩) n cap] w fun e w' => e = .returned (.tuple #[]) ∧ w.grownBy w' (some g) ∧ w'.heap[g]? = some (.cells ((ss.mergeSort fun x y => decide (x ≤ y)).map Go.Proofs.encStr).toArray 9 (0, 0)) := by
  subst hn
  refine (Go.Proofs.Tryd.sort_Strings g 0 cap ss w (holds_of_block hb (by rw [List.take_of_length_le (by simp)])) (Array.getElem?_eq_some_iff.1 hb).1 hs).mono ?_
  rintro e w' ⟨rfl, k, os, rfl⟩
  refine ⟨rfl, grownBy_sorted _, ?_⟩
  rw [heap_sorted _ hb, putCells_all _ _ (by simp)]
theorem row_full {w : World} {base e g n : Nat} {xs : List Value} (h : w.ownsRow base e 1 (.slice (some ⟨g, 0, none⟩) n n) n xs) : w.heap[g]? = some (.cells xs.toArray e (0, 0)) := by
  rcases h.2 with ⟨h', _⟩ | ⟨g', cap', cur, h', _, hg, _, _, hcs, htake⟩
  · simp at h'
  · simp only [Value.slice.injEq, Option.some.injEq, Addr.mk.injEq, and_true, true_and] at h'
    obtain ⟨rfl, rfl⟩ := h'
    rw [List.take_of_length_le (by rw [Array.length_toList, hcs]; exact Nat.le_refl _)] at htake
    rw [hg, ← htake]
/-- An append of one cell within the capacity: just that cell of the row turns. -/
theorem wpList_append_room1 {P : Program} {w : World} {ops : Array Oper} {rest : List Oper} {o : Oper} {a : Act} {Q : Exit → Act → World → Prop}
    (hg : o.guard = none) (s x : Operand) (t : TypeId) (hop : o.op = Op.call { callee := Callee.builtin Builtin.append, args := #[s, x], argTypes := #[t, t] })
    (e : TypeId) (i : TypeInfo) (h1 : P.underlying t = some (.slice e)) (h2 : P.info? e = some i) (h4 : i.size = 1)
    (g k cap : Nat) (cs : Array Value) (hs : a.eval s = .slice (some ⟨g, 0, none⟩) k cap) (hb : w.heap[g]? = some (.cells cs e (0, 0))) (hk : k < cap) (hkc : k < cs.size) (ad : Addr) (c : Nat) (u : Value) (hx : a.eval x = .slice (some ad) 1 c)
    (hc : w.cell? ad = some u) (hu : u.oneCell' = true)
    (hK : ∀ w', w.grownBy w' (some g) → w'.heap[g]? = some (.cells (cs.setIfInBounds k u) e (0, 0)) → wpList P ops Q rest (a.put o.dst (.slice (some ⟨g, 0, none⟩) (k + 1) cap)) w') :
    wpList P ops Q (o :: rest) a w := by
  refine wpList_plain hg fun K' hK' => ?_
  have hrun := run_append_room (P := P) w t o.type e i h1 h2 g k cap cs hb ad 1 c [u] (by simp [h4]) (fun j v hj => by
    have : j = 0 := by
      have := (List.getElem?_eq_some_iff.1 hj).1
      simpa using this
    subst this
    simp only [List.getElem?_cons_zero, Option.some.injEq] at hj
    subst hj
    simpa [Addr.add] using hc) (by simpa using hu) (by omega) (by simp [h4]; omega)
  have hset : (cs.toList.take (k * i.size) ++ [u] ++ cs.toList.drop (k * i.size + [u].length)).toArray = cs.setIfInBounds k u := by
    apply Array.ext'
    rw [h4, Nat.mul_one, Array.toList_setIfInBounds, List.set_eq_take_append_cons_drop, if_pos (by simpa using hkc)]
    simp
  rw [hset] at hrun
  unfold Oper.wp
  simp [execOp, hop, resolve, invoke, builtin, hs, hx, hrun, Result.andThen]
  exact hK' _ _ (hK _ ⟨rfl, rfl, rfl, by simp, fun k _ hk => setRow_other w g k _ (fun e => hk (by simp [e]))⟩ (setRow_heap w g cs _ e _ hb))
/-- Where the loop stands behind the element i: what has been kept lies in front, what is to come is as it was. -/
def InsRel (S : List (List UInt8)) (n i m g : Nat) (w : World) : Prop :=
  m = (squeeze (S.take (i + 1))).length ∧ ∃ cs : Array Value, w.heap[g]? = some (.cells cs 9 (0, 0)) ∧ cs.size = n + 1 ∧
    (∀ (j : Nat) (x : List UInt8), (squeeze (S.take (i + 1)))[j]? = some x → cs[j]? = some (Go.Proofs.encStr x)) ∧ ∀ (j : Nat) (x : List UInt8), i < j → S[j]? = some x → cs[j]? = some (Go.Proofs.encStr x)
theorem squeeze_snoc (l : List (List UInt8)) (x : List UInt8) : squeeze (l ++ [x]) = sqStep (squeeze l) x := by simp [squeeze]
theorem take_snoc_get {α : Type} (l : List α) (k : Nat) (h : k < l.length) : l.take (k + 1) = l.take k ++ [l[k]] := by rw [List.take_succ_eq_append_getElem h]
theorem InsRel.start {S : List (List UInt8)} {n g : Nat} {w : World} (hS : S.length = n + 1) (h : w.heap[g]? = some (.cells (S.map Go.Proofs.encStr).toArray 9 (0, 0))) : InsRel S n 0 1 g w := by
  match S, hS with
  | a :: S, hS =>
    refine ⟨by simp [squeeze, sqStep], _, h, by simp; simpa using hS, fun j x hj => ?_, fun j x _ hj => ?_⟩
    · have : squeeze ((a :: S).take (0 + 1)) = [a] := by simp [squeeze, sqStep]
      rw [this] at hj
      have hj0 : j = 0 := by
        have := (List.getElem?_eq_some_iff.1 hj).1
        simpa using this
      subst hj0
      simp at hj ⊢
      rw [hj]
    · simp only [List.getElem?_toArray, List.getElem?_map, hj, Option.map_some]
theorem InsRel.block {S : List (List UInt8)} {n i m g : Nat} {w : World} (h : InsRel S n i m g w) : ∃ cs : Array Value, w.heap[g]? = some (.cells cs 9 (0, 0)) ∧ cs.size = n + 1 := by
  obtain ⟨_, cs, h1, h2, _⟩ := h
  exact ⟨cs, h1, h2⟩
theorem InsRel.next {S : List (List UInt8)} {n i m g : Nat} {w : World} (h : InsRel S n i m g w) (hi : i < n) (hS : S.length = n + 1) : w.cell? ⟨g, 1 + i, none⟩ = some (Go.Proofs.encStr (S.getD (i + 1) [])) := by
  obtain ⟨_, cs, hc, _, _, h2⟩ := h
  rw [cell_of_row _ _ _ _ _ _ hc, Nat.add_comm]
  refine h2 (i + 1) _ (by omega) ?_
  rw [List.getD_eq_getElem?_getD, List.getElem?_eq_getElem (by omega)]
  rfl
theorem InsRel.last {S : List (List UInt8)} {n i m g : Nat} {w : World} (h : InsRel S n i m g w) (hm : 1 ≤ m) : ∃ y, (squeeze (S.take (i + 1))).getLast? = some y ∧ w.cell? ⟨g, m - 1, none⟩ = some (Go.Proofs.encStr y) := by
  obtain ⟨hml, cs, hc, _, h1, _⟩ := h
  have hlt : m - 1 < (squeeze (S.take (i + 1))).length := by omega
  refine ⟨(squeeze (S.take (i + 1)))[m - 1], ?_, ?_⟩
  · rw [List.getLast?_eq_getElem?, ← hml, List.getElem?_eq_getElem hlt]
  · rw [cell_of_row _ _ _ _ _ _ hc]
    exact h1 _ _ (List.getElem?_eq_getElem hlt)
theorem take_getD (S : List (List UInt8)) (i : Nat) (h : i + 1 < S.length) : S.take (i + 1 + 1) = S.take (i + 1) ++ [S.getD (i + 1) []] := by
  rw [take_snoc_get S (i + 1) h, List.getD_eq_getElem?_getD, List.getElem?_eq_getElem h]
  rfl
theorem InsRel.same {S : List (List UInt8)} {n i m g : Nat} {w : World} (h : InsRel S n i m g w) (hi : i < n) (hS : S.length = n + 1) (hy : (squeeze (S.take (i + 1))).getLast? = some (S.getD (i + 1) [])) : InsRel S n (i + 1) m g w := by
  have e : squeeze (S.take (i + 1 + 1)) = squeeze (S.take (i + 1)) := by
    rw [take_getD S i (by omega), squeeze_snoc, sqStep, if_pos hy]
  obtain ⟨h0, cs, h1, h2, h3, h4⟩ := h
  exact ⟨by rw [e]; exact h0, cs, h1, h2, by rw [e]; exact h3, fun j x hj => h4 j x (by omega)⟩
theorem InsRel.more {S : List (List UInt8)} {n i m g : Nat} {w w' : World} {cs : Array Value} (h : InsRel S n i m g w) (hcs : w.heap[g]? = some (.cells cs 9 (0, 0))) (hi : i < n) (hm : m ≤ i + 1) (hS : S.length = n + 1) (hy : (squeeze (S.take (i + 1))).getLast? ≠ some (S.getD (i + 1) []))
    (hw : w'.heap[g]? = some (.cells (cs.setIfInBounds m (Go.Proofs.encStr (S.getD (i + 1) []))) 9 (0, 0))) : InsRel S n (i + 1) (m + 1) g w' := by
  have e : squeeze (S.take (i + 1 + 1)) = squeeze (S.take (i + 1)) ++ [S.getD (i + 1) []] := by
    rw [take_getD S i (by omega), squeeze_snoc, sqStep, if_neg hy]
  obtain ⟨h0, cs', h1, h2, h3, h4⟩ := h
  obtain rfl : cs' = cs := by rw [hcs] at h1; simpa using h1.symm
  refine ⟨by rw [e, List.length_append, ← h0]; rfl, _, hw, by simpa using h2, fun j x hj => ?_, fun j x hj hx => ?_⟩
  · rw [e] at hj
    rw [Array.getElem?_setIfInBounds]
    by_cases hjm : j < m
    · rw [List.getElem?_append_left (by omega)] at hj
      rw [if_neg (by omega)]
      exact h3 j x hj
    · rw [List.getElem?_append_right (by omega)] at hj
      have h5 : j - (squeeze (S.take (i + 1))).length = 0 := by
        have := (List.getElem?_eq_some_iff.1 hj).1
        simpa using this
      rw [h5] at hj
      simp only [List.getElem?_cons_zero, Option.some.injEq] at hj
      rw [if_pos (by omega), if_pos (by omega), hj]
  · rw [Array.getElem?_setIfInBounds, if_neg (by omega)]
    exact h4 j x (by omega) hx
theorem R_strs {w : World} {base g m cap : Nat} {cs : Array Value} (acc : List (List UInt8)) (hb : w.heap[g]? = some (.cells cs 9 (0, 0))) (hg : base ≤ g) (hm : m = acc.length) (hmc : m ≤ cap) (hcs : cs.size = cap) (hcap : cap ≤ maxLen)
    (h : ∀ (j : Nat) (x : List UInt8), acc[j]? = some x → cs[j]? = some (Go.Proofs.encStr x)) : Kd.R Kd.string 9 w base (fun _ => True) (.slice (some ⟨g, 0, none⟩) m cap) (acc.map fun x => ⟨x.toArray⟩) := by
  subst hm
  have ht : cs.toList.take acc.length = acc.map Go.Proofs.encStr := by
    apply List.ext_getElem?
    intro j
    by_cases hj : j < acc.length
    · rw [List.getElem?_take_of_lt hj, Array.getElem?_toList, List.getElem?_map, List.getElem?_eq_getElem hj]
      exact h j _ (List.getElem?_eq_getElem hj)
    · rw [List.getElem?_take_eq_none (by omega), List.getElem?_eq_none (by simp; omega)]
  refine ⟨fun _ _ => trivial, acc.map Go.Proofs.encStr, ⟨by simp [Kd.string, Kd.scalar], .inr ⟨g, cap, cs, by simp, hg, hb, by simpa using hmc, hcap, by simp [Kd.string, Kd.scalar, hcs], by simpa [Kd.string, Kd.scalar] using ht⟩⟩, by simp [Kd.string, Kd.scalar], fun j p hj => ?_⟩
  · simp only [List.getElem?_map, Option.map_eq_some_iff] at hj
    obtain ⟨x, hx, rfl⟩ := hj
    have hjl : j < acc.length := (List.getElem?_eq_some_iff.1 hx).1
    show _ = [_]
    simp only [Kd.string, Kd.scalar, Nat.mul_one]
    rw [← List.map_drop, ← List.map_take]
    have : (acc.drop j).take 1 = [x] := by
      rw [List.drop_eq_getElem_cons hjl, List.take_succ_cons, List.take_zero]
      have := List.getElem?_eq_getElem hjl
      rw [hx] at this
      rw [← Option.some.inj this]
    rw [this]
    rfl
theorem R_of_rel {S : List (List UInt8)} {n m base g : Nat} {w : World} (h : InsRel S n n m g w) (hS : S.length = n + 1) (hg : base ≤ g) (hn : n ≤ 1000000) (hm : m ≤ n + 1) : Kd.R Kd.string 9 w base (fun _ => True) (.slice (some ⟨g, 0, none⟩) m (n + 1)) ((squeeze S).map fun x => ⟨x.toArray⟩) := by
  obtain ⟨h0, cs, h1, h2, h3, _⟩ := h
  rw [List.take_of_length_le (by omega)] at h0 h3
  exact R_strs _ h1 hg h0 hm h2 (by unfold maxLen; omega) h3
set_option maxHeartbeats 2000000 in
theorem name_Insert.calls (A0 : Option Addr) (c0 : Nat) (l0 : List ByteArray) (a1 : ByteArray) (r : List ByteArray) (w : World) (hr0 : Kd.C Kd.string w A0 l0.length l0) (hc0 : l0.length ≤ c0) (h : name_Insert.f l0 a1 = some r) :
    Calls Tryd.prog 21 #[.slice A0 l0.length c0, .string a1] w fun e w' => ∃ v0_ : Value, e = .returned v0_ ∧ Kd.R Kd.string 9 w' w.heap.size (fun _ => True) v0_ r ∧ Below w.heap.size w w' := by
  have HR0 := Aside0.mk hr0
  clear hr0 hc0
  unfold name_Insert.f at h
  by_cases hb : l0.length ≤ 1000000
  · rw [if_pos hb] at h
    have HRR := Aside0.mk (Option.some.inj h).symm
    clear h
    obtain ⟨i0, hi, hzz⟩ := Option.map_eq_some_iff.1 info_string
    simp only [Prod.mk.injEq] at hzz
    obtain ⟨hz0, hz1, hz2⟩ := hzz
    obtain ⟨S, hS⟩ : ∃ S, S = (((l0 ++ [a1]).map fun x => x.data.toList).mergeSort fun x y => decide (x ≤ y)) := ⟨_, rfl⟩
    have HS := Aside0.mk hS
    have hSl : S.length = l0.length + 1 := by rw [hS]; simp
    clear hS
    go_enter Tryd.func21, Tryd.ntmps21
    go_upto_region 2 with (first | (with_reducible refine wpList_make_own _ rfl _ _ _ rfl w.heap.size 9 i0 _ 1 Tryd.underlying24 hi hz0 hz1 .i64 .i64 _ (l0.length + 1) rfl rfl (by simp) (by rw [hz2]; omega) (by unfold maxLen; omega) (Nat.le_refl _) ?_; intro w1 hown1 hg1) | (with_reducible refine wpList_append_strs rfl _ _ _ rfl w.heap.size 9 i0 Tryd.underlying24 hi hz1 _ _ _ _ rfl hown1 _ _ l0 rfl (Kd.C_below HR0.out ((Below.refl _ _).grown hg1 (Nat.le_refl _) (fun k hk => by cases hk))) (by simp; done) ?_; intro w2 hown2 hg2) | (with_reducible refine wpList_append_fits _ rfl _ _ _ rfl w.heap.size 9 i0 1 Tryd.underlying24 hi hz1 _ _ _ _ rfl (by simpa using hown2.alloc _) ⟨w2.heap.size, 0, none⟩ 1 1 [.string a1] rfl rfl (cell_one_new _ _ _) (by simp [Value.oneCell']) (by omega) ?_; intro w3 hown3 hg3))
    have hcur : w3.heap[w.heap.size]? = some (.cells ((((l0 ++ [a1]).map fun x => x.data.toList)).map Go.Proofs.encStr).toArray 9 (0, 0)) := by
      rw [row_full hown3]
      simp [encStr_data, Function.comp_def]
    have hb3 : Below w.heap.size w w3 := (((((Below.refl _ _).grown hg1 (Nat.le_refl _) (fun k hk => by cases hk)).grown hg2 hg1.size (fun k hk => by cases hk; exact Nat.le_refl _)).alloc (Nat.le_trans hg1.size hg2.size) _).grown hg3 (by have := Nat.le_trans hg1.size hg2.size; simp; omega) (fun k hk => by cases hk; exact Nat.le_refl _))
    have HB3 := Aside0.mk hb3
    have HC := Aside0.mk hcur
    clear hown1 hg1 hown2 hg2 hown3 hg3 hcur hb3
    go_upto_region 3 with (go_at_call 34; (with_reducible refine (sort_own w.heap.size (l0.length + 1) (l0.length + 1) _ w3 HC.out (by simp) (by omega)).mono ?_); rintro e w4 ⟨rfl, hg4, hc4⟩)
    have hb4 : Below w.heap.size w w4 := HB3.out.grown hg4 HB3.out.size (fun k hk => by cases hk; exact Nat.le_refl _)
    rw [← HS.out] at hc4
    have HB4 := Aside0.mk hb4
    have HC4 := Aside0.mk hc4
    clear HB3 HC hg4 hb4 hc4
    by_cases hn0 : l0.length = 0
    · obtain rfl := List.eq_nil_of_length_eq_zero hn0
      clear hn0
      have hrel0 : InsRel S 0 0 1 w.heap.size w4 := InsRel.start hSl HC4.out
      have HR4 := Aside0.mk hrel0
      clear hrel0
      go_wp2_with fail
      go_loopg [6, 25] 0 (fun gk v6 v25 w' => v25 = .int .i64 0 ∧ v6 = .slice (some ⟨w.heap.size, 0, none⟩) 1 1 ∧ Aside0 (w' = w4))
      case atStart => exact ⟨rfl, rfl, ⟨rfl⟩⟩
      case round =>
        obtain ⟨rfl, rfl, hw⟩ := hrel
        obtain rfl := hw.out
        go_wp2_with fail
        go_ret
        refine ⟨_, rfl, ?_, HB4.out⟩
        rw [HRR.out, insertS, ← HS.out]
        exact R_of_rel HR4.out hSl (Nat.le_refl _) hb (Nat.le_refl _)
    · have hn1 : 1 ≤ l0.length := by omega
      have hne : ¬ (l0 = []) := fun e => hn0 (by rw [e]; rfl)

      go_wp2_with fail
      go_loopg [6, 25] l0.length (fun gk v6 v25 w' => ∃ (i m : Nat), v25 = .int .i64 i ∧ v6 = .slice (some ⟨w.heap.size, 0, none⟩) m (l0.length + 1) ∧ i + gk = l0.length ∧ 1 ≤ m ∧ m ≤ i + 1 ∧ Aside0 (Below w.heap.size w w') ∧ Aside0 (InsRel S l0.length i m w.heap.size w'))
      case atStart => exact ⟨0, 1, rfl, rfl, by omega, Nat.le_refl _, by omega, HB4, ⟨InsRel.start hSl HC4.out⟩⟩
      case round =>
        obtain ⟨i, m, rfl, rfl, hi, hm1, hmi, HB5, hcs⟩ := hrel
        obtain ⟨go, rfl⟩ : ∃ go, go = gk := ⟨gk, rfl⟩
        have HI := Aside0.mk hi
        cases go with
        | zero =>
          have h1 : decide ((i : Int) < (l0.length : Int)) = false := decide_eq_false (by omega)
          have h2 : decide (i < l0.length) = false := decide_eq_false (by omega)
          have hil : i = l0.length := by omega
          rw [hil] at hcs
          clear hil hi
          go_wp2_with fail
          go_ret
          refine ⟨_, rfl, ?_, HB5.out⟩
          rw [HRR.out, insertS, ← HS.out]
          exact R_of_rel hcs.out hSl (Nat.le_refl _) hb (by have := HI.out; omega)
        | succ g =>
          have h1 : decide ((i : Int) < (l0.length : Int)) = true := decide_eq_true (by omega)
          have h2 : decide (i < l0.length) = true := decide_eq_true (by omega)
          have hin : i < l0.length := by omega
          clear hi
          have hx1 := hcs.out.next hin hSl
          obtain ⟨y, hy, hx2⟩ := hcs.out.last hm1
          have HY := Aside0.mk hy
          clear hy
          obtain ⟨x, hx⟩ : ∃ x, x = S.getD (i + 1) [] := ⟨_, rfl⟩
          rw [← hx] at hx1
          have HX := Aside0.mk hx
          clear hx
          obtain ⟨sx, hsx⟩ : ∃ sx : ByteArray, sx = ⟨x.toArray⟩ := ⟨_, rfl⟩
          obtain ⟨sy, hsy⟩ : ∃ sy : ByteArray, sy = ⟨y.toArray⟩ := ⟨_, rfl⟩
          replace hx1 : wr.cell? ⟨w.heap.size, 1 + i, none⟩ = some (.string sx) := by rw [hx1, hsx]
          replace hx2 : wr.cell? ⟨w.heap.size, m - 1, none⟩ = some (.string sy) := by rw [hx2, hsy]
          obtain ⟨cs, hc5, hcz⟩ := hcs.out.block
          have HC5 := Aside0.mk hc5
          have hz : m < cs.size := by omega
          clear hc5 hcz
          by_cases hxy : x = y
          · have hsxy : sx = sy := by rw [hsx, hsy, hxy]
            subst hsxy
            have HXY := Aside0.mk hxy
            clear hsx hsy hxy
            go_wp2_with fail
            go_roundg g
            case measure => omega
            case rel =>
              exact ⟨i + 1, m, by go_num, rfl, by have := HI.out; omega, hm1, by omega, HB5, ⟨hcs.out.same hin hSl (by rw [← HX.out, HXY.out]; exact HY.out)⟩⟩
          · have hl1 : sx.toList = x := by rw [hsx, ByteArray.toList_eq]
            have hl2 : sy.toList = y := by rw [hsy, ByteArray.toList_eq]
            have hne1 : (sx.toList != sy.toList) = true := by rw [hl1, hl2]; exact bne_iff_ne.mpr hxy
            have hne2 : (sx.toList == sy.toList) = false := by rw [hl1, hl2]; exact beq_eq_false_iff_ne.mpr hxy
            have HSX := Aside0.mk hsx
            have HXY := Aside0.mk hxy
            clear hsx hsy hxy hl1 hl2
            go_wp2_with (with_reducible refine wpList_append_room1 rfl _ _ _ rfl 9 i0 Tryd.underlying24 hi hz1 _ _ _ _ rfl (blk_alloc HC5.out _) (by omega) hz ⟨wr.heap.size, 0, none⟩ 1 (.string sx) rfl (blk_cell (blk_new _ _) 0) rfl ?_; intro w7 hg7 hc7)
            go_roundg g
            case measure => omega
            case rel =>
              refine ⟨i + 1, m + 1, by go_num, rfl, by have := HI.out; omega, by omega, by omega, ⟨?_⟩, ⟨?_⟩⟩
              · exact (HB5.out.alloc HB5.out.size _).grown hg7 (by have := HB5.out.size; simp; omega) (fun k hk => by cases hk; exact Nat.le_refl _)
              · refine hcs.out.more HC5.out hin (by omega) hSl ?_ ?_
                · rw [HY.out, ← HX.out]
                  intro e
                  exact HXY.out (Option.some.inj e).symm
                · rw [hc7, ← HX.out, HSX.out]
  · rw [if_neg hb] at h
    exact absurd h (by simp)

/-! ### name_Has: function 23 -/
def name_Has.l0 : Nat → ByteArray → List ByteArray → Int → Int → Option (Bool)
  | 0, _, _, _, _ => none
  | k + 1, x1, x7, x8, x9 => if x9 < x8 then (if 0 ≤ x9 then (if x9 < (x7.length : Int) then (if (rdOf ByteArray.empty x7 x9).toList = x1.toList then (some true) else (name_Has.l0 k x1 x7 x8 (wrap64 (x9 + 1)))) else (none)) else (none)) else (some false)
def name_Has.f (k : Nat) (l0 : List ByteArray) (a1 : ByteArray) : Option (Bool) := name_Has.l0 k a1 l0 (l0.length : Int) 0
theorem name_Has.mono_l : ∀ k, (∀ y0 y1 y2 y3, LeO (name_Has.l0 k y0 y1 y2 y3) (name_Has.l0 (k + 1) y0 y1 y2 y3))
  | 0 => fun _ _ _ _ r h => by simp [name_Has.l0] at h
  | k + 1 => by
    have ih0 := name_Has.mono_l k
    · intro y0 y1 y2 y3
      unfold name_Has.l0
      repeat' first
      | (with_reducible exact ih0 _ _ _ _)
      | (with_reducible exact LeO.refl _)
      | (with_reducible exact LeO.none _)
      | (with_reducible refine LeO.ite ?_ ?_)
      | (with_reducible refine LeO.bind ?_ (fun _ => ?_))
      | exact ih0 _ _ _ _
      | exact LeO.none _
      | refine LeO.ite ?_ ?_
      | refine LeO.bind ?_ (fun _ => ?_)
theorem name_Has.mono : ∀ a0 a1 k, LeO (name_Has.f k a0 a1) (name_Has.f (k + 1) a0 a1) := by
  intro a0 a1 k
  have ih0 := name_Has.mono_l k
  unfold name_Has.f
  repeat' first
      | (with_reducible exact ih0 _ _ _ _)
      | (with_reducible exact LeO.refl _)
      | (with_reducible exact LeO.none _)
      | (with_reducible refine LeO.ite ?_ ?_)
      | (with_reducible refine LeO.bind ?_ (fun _ => ?_))
      | exact ih0 _ _ _ _
      | exact LeO.none _
      | refine LeO.ite ?_ ?_
      | refine LeO.bind ?_ (fun _ => ?_)
set_option maxHeartbeats 8000000 in
set_option maxRecDepth 100000 in
theorem name_Has.calls (k : Nat) (A0 : Option Addr) (c0 : Nat) (l0 : List ByteArray) (a1 : ByteArray) (r : Bool) (w : World) (hr0 : Kd.C Kd.string w A0 l0.length l0) (hc0 : l0.length ≤ c0) (h : name_Has.f k l0 a1 = some r) :
    Calls Tryd.prog 23 #[.slice A0 l0.length c0, .string a1] w fun e w' => e = .returned (.bool r) ∧ Drawn0 w w' := by
  have HR0 := Aside0.mk hr0
  have HC0 := Aside0.mk hc0
  clear hr0 hc0
  have H : (name_Has.l0 k a1 l0 (l0.length : Int) 0) = some r := h
  clear h
  have H' := Aside0.mk H
  clear H
  go_enter Tryd.func23, Tryd.ntmps23
  go_wp2
  go_loopg [9] k (fun kq v9 w' => ∃ (x9_1 : Int), v9 = .int .i64 x9_1 ∧ Aside0 (name_Has.l0 kq a1 l0 (l0.length : Int) x9_1 = some r) ∧ Aside0 (kq ≤ k) ∧ Drawn0 w w')
  case atStart => exact ⟨(0), (by first | rfl | (simp; done) | (simp [*]; done)), H', ⟨Nat.le_refl _⟩, by repeat (first | exact Drawn0.refl _ | apply Drawn0.step)⟩
  case round =>
    clear H'
    try clear c2
    try clear p2
    obtain ⟨x9_1, rfl, HA, HK1, ⟨m1, rfl⟩⟩ := hrel
    cases gk with
    | zero => exact absurd HA.out (by simp [name_Has.l0])
    | succ k1 =>
      have H := HA.out
      clear HA
      simp only [name_Has.l0] at H
      by_cases c3 : x9_1 < (l0.length : Int)
      · rw [if_pos c3] at H
        have c3b0 : decide (x9_1 < (l0.length : Int)) = true := decide_eq_true c3
        clear c3
        by_cases c4 : 0 ≤ x9_1
        · rw [if_pos c4] at H
          have c4b0 : decide (0 ≤ x9_1) = true := decide_eq_true c4
          clear c4
          by_cases c5 : x9_1 < (l0.length : Int)
          · rw [if_pos c5] at H
            have c5b0 : decide (x9_1 < (l0.length : Int)) = true := decide_eq_true c5
            clear c5
            by_cases c6 : (rdOf ByteArray.empty l0 x9_1).toList = a1.toList
            · rw [if_pos c6] at H
              have c6b0 : ((rdOf ByteArray.empty l0 x9_1).toList == a1.toList) = true := beq_iff_eq.mpr c6
              have c6b1 : ((rdOf ByteArray.empty l0 x9_1).toList != a1.toList) = false := bne_eq_false_iff_eq.mpr c6
              clear c6
              obtain rfl := Option.some.inj H
              have p102 : 0 ≤ (x9_1 : Int) := of_decide_eq_true (by first | (with_reducible assumption) | assumption)
              have q102 : x9_1 < (l0.length : Int) := of_decide_eq_true (by first | (with_reducible assumption) | assumption)
              obtain ⟨ad102, e102, hx102_0⟩ := Kd.at_string HR0.out x9_1 p102 q102
              cases e102
              replace p102 := eq_true p102
              replace q102 := eq_true q102
              go_wp2
              go_ret
              exact ⟨by first | rfl | (simp; done) | (simp [*]; done), by repeat (first | exact Drawn0.refl _ | apply Drawn0.step)⟩
            · rw [if_neg c6] at H
              have c6b0 : ((rdOf ByteArray.empty l0 x9_1).toList == a1.toList) = false := beq_eq_false_iff_ne.mpr c6
              have c6b1 : ((rdOf ByteArray.empty l0 x9_1).toList != a1.toList) = true := bne_iff_ne.mpr c6
              have H' := Aside0.mk H
              clear H
              have p102 : 0 ≤ (x9_1 : Int) := of_decide_eq_true (by first | (with_reducible assumption) | assumption)
              have q102 : x9_1 < (l0.length : Int) := of_decide_eq_true (by first | (with_reducible assumption) | assumption)
              obtain ⟨ad102, e102, hx102_0⟩ := Kd.at_string HR0.out x9_1 p102 q102
              cases e102
              replace p102 := eq_true p102
              replace q102 := eq_true q102
              go_wp2
              go_roundg k1
              case measure => have := HK1.out; omega
              case rel => exact ⟨(wrap64 (x9_1 + 1)), (by first | rfl | (simp; done) | (simp [*]; done)), H', ⟨by have := HK1.out; omega⟩, by repeat (first | exact Drawn0.refl _ | apply Drawn0.step)⟩
          · rw [if_neg c5] at H
            exact absurd H (by simp)
        · rw [if_neg c4] at H
          exact absurd H (by simp)
      · rw [if_neg c3] at H
        have c3b0 : decide (x9_1 < (l0.length : Int)) = false := decide_eq_false c3
        clear c3
        obtain rfl := Option.some.inj H
        go_wp2
        go_ret
        exact ⟨by first | rfl | (simp; done) | (simp [*]; done), by repeat (first | exact Drawn0.refl _ | apply Drawn0.step)⟩

end Go.Proofs.YtjkdgbndpdfkiaaDoor.Q
