-- Written by a program of this session (mk.py) out of the translation; Lean checks it.
import Derived.Test.YtcfjdehpbckomaaQ0
namespace Go.Proofs.Ytcfjdehpbckomaa.Q
open Go.RowKit Go.Proofs.YtcfjdehpbckomaaW.PrintWords Go.Proofs.YtcfjdehpbckomaaW.PrintLast Go.Proofs.YtcfjdehpbckomaaW.PrintMore
attribute [local go_sem] max2_int min2_int max_two min_two max_three min_three max_four min_four   -- for this text's walks alone
set_option linter.unusedVariables false
set_option linter.unusedSimpArgs false

/-! ### slices_Equal_int_int: function 29 -/
def slices_Equal_int_int.l0 : Nat → List Int → List Int → Int → Int → Option (Bool)
 | 0, _, _, _, _ => none
 | k + 1, x0, x1, x12, x13 => if x13 < x12 then (if 0 ≤ x13 then (if x13 < (x0.length : Int) then (if x13 < (x1.length : Int) then (if (rd x0 x13) = (rd x1 x13) then (slices_Equal_int_int.l0 k x0 x1 x12 (wrap64 (x13 + 1))) else (some false)) else (none)) else (none)) else (none)) else (some true)
def slices_Equal_int_int.f (k : Nat) (l0 : List Int) (l1 : List Int) : Option (Bool) := if (l0.length : Int) = (l1.length : Int) then (slices_Equal_int_int.l0 k l0 l1 (l0.length : Int) 0) else (some false)
theorem slices_Equal_int_int.mono_l : ∀ k, (∀ y0 y1 y2 y3, LeO (slices_Equal_int_int.l0 k y0 y1 y2 y3) (slices_Equal_int_int.l0 (k + 1) y0 y1 y2 y3))
 | 0 => fun _ _ _ _ r h => by simp [slices_Equal_int_int.l0] at h
 | k + 1 => by
  have ih0 := slices_Equal_int_int.mono_l k
  ·intro y0 y1 y2 y3
   unfold slices_Equal_int_int.l0
   repeat' first
   | (with_reducible exact ih0 _ _ _ _)
   | (with_reducible exact LeO.refl _)
   | (with_reducible exact LeO.none _)
   | (with_reducible refine LeO.ite ?_ ?_)
   | (with_reducible refine LeO.bind ?_ (fun _ => ?_))
theorem slices_Equal_int_int.mono : ∀ a0 a1 k, LeO (slices_Equal_int_int.f k a0 a1) (slices_Equal_int_int.f (k + 1) a0 a1) := by
 intro a0 a1 k
 have ih0 := slices_Equal_int_int.mono_l k
 unfold slices_Equal_int_int.f
 repeat' first
   | (with_reducible exact ih0 _ _ _ _)
   | (with_reducible exact LeO.refl _)
   | (with_reducible exact LeO.none _)
   | (with_reducible refine LeO.ite ?_ ?_)
   | (with_reducible refine LeO.bind ?_ (fun _ => ?_))
set_option maxHeartbeats 8000000 in
set_option maxRecDepth 100000 in
theorem slices_Equal_int_int.calls (k : Nat) (A0 : Option Addr) (c0 : Nat) (l0 : List Int) (A1 : Option Addr) (c1 : Nat) (l1 : List Int) (r : Bool) (w : World) (hr0 : Kd.C (Kd.int .i64) w A0 l0.length l0) (hc0 : l0.length ≤ c0) (hr1 : Kd.C (Kd.int .i64) w A1 l1.length l1) (hc1 : l1.length ≤ c1) (h : slices_Equal_int_int.f k l0 l1 = some r) :
  Calls Try.prog 29 #[.slice A0 l0.length c0, .slice A1 l1.length c1] w fun e w' => e = .returned (.bool r) ∧ Drawn0 w w' := by
 have HR0 := Aside0.mk hr0
 have HC0 := Aside0.mk hc0
 clear hr0 hc0
 have HR1 := Aside0.mk hr1
 have HC1 := Aside0.mk hc1
 clear hr1 hc1
 have H : (if (l0.length : Int) = (l1.length : Int) then (slices_Equal_int_int.l0 k l0 l1 (l0.length : Int) 0) else (some false)) = some r := h
 clear h
 by_cases c3 : (l0.length : Int) = (l1.length : Int)
 ·rw [if_pos c3] at H
  have c3b0 : ((l0.length : Int) == (l1.length : Int)) = true := beq_iff_eq.mpr c3
  have c3b1 : ((l0.length : Int) != (l1.length : Int)) = false := bne_eq_false_iff_eq.mpr c3
  have c3b2 : (l0.length == l1.length) = true := by first | simpa using c3 | (simp at c3 ⊢; omega)
  clear c3
  have H' := Aside0.mk H
  clear H
  go_enter Try.func29, Try.ntmps29
  go_wp2
  repeat (go_quiet (fail); try go_wp2)
  go_loopg [13] k (fun kq v13 w' => ∃ (x13_1 : Int), v13 = .int .i64 x13_1 ∧ Aside0 (slices_Equal_int_int.l0 kq l0 l1 (l0.length : Int) x13_1 = some r) ∧ Aside0 (kq ≤ k) ∧ Drawn0 w w')
  case atStart => exact ⟨(0), SX, H', ⟨Nat.le_refl _⟩, by repeat (first | exact Drawn0.refl _ | apply Drawn0.step)⟩
  case round =>
   clear H'
   try clear c1
   try clear c2
   try clear p2
   try clear c3
   try clear c3b0
   try clear c3b1
   try clear c3b2
   obtain ⟨x13_1, rfl, HA, HK1, ⟨m1, rfl⟩⟩ := hrel
   cases gk with
   | zero => exact absurd HA.out (by simp [slices_Equal_int_int.l0])
   | succ k1 =>
    have H := HA.out
    clear HA
    simp only [slices_Equal_int_int.l0] at H
    by_cases c4 : x13_1 < (l0.length : Int)
    ·rw [if_pos c4] at H
     have c4b0 : decide (x13_1 < (l0.length : Int)) = true := decide_eq_true c4
     clear c4
     by_cases c5 : 0 ≤ x13_1
     ·rw [if_pos c5] at H
      have c5b0 : decide (0 ≤ x13_1) = true := decide_eq_true c5
      clear c5
      by_cases c6 : x13_1 < (l0.length : Int)
      ·rw [if_pos c6] at H
       have c6b0 : decide (x13_1 < (l0.length : Int)) = true := decide_eq_true c6
       clear c6
       by_cases c7 : x13_1 < (l1.length : Int)
       ·rw [if_pos c7] at H
        have c7b0 : decide (x13_1 < (l1.length : Int)) = true := decide_eq_true c7
        clear c7
        by_cases c8 : (rd l0 x13_1) = (rd l1 x13_1)
        ·rw [if_pos c8] at H
         have c8b0 : ((rd l0 x13_1) == (rd l1 x13_1)) = true := beq_iff_eq.mpr c8
         have c8b1 : ((rd l0 x13_1) != (rd l1 x13_1)) = false := bne_eq_false_iff_eq.mpr c8
         clear c8
         have H' := Aside0.mk H
         clear H
         have p120 : 0 ≤ (x13_1 : Int) := of_decide_eq_true AX
         have q120 : x13_1 < (l0.length : Int) := of_decide_eq_true AX
         obtain ⟨ad120, e120, hx120_0⟩ := Kd.at_int HR0.out x13_1 p120 q120
         cases e120
         replace p120 := eq_true p120
         replace q120 := eq_true q120
         have p121 : 0 ≤ (x13_1 : Int) := of_decide_eq_true AX
         have q121 : x13_1 < (l1.length : Int) := of_decide_eq_true AX
         obtain ⟨ad121, e121, hx121_0⟩ := Kd.at_int HR1.out x13_1 p121 q121
         cases e121
         replace p121 := eq_true p121
         replace q121 := eq_true q121
         go_wp2
         repeat (go_quiet (fail); try go_wp2)
         go_roundg k1
         case measure => have := HK1.out; omega
         case rel => exact ⟨(wrap64 (x13_1 + 1)), SX, H', ⟨by have := HK1.out; omega⟩, by repeat (first | exact Drawn0.refl _ | apply Drawn0.step)⟩
        ·rw [if_neg c8] at H
         have c8b0 : ((rd l0 x13_1) == (rd l1 x13_1)) = false := beq_eq_false_iff_ne.mpr c8
         have c8b1 : ((rd l0 x13_1) != (rd l1 x13_1)) = true := bne_iff_ne.mpr c8
         obtain rfl := Option.some.inj H
         have p120 : 0 ≤ (x13_1 : Int) := of_decide_eq_true AX
         have q120 : x13_1 < (l0.length : Int) := of_decide_eq_true AX
         obtain ⟨ad120, e120, hx120_0⟩ := Kd.at_int HR0.out x13_1 p120 q120
         cases e120
         replace p120 := eq_true p120
         replace q120 := eq_true q120
         have p121 : 0 ≤ (x13_1 : Int) := of_decide_eq_true AX
         have q121 : x13_1 < (l1.length : Int) := of_decide_eq_true AX
         obtain ⟨ad121, e121, hx121_0⟩ := Kd.at_int HR1.out x13_1 p121 q121
         cases e121
         replace p121 := eq_true p121
         replace q121 := eq_true q121
         go_wp2
         repeat (go_quiet (fail); try go_wp2)
         go_ret
         exact ⟨SX, by repeat (first | exact Drawn0.refl _ | apply Drawn0.step)⟩
       ·rw [if_neg c7] at H
        exact absurd H (by simp)
      ·rw [if_neg c6] at H
       exact absurd H (by simp)
     ·rw [if_neg c5] at H
      exact absurd H (by simp)
    ·rw [if_neg c4] at H
     have c4b0 : decide (x13_1 < (l0.length : Int)) = false := decide_eq_false c4
     clear c4
     obtain rfl := Option.some.inj H
     go_wp2
     repeat (go_quiet (fail); try go_wp2)
     go_ret
     exact ⟨SX, by repeat (first | exact Drawn0.refl _ | apply Drawn0.step)⟩
 ·rw [if_neg c3] at H
  have c3b0 : ((l0.length : Int) == (l1.length : Int)) = false := beq_eq_false_iff_ne.mpr c3
  have c3b1 : ((l0.length : Int) != (l1.length : Int)) = true := bne_iff_ne.mpr c3
  have c3b2 : (l0.length == l1.length) = false := by first | simpa using c3 | (simp at c3 ⊢; omega)
  obtain rfl := Option.some.inj H
  go_enter Try.func29, Try.ntmps29
  go_wp2
  repeat (go_quiet (fail); try go_wp2)
  go_ret
  exact ⟨SX, by repeat (first | exact Drawn0.refl _ | apply Drawn0.step)⟩

/-! ### tree_texts: function 77 (by hand) -/
def tree_texts.f (l : List ByteArray) : Option (List ByteArray) := if l.length ≤ 1000000 then some l else none
set_option maxHeartbeats 4000000 in
set_option maxRecDepth 100000 in
theorem tree_texts.calls (A0 : Option Addr) (c0 : Nat) (l0 : List ByteArray) (r : List ByteArray) (w : World) (hr0 : Kd.C Kd.string w A0 l0.length l0) (hc0 : l0.length ≤ c0) (h : tree_texts.f l0 = some r) :
  Calls Try.prog 77 #[.slice A0 l0.length c0] w fun e w' => ∃ v0_ : Value, e = .returned (v0_) ∧ Kd.R Kd.string 9 w' w.heap.size (fun _ => True) v0_ r ∧ Below w.heap.size w w' := by
 unfold tree_texts.f at h
 split at h
 case isFalse => cases h
 rename_i hl
 obtain rfl := Option.some.inj h
 clear h
 by_cases c : l0.length = 0
 ·have e1 : ((l0.length : Int) == 0) = true := beq_iff_eq.mpr (by omega)
  have e0 : l0 = [] := List.length_eq_zero_iff.1 c
  have HE := Aside0.mk e0
  clear e0 c
  go_enter Try.func77, Try.ntmps77
  go_wp2
  go_ret
  exact ⟨_, rfl, by rw [HE.out]; exact Kd.R_nil _ _ _ _ _, Below.refl _ _⟩
 ·have e1 : ((l0.length : Int) == 0) = false := beq_eq_false_iff_ne.mpr (by omega)
  have HR0 := Aside0.mk hr0
  clear hr0 c
  go_enter Try.func77, Try.ntmps77
  go_wp2_with (first
    | ((with_reducible refine gate_dst (N := 9) rfl ?_); refine Kd.R_make Kd.string (w0 := w) w.heap.size 9 rfl (N := 9) rfl 22 _ _ rfl (l0.length : Int) rfl rfl Try.underlying22 (.string ⟨#[]⟩) 16 info9 rfl (by decide) (by omega) (⟨#[]⟩ : ByteArray) (ok := fun _ => True) (okp := fun _ => True) rfl (fun _ hk => hk) trivial (by omega) (by omega) (Below.refl _ _) (Nat.le_refl _) ?_; intro v9 w6 ho6 hb6 hg6 hn6; simp only [Int.toNat_natCast] at ho6; obtain ⟨A6, c6, rfl⟩ := Kd.R_slice ho6; rw [List.length_replicate] at ho6; rw [List.length_replicate]; have HO6 := Aside0.mk ho6; have HB6 := Aside0.mk hb6; have HR0f := Aside0.mk (Kd.C_below HR0.out hb6); clear hn6 hg6 ho6 hb6)
    | ((with_reducible refine gate_builtin (b := .copy) (xs := #[.tmp 10, .tmp 11]) rfl ?_); refine Kd.R_copy (h1 := fun _ => rfl) (⟨#[]⟩ : ByteArray) (w0 := w) w.heap.size rfl (.tmp 10) (.tmp 11) 22 22 9 rfl Try.underlying22 (by kernel_rfl) (.slice A6 l0.length c6) (List.replicate l0.length (⟨#[]⟩ : ByteArray)) l0 A0 l0.length c0 (fun _ => True) rfl rfl HO6.out HR0f.out HB6.out HB6.out.size ?_; intro w7 ho7 hb7 hg7; have HO7 := Aside0.mk ho7; have HB7 := Aside0.mk hb7; clear ho7 hb7 hg7))
  go_ret
  refine ⟨_, rfl, ?_, HB7.out⟩
  have ho := HO7.out
  rw [List.length_replicate, Nat.min_self, List.take_length, List.drop_of_length_le (by rw [List.length_replicate]; exact Nat.le_refl _), List.append_nil] at ho
  exact ho

/-! ### tree_Rows: function 49 (by hand) -/
mutual
/-- The nodes of a tree, in order. -/
def preT : S25 → List S25 | ⟨a, b, c, l⟩ => ⟨a, b, c, l⟩ :: preL l
def preL : List S25 → List S25 | [] => [] | x :: l => preT x ++ preL l
end
theorem preT_eq (x : S25) : preT x = x :: preL x.f3 := by cases x; rw [preT]
theorem tree_ind {P : S25 → Prop} (h : ∀ x, (∀ y ∈ x.f3, P y) → P x) : ∀ x, P x := by
 have key : ∀ (n : Nat) (x : S25), SizeOf.sizeOf x ≤ n → P x := by
  intro n
  induction n with
  | zero => intro x hx; cases x; simp at hx
  | succ n ih =>
   intro x hx
   refine h x (fun y hy => ih y ?_)
   have h1 := List.sizeOf_lt_of_mem hy
   cases x
   simp at hx h1
   omega
 exact fun x => key _ x (Nat.le_refl _)
/-- The numbers of the kids of a node whose first kid has the number m. -/
def idxL : List S25 → Nat → List Int | [], _ => [] | y :: l, m => (m : Int) :: idxL l (m + (preT y).length)
mutual
/-- A tree's table: p the parent's number, n the root's. -/
def rowsT : S25 → Int → Nat → List S70 | ⟨a, b, c, l⟩, p, n => ⟨p, a, b, c, idxL l (n + 1)⟩ :: rowsL l n (n + 1)
def rowsL : List S25 → Nat → Nat → List S70 | [], _, _ => [] | y :: l, n, m => rowsT y n m ++ rowsL l n (m + (preT y).length)
end
theorem rowsT_eq (x : S25) (p : Int) (n : Nat) : rowsT x p n = ⟨p, x.f0, x.f1, x.f2, idxL x.f3 (n + 1)⟩ :: rowsL x.f3 n (n + 1) := by cases x; rw [rowsT]
theorem rowsT_len (x : S25) : ∀ (p : Int) (n : Nat), (rowsT x p n).length = (preT x).length := by
 induction x using tree_ind with
 | h x ih =>
 intro p n
 have key : ∀ (l : List S25), (∀ y ∈ l, y ∈ x.f3) → ∀ n m, (rowsL l n m).length = (preL l).length := by
  intro l
  induction l with
  | nil => intro _ n m; simp [rowsL, preL]
  | cons y l ihl =>
   intro hl n m
   rw [rowsL, preL, List.length_append, List.length_append, ih y (hl y (by simp)), ihl (fun z hz => hl z (by simp [hz]))]
 rw [rowsT_eq, preT_eq, List.length_cons, List.length_cons, key x.f3 (fun y hy => hy)]
theorem rowsL_len (l : List S25) : ∀ n m, (rowsL l n m).length = (preL l).length := by
 induction l with
 | nil => intro n m; simp [rowsL, preL]
 | cons y l ih => intro n m; rw [rowsL, preL, List.length_append, List.length_append, rowsT_len, ih]
theorem preL_append (a b : List S25) : preL (a ++ b) = preL a ++ preL b := by
 induction a with
 | nil => simp [preL]
 | cons y a ih => rw [List.cons_append, preL, preL, ih, List.append_assoc]
theorem rowsL_append (a b : List S25) (n : Nat) : ∀ m, rowsL (a ++ b) n m = rowsL a n m ++ rowsL b n (m + (preL a).length) := by
 induction a with
 | nil => intro m; simp [rowsL, preL]
 | cons y a ih =>
  intro m
  rw [List.cons_append, rowsL, rowsL, ih, preL, List.length_append, List.append_assoc, Nat.add_assoc]
theorem idxL_append (a b : List S25) : ∀ m, idxL (a ++ b) m = idxL a m ++ idxL b (m + (preL a).length) := by
 induction a with
 | nil => intro m; simp [idxL, preL]
 | cons y a ih =>
  intro m
  rw [List.cons_append, idxL, idxL, ih, preL, List.length_append, List.cons_append, Nat.add_assoc]
theorem idxL_len (l : List S25) : ∀ m, (idxL l m).length = l.length := by
 induction l with
 | nil => intro m; rfl
 | cons y l ih => intro m; rw [idxL, List.length_cons, ih, List.length_cons]
theorem take_succ_at (l : List S25) (i : Nat) (h : i < l.length) : l.take (i + 1) = l.take i ++ [l[i]] := by rw [List.take_add_one, List.getElem?_eq_getElem h]; rfl
theorem preL_take_le (l : List S25) (i : Nat) (h : i < l.length) : (preL (l.take i)).length + (preT l[i]).length ≤ (preL l).length := by
 have h1 := congrArg (fun z => (preL z).length) (List.take_append_drop (i + 1) l)
 simp only [preL_append, List.length_append, take_succ_at l i h, preL] at h1
 simp at h1
 omega
theorem preL_len (l : List S25) : l.length ≤ (preL l).length := by
 induction l with
 | nil => simp
 | cons x l ih => rw [preL, preT_eq]; simp; omega
theorem preL_mem {l : List S25} {y : S25} (h : y ∈ l) : ∀ z ∈ preT y, z ∈ preL l := by
 induction l with
 | nil => simp at h
 | cons v l ih =>
  intro z hz
  rw [preL, List.mem_append]
  rcases List.mem_cons.1 h with rfl | h
  ·exact Or.inl hz
  ·exact Or.inr (ih h z hz)
theorem R_ltn {α : Type} {d : Kd α} {e : Nat} {w : World} {base : Nat} {ok : Nat → Prop} {v : Value} {xs : List α} (h : d.R e w base ok v xs) : ∀ k, v.ownBlock = some k → k < w.heap.size := by
 obtain ⟨i, ho⟩ := Kd.R_own h
 exact own_lt ho
theorem gaps_own {α : Type} {d : Kd α} {e : Nat} {W w5 : World} {b n : Nat} {ok : Nat → Prop} {v u : Value} {xs : List α} {gs : List ByteArray} (hO : d.R e W b ok v xs) (hR : Kd.R Kd.string 9 w5 W.heap.size (fun _ => True) u gs) (hle : n ≤ W.heap.size) (hb : b ≤ W.heap.size) :
  Kd.R Kd.string 9 w5 b (fun k => n ≤ k ∧ some k ≠ v.ownBlock) u gs :=
 Kd.R_lower (Kd.R_mono (Kd.R_bound hR) (fun k hk => ⟨Nat.le_trans hle hk.2.1, fun e => by have := R_ltn hO k e.symm; have := hk.2.1; omega⟩)) hb
set_option maxHeartbeats 16000000 in
set_option maxRecDepth 100000 in
theorem list_calls (x : S25) : ∀ (xs : List S70) (p : Int) (A2 : Option Addr) (c2 : Nat) (A3 : Option Addr) (c3 : Nat) (P0 : Nat → Prop) (v : Value) (w0 w : World) (hb0 : Below w0.heap.size w0 w) (ho : Kd.R k70 70 w w0.heap.size P0 v xs) (h2 : Kd.C Kd.string w0 A2 x.f2.length x.f2) (l2 : x.f2.length ≤ c2) (h3 : Kd.C k25 w0 A3 x.f3.length x.f3) (l3 : x.f3.length ≤ c3) (hn : (preT x).length ≤ 1000000) (hxs : xs.length + (preT x).length ≤ 2000000) (hg : ∀ y ∈ preT x, y.f2.length ≤ 1000000),
  Calls Try.prog 63 #[v, .agg #[.int .i64 x.f0, .string x.f1, .slice A2 x.f2.length c2, .slice A3 x.f3.length c3], .int .i64 p] w fun e w' => ∃ v', e = .returned v' ∧ Kd.R k70 70 w' w0.heap.size (fun k => P0 k ∨ w.heap.size ≤ k) v' (xs ++ rowsT x p xs.length) ∧ Below w0.heap.size w0 w' ∧ Kept w w' P0 := by
 induction x using tree_ind with
 | h x ih =>
 intro xs p A2 c2 A3 c3 P0 v w0 w hb0 ho h2 l2 h3 l3 hn hxs hg
 have hu25 := Try.underlying25
 have hu70 := Try.underlying70
 have H2 := Aside0.mk h2
 have L2 := Aside0.mk l2
 have H3 := Aside0.mk h3
 have L3 := Aside0.mk l3
 have HN := Aside0.mk hn
 have HXS := Aside0.mk hxs
 have HGP := Aside0.mk hg
 have HT := Aside0.mk (show tree_texts.f x.f2 = some x.f2 from by unfold tree_texts.f; rw [if_pos (hg x (by rw [preT_eq]; simp))])
 have HB := Aside0.mk hb0
 have HK := Aside0.mk (Kept.refl w P0)
 have HO := Aside0.mk (show Kd.R k70 70 w w0.heap.size (fun k => P0 k ∨ w.heap.size ≤ k) v xs from Kd.R_mono ho (fun _ h => Or.inl h))
 clear h2 l2 h3 l3 hn hxs hg hb0 ho
 obtain ⟨Av, cv, rfl⟩ := Kd.R_slice HO.out
 have IHH := Aside0.mk ih
 have HVL := Aside0.mk (R_ltn HO.out)
 clear ih
 go_enter Try.func63, Try.ntmps63
 go_wp2_with (first | ((with_reducible refine gate_dst (N := 4) rfl ?_); refine box_event ?hg (N := 4) ?hd (cs := #[.int .i64 x.f0, .string x.f1, .slice A2 x.f2.length c2, .slice A3 x.f3.length c3]) (t := 25) ?hr ?_; (case hd => rfl); (case hg => rfl); (case hr => first | (go_simp; done) | (go_simp; rfl)); intro g4 hg w1 hbox hb; have n0_ := Aside0.mk (below_step HB.out hb); have n1_ := Aside0.mk (Kd.R_below HO.out hb); have n2_ := Aside0.mk (HK.out.below hb); have BK4 := Aside0.mk hbox; have GE4 := Aside0.mk (by rw [hg]; exact Nat.le_refl _ : w.heap.size ≤ g4); clear HB HO HK; have HB := n0_; have HO := n1_; have HK := n2_; clear n0_ n1_ n2_ hb hbox hg; have z40 := (blk_cell BK4.out 0).trans rfl; have z41 := (blk_cell BK4.out 1).trans rfl; have z42 := (blk_cell BK4.out 2).trans rfl; have z43 := (blk_cell BK4.out 3).trans rfl))
 have HV4 := Aside0.mk (fun e => by have := HVL.out g4 e.symm; have := GE4.out; omega : some g4 ≠ (Value.slice Av xs.length cv).ownBlock)
 go_region_held3 (fun w' => w'.cell? ⟨g4, 0, none⟩ = some (.int .i64 x.f0) ∧ w'.cell? ⟨g4, 1, none⟩ = some (.string x.f1) ∧ w'.cell? ⟨g4, 2, none⟩ = some (.slice A2 x.f2.length c2) ∧ w'.cell? ⟨g4, 3, none⟩ = some (.slice A3 x.f3.length c3)) (first | go_keep | exact ⟨(blk_cell BK4.out 0).trans rfl, (blk_cell BK4.out 1).trans rfl, (blk_cell BK4.out 2).trans rfl, (blk_cell BK4.out 3).trans rfl⟩ | exact ⟨(blk_cell (blk_alloc BK4.out _) 0).trans rfl, (blk_cell (blk_alloc BK4.out _) 1).trans rfl, (blk_cell (blk_alloc BK4.out _) 2).trans rfl, (blk_cell (blk_alloc BK4.out _) 3).trans rfl⟩) (first | (go_at_call 77; go_loud ((with_reducible refine (tree_texts.calls A2 c2 x.f2 x.f2 _ (Kd.C_below H2.out (by repeat (first | (with_reducible first | exact HB.out | apply pw_below_drewN | apply below_drew1) | exact HB.out))) L2.out HT.out).mono ?_); rintro e w5 ⟨v21, rfl, hg5, hb5⟩; obtain ⟨Ag, cg, rfl⟩ := Kd.R_slice hg5; have n0_ := Aside0.mk (below_step (by repeat (first | (with_reducible first | exact HB.out | apply pw_below_drewN | apply below_drew1) | exact HB.out)) hb5); have n1_ := Aside0.mk (Kd.R_below (RX HO.out) hb5); have n2_ := Aside0.mk (Kept.below (by repeat (first | (with_reducible first | exact HK.out | apply Kept.drewN | apply Kept.drew) | exact HK.out)) hb5); have n3_ := Aside0.mk (blk_below (g := g4) (o := .cells #[.int .i64 x.f0, .string x.f1, .slice A2 x.f2.length c2, .slice A3 x.f3.length c3] 25 (0, 0)) (by (with_reducible repeat (first | refine blk_drewN ?_ _ | refine blk_drew ?_ | refine blk_alloc ?_ _)); exact BK4.out) hb5); have HGAP := Aside0.mk (gaps_own (n := w.heap.size) (RX HO.out) hg5 (show Kept w _ P0 from (by repeat (first | (with_reducible first | exact HK.out | apply Kept.drewN | apply Kept.drew) | exact HK.out))).1 (show Below w0.heap.size w0 _ from (by repeat (first | (with_reducible first | exact HB.out | apply pw_below_drewN | apply below_drew1) | exact HB.out))).size); clear HB HO HK BK4; have HB := n0_; have HO := n1_; have HK := n2_; have BK4 := n3_; clear n0_ n1_ n2_ n3_ hg5 hb5)) | (refine Kd.R_append_step k70 (w0 := w0) w0.heap.size rfl (.tmp 13) (.tmp 23) 63 70 (.agg #[(.int .i64 0), (.int .i64 0), (.string ⟨#[]⟩), .slice none 0 0, .slice none 0 0]) 80 rfl Try.underlying63 (by kernel_rfl) rfl (by decide) (by omega) (.slice Av xs.length cv) xs ⟨p, x.f0, x.f1, x.f2, []⟩ [.int .i64 p, .int .i64 x.f0, .string x.f1, .slice Ag x.f2.length cg, .slice none 0 0] (fun k => P0 k ∨ w.heap.size ≤ k) (fun k => w.heap.size ≤ k ∧ some k ≠ (Value.slice Av xs.length cv).ownBlock) rfl rfl (k70_mkM _ _ _ _ HGAP.out (Kd.R_nil _ _ _ _ _)) (fun k hk => ⟨.inr hk.1, hk.2⟩) (fun k hk => .inr (Nat.le_trans HK.out.1 hk)) HO.out HB.out HB.out.size (by have := HXS.out; omega) ?_; intro v9 w9 ho9 hb9 hg9 hat9; have n0_ := Aside0.mk hb9; have n1_ := Aside0.mk ho9; have n2_ := Aside0.mk (Kept.of_grown (S := P0) hg9 HK.out (fun k e => HO.out.1 k e)); have n3_ := Aside0.mk ((hg9.block g4 (blk_lt BK4.out) HV4.out).trans BK4.out); clear HB HO HK BK4; have HB := n0_; have HO := n1_; have HK := n2_; have BK4 := n3_; clear n0_ n1_ n2_ n3_ ho9 hb9 hg9 hat9))
 obtain ⟨L, hL⟩ : ∃ L, L = xs ++ [(⟨p, x.f0, x.f1, x.f2, []⟩ : S70)] := ⟨_, rfl⟩
 rw [← hL] at HO
 have HLL := Aside0.mk hL
 have HLN := Aside0.mk (by rw [hL]; simp : L.length = xs.length + 1)
 obtain ⟨A9, c9, hv9⟩ := Kd.R_slice HO.out
 subst hv9
 clear hL
 have z43 := (blk_cell BK4.out 3).trans rfl
 clear z40 z41 z42 HGAP HVL HV4
 by_cases c : x.f3.length = 0
 ·have e1 : ((x.f3.length : Int) == 0) = true := beq_iff_eq.mpr (by omega)
  have e0 : x.f3 = [] := List.length_eq_zero_iff.1 c
  have HE := Aside0.mk e0
  clear e0 c
  go_wp2
  go_ret
  refine ⟨_, rfl, ?_, HB.out, HK.out⟩
  rw [rowsT_eq, HE.out, idxL, rowsL, ← HLL.out]
  exact HO.out
 ·have e1 : ((x.f3.length : Int) == 0) = false := beq_eq_false_iff_ne.mpr (by omega)
  have hk := preL_len x.f3
  have hkn : x.f3.length ≤ 1000000 := by have := HN.out; rw [preT_eq, List.length_cons] at this; omega
  have HC := Aside0.mk c
  have hc1 : (0 : Int) ≤ (x.f3.length : Int) := by omega
  have HKN := Aside0.mk hkn
  clear c hk hkn
  go_wp2_with (first | ((with_reducible refine gate_dst (N := 33) rfl ?_); refine Kd.R_make (Kd.int .i64) (w0 := w0) w0.heap.size 3 rfl (N := 33) rfl 26 _ _ rfl (x.f3.length : Int) rfl rfl Try.underlying26 (.int .i64 0) 8 (by kernel_rfl) rfl (by decide) (by omega) (0 : Int) (ok := fun k => w9.heap.size ≤ k) (okp := fun _ => False) rfl (fun _ hk => hk.elim) (Nat.le_refl _) (by omega) (by have := HKN.out; omega) HB.out HB.out.size ?_; intro v8 w10 ho8 hb8 hg8 hn8; simp only [Int.toNat_natCast] at ho8; obtain ⟨g8, cap8, hv8, _, _, _, _⟩ := Kd.R_form ho8 (by rw [List.length_replicate]; have := HC.out; omega); subst hv8; rw [List.length_replicate] at ho8 hn8; rw [List.length_replicate]; have HG8 := Aside0.mk (by obtain ⟨b, hb, hle⟩ := hn8; simp only [Value.ownBlock, Option.some.injEq] at hb; omega : w9.heap.size ≤ g8); have HKD := Aside0.mk (Kd.R_mono (Kd.R_tight rfl ho8) (fun k hk => by simpa [Value.ownBlock] using hk) : (Kd.int .i64).R 3 w10 w0.heap.size (fun k => k = g8) (.slice (some ⟨g8, 0, none⟩) x.f3.length cap8) (List.replicate x.f3.length (0 : Int))); have n0_ := Aside0.mk hb8; have n1_ := Aside0.mk (Kd.R_grown (Kd.R_mono (ok' := fun k => (P0 k ∨ w.heap.size ≤ k) ∧ k ≠ g8) (Kd.R_bound HO.out) (fun k hk => ⟨hk.1, by have := hk.2.2.1; have := HG8.out; omega⟩)) hg8 (fun k _ => by simp)); have n2_ := Aside0.mk (Kept.of_grown (S := P0) hg8 HK.out (fun k e => by cases e)); have n3_ := Aside0.mk ((hg8.block g4 (blk_lt BK4.out) (by simp)).trans BK4.out); have NE48 := Aside0.mk (by have := blk_lt BK4.out; have := HG8.out; omega : g4 ≠ g8); have GW8 := Aside0.mk (Nat.le_trans HK.out.1 HG8.out : w.heap.size ≤ g8); clear HB HO HK BK4 z43; have HB := n0_; have HO := n1_; have HK := n2_; have BK4 := n3_; have z43 := (blk_cell BK4.out 3).trans rfl; clear n0_ n1_ n2_ n3_ ho8 hb8 hg8 hn8))
  have hidx : Aside0 ((Kd.int .i64).R 3 w10 w0.heap.size (fun k => k = g8) (.slice (some ⟨g8, 0, none⟩) x.f3.length cap8) (idxL (x.f3.take 0) (xs.length + 1) ++ List.replicate (x.f3.length - 0) (0 : Int))) := ⟨by rw [List.take_zero, idxL, List.nil_append, Nat.sub_zero]; exact HKD.out⟩
  have hrow : Aside0 (Kd.R k70 70 w10 w0.heap.size (fun k => (P0 k ∨ w.heap.size ≤ k) ∧ k ≠ g8) (.slice A9 L.length c9) (L ++ rowsL (x.f3.take 0) xs.length (xs.length + 1))) := ⟨by rw [List.take_zero, rowsL, List.append_nil]; exact HO.out⟩
  clear HKD HO
  go_loopg [0, 9, 10, 37] x.f3.length (fun gk v0 v9 v10 v37 w' => ∃ (j : Nat) (Aj : Option Addr) (cj : Nat), v37 = .int .i64 j ∧ v0 = .slice Aj (L.length + (preL (x.f3.take j)).length) cj ∧ j + gk = x.f3.length ∧ Aside0 (Kd.R k70 70 w' w0.heap.size (fun k => (P0 k ∨ w.heap.size ≤ k) ∧ k ≠ g8) (.slice Aj (L.length + (preL (x.f3.take j)).length) cj) (L ++ rowsL (x.f3.take j) xs.length (xs.length + 1))) ∧ Aside0 ((Kd.int .i64).R 3 w' w0.heap.size (fun k => k = g8) (.slice (some ⟨g8, 0, none⟩) x.f3.length cap8) (idxL (x.f3.take j) (xs.length + 1) ++ List.replicate (x.f3.length - j) (0 : Int))) ∧ Aside0 (w'.heap[g4]? = some (.cells #[.int .i64 x.f0, .string x.f1, .slice A2 x.f2.length c2, .slice A3 x.f3.length c3] 25 (0, 0))) ∧ Aside0 (Below w0.heap.size w0 w') ∧ Aside0 (Kept w w' P0))
  case atStart =>
   refine ⟨0, A9, c9, rfl, ?_, by omega, ?_, hidx, BK4, HB, HK⟩
   ·rw [List.take_zero, preL]; rfl
   ·rw [List.take_zero, preL]; exact ⟨by rw [List.take_zero] at hrow; exact hrow.out⟩
  case round =>
   clear hidx hrow BK4 HB HK z43
   obtain ⟨j, Aj, cj, rfl, rfl, hj, HO, HKD, BK4, HB, HK⟩ := hrel
   obtain ⟨go, rfl⟩ : ∃ go, go = gk := ⟨gk, rfl⟩
   cases go with
   | zero =>
    have g1 : decide ((j : Int) < (x.f3.length : Int)) = false := decide_eq_false (by omega)
    have g2' : decide (j < x.f3.length) = false := decide_eq_false (by omega)
    have hkn : j = x.f3.length := by omega
    have HL0 := Aside0.mk (show 0 < (L ++ rowsL (x.f3.take j) xs.length (xs.length + 1)).length by have := HLN.out; rw [List.length_append]; omega)
    obtain ⟨gj, capj, hvj, hbj, hlj, cellsj, hcj⟩ := Kd.R_form HO.out HL0.out
    injection hvj with e1_ e2_ e3_
    subst e1_
    clear e2_ e3_ hbj hlj hcj cellsj capj
    have HNJ := Aside0.mk ((HO.out.1 gj (by simp [Value.ownBlock])) : (P0 gj ∨ w.heap.size ≤ gj) ∧ gj ≠ g8)
    have HI := Aside0.mk (show xs.length < L.length + (preL (x.f3.take j)).length by have := HLN.out; omega)
    have hi1 : (xs.length < L.length + (preL (x.f3.take j)).length) = True := eq_true HI.out
    have hi2 : ((0 : Int) ≤ (xs.length : Int)) = True := eq_true (by omega)
    have hi3 : ((xs.length : Int) < ((L.length + (preL (x.f3.take j)).length : Nat) : Int)) = True := eq_true (by have := HI.out; omega)
    have hi4 : ((xs.length : Int) < (L.length : Int) + ((preL (x.f3.take j)).length : Int)) = True := eq_true (by have := HI.out; omega)
    have HJ := Aside0.mk hkn
    clear hkn hj
    generalize hm : L.length + (preL (x.f3.take j)).length = m at HO HI hi1 hi3 ⊢
    have HM := Aside0.mk hm
    clear hm hi4
    have hx0 : (L ++ rowsL (x.f3.take j) xs.length (xs.length + 1)).getD ((xs.length : Nat) : Int).toNat z70 = (⟨p, x.f0, x.f1, x.f2, []⟩ : S70) := by
     rw [Int.toNat_natCast, HLL.out, List.append_assoc, List.getD_eq_getElem?_getD, List.getElem?_append_right (Nat.le_refl _)]
     simp
    obtain ⟨ce, hcl, hMc, hcc, _⟩ := Kd.R_elem HO.out z70 (xs.length : Int) (by omega) (by have := HI.out; omega)
    rw [hx0] at hMc
    obtain ⟨v3, v4, rfl, hg3, hg4⟩ := k70_openM hMc
    have HMK := Aside0.mk (k70_mkM wr w0.heap.size (fun k => (P0 k ∨ w.heap.size ≤ k) ∧ k ≠ gj) ⟨p, x.f0, x.f1, x.f2, idxL x.f3 (xs.length + 1)⟩ (Kd.R_mono hg3 (fun k hk => ⟨hk.1.1, hk.2⟩)) (Kd.R_mono (ok' := fun k => (P0 k ∨ w.heap.size ≤ k) ∧ k ≠ gj) HKD.out (fun k hk => by subst hk; exact ⟨.inr GW8.out, HNJ.out.2.symm⟩) |> fun z => by
     have e : idxL (x.f3.take j) (xs.length + 1) ++ List.replicate (x.f3.length - j) (0 : Int) = idxL x.f3 (xs.length + 1) := by rw [HJ.out, List.take_length, Nat.sub_self]; simp
     rw [e] at z
     exact z))
    have HCC := Aside0.mk hcc
    have HCL := Aside0.mk hcl
    have HRES := Aside0.mk (show (L ++ rowsL (x.f3.take j) xs.length (xs.length + 1)).set ((xs.length : Nat) : Int).toNat (⟨p, x.f0, x.f1, x.f2, idxL x.f3 (xs.length + 1)⟩ : S70) = xs ++ rowsT x p xs.length from by
     rw [Int.toNat_natCast, HLL.out, HJ.out, List.take_length, rowsT_eq, List.append_assoc, List.set_append_right _ _ (Nat.le_refl _), Nat.sub_self]
     rfl)
    clear hcl hMc hcc hg3 hg4 hx0
    go_wp2_with (first | ((with_reducible refine gate_store (t := 26) (p := 56) rfl ?_); go_loud (refine Kd.R_store k70 (w0 := w0) w0.heap.size rfl rfl 26 (.tmp 56) (.tmp 54) rfl 70 (xs.length : Int) 4 (L ++ rowsL (x.f3.take j) xs.length (xs.length + 1)) ⟨p, x.f0, x.f1, x.f2, idxL x.f3 (xs.length + 1)⟩ (.slice (some ⟨g8, 0, none⟩) x.f3.length cap8) [.slice (some ⟨g8, 0, none⟩) x.f3.length cap8] [.int .i64 p, .int .i64 x.f0, .string x.f1, v3, v4] (fun k => P0 k ∨ w.heap.size ≤ k) (fun k => (P0 k ∨ w.heap.size ≤ k) ∧ k ≠ gj) rfl (by first | rfl | (simp; done) | (rw [Int.toNat_natCast]; show _ = xs.length * 5 + 4; omega)) rfl rfl (by kernel_rfl) (fun q hq => by rw [List.mem_singleton.1 hq]; rfl) (Kd.R_mono HO.out (fun k hk => hk.1)) (by omega) (by have := HI.out; omega) HCL.out HCC.out (Nat.le_refl 5) HMK.out (fun k hk => hk) HB.out ?_; intro w11 ho11 hb11 hg11; rw [HRES.out] at ho11; have HOF := Aside0.mk ho11; have HBF := Aside0.mk hb11; have HKF := Aside0.mk (Kept.of_grown (S := P0) hg11 HK.out (fun k e => by injection e with e; subst e; exact HNJ.out.1)); clear ho11 hb11 hg11)))

    go_ret
    exact ⟨_, rfl, HOF.out, HBF.out, HKF.out⟩
   | succ g =>
    have hjl : j < x.f3.length := by omega
    have g1 : decide ((j : Int) < (x.f3.length : Int)) = true := decide_eq_true (by omega)
    have g2' : decide (j < x.f3.length) = true := decide_eq_true hjl
    have hq9 : (j < x.f3.length) = True := eq_true hjl
    have h0j : ((0 : Int) ≤ (j : Int)) = True := eq_true (by omega)
    have HJL := Aside0.mk hjl
    have HJ := Aside0.mk hj
    obtain ⟨ad, B2, d2, B3, d3, hA, q0, q1, q2, q3, m2, G2, m3, G3⟩ := at_T25 H3.out (j : Int) (by omega) (by omega)
    rw [Int.toNat_natCast] at q0 q1 q2 q3
    replace q0 := pw_cell_below HB.out q0
    replace q1 := pw_cell_below HB.out q1
    replace q2 := pw_cell_below HB.out q2
    replace q3 := pw_cell_below HB.out q3
    obtain ⟨y, hy⟩ : ∃ y, y = x.f3[j] := ⟨_, rfl⟩
    have hyr : rd_T25 x.f3 (j : Int) = y := by
     unfold rd_T25
     rw [Int.toNat_natCast, List.getD_eq_getElem?_getD, List.getElem?_eq_getElem hjl, Option.getD_some, hy]
    rw [hyr] at q0 q1 q2 q3 m2 G2 m3 G3
    have hym : y ∈ x.f3 := hy ▸ List.getElem_mem hjl
    have hpre := preL_take_le x.f3 j hjl
    rw [← hy] at hpre
    have hpx : (preT x).length = 1 + (preL x.f3).length := by rw [preT_eq, List.length_cons]; omega
    have hlen : (L ++ rowsL (x.f3.take j) xs.length (xs.length + 1)).length = xs.length + 1 + (preL (x.f3.take j)).length := by rw [List.length_append, HLN.out, rowsL_len]
    have htk : x.f3.take (j + 1) = x.f3.take j ++ [y] := by rw [take_succ_at _ _ hjl, hy]
    have HLIST := Aside0.mk (show (L ++ rowsL (x.f3.take j) xs.length (xs.length + 1)) ++ rowsT y (xs.length : Int) (L ++ rowsL (x.f3.take j) xs.length (xs.length + 1)).length = L ++ rowsL (x.f3.take (j + 1)) xs.length (xs.length + 1) from by
     rw [hlen, htk, rowsL_append, rowsL, rowsL, List.append_nil, List.append_assoc])
    have HLE := Aside0.mk (show (L ++ rowsL (x.f3.take (j + 1)) xs.length (xs.length + 1)).length = L.length + (preL (x.f3.take (j + 1))).length from by rw [List.length_append, rowsL_len])
    have HSET := Aside0.mk (show (idxL (x.f3.take j) (xs.length + 1) ++ List.replicate (x.f3.length - j) (0 : Int)).set ((j : Nat) : Int).toNat ((L.length + (preL (x.f3.take j)).length : Nat) : Int) = idxL (x.f3.take (j + 1)) (xs.length + 1) ++ List.replicate (x.f3.length - (j + 1)) (0 : Int) from by
     have e1 : (idxL (x.f3.take j) (xs.length + 1)).length = j := by rw [idxL_len, List.length_take]; omega
     rw [Int.toNat_natCast, List.set_append_right _ _ (by omega), e1, Nat.sub_self, htk, idxL_append, idxL, idxL, show x.f3.length - j = (x.f3.length - (j + 1)) + 1 by omega, List.replicate_succ, List.set_cons_zero, HLN.out, List.append_assoc]
     rfl)
    have IH := Aside0.mk (fun W (hb : Below w0.heap.size w0 W) {P1 : Nat → Prop} (hO : Kd.R k70 70 W w0.heap.size P1 (.slice Aj (L.length + (preL (x.f3.take j)).length) cj) (L ++ rowsL (x.f3.take j) xs.length (xs.length + 1))) => IHH.out y hym (L ++ rowsL (x.f3.take j) xs.length (xs.length + 1)) (xs.length : Int) B2 d2 B3 d3 P1 _ w0 W hb hO G2 m2 G3 m3 (by have := HN.out; omega) (by rw [hlen]; have := HXS.out; omega) (fun z hz => HGP.out z (by rw [preT_eq]; exact List.mem_cons_of_mem _ (preL_mem hym z hz))))
    subst hA
    clear hyr hym hpre hpx hlen htk m2 G2 m3 G3 hjl hj hy
    have z43 := (blk_cell BK4.out 3).trans rfl
    generalize hm : L.length + (preL (x.f3.take j)).length = m at HO IH HSET ⊢
    have HM := Aside0.mk hm
    clear hm
    go_wp2_with (first | (go_at_call 63; go_loud ((with_reducible refine (IH.out _ HB.out (Kd.R_types HO.out BK4.out (by decide))).mono ?_); rintro e w13 ⟨v', rfl, hR, hB', hK'⟩; rw [HLIST.out] at hR; obtain ⟨A', c', rfl⟩ := Kd.R_slice hR; have n0_ := Aside0.mk hB'; have n1_ := Aside0.mk (Kd.R_mono (ok' := fun k => (P0 k ∨ w.heap.size ≤ k) ∧ k ≠ g8) hR (fun k hk => by rcases hk with hk | hk; exact hk.1.1; exact ⟨.inr (Nat.le_trans HK.out.1 hk), by have := R_ltn HKD.out g8 (by simp [Value.ownBlock]); omega⟩)); have n2_ := Aside0.mk (HK.out.then_ hK' (fun k hk => hk.1.1.1)); have n3_ := Aside0.mk (blk_kept BK4.out hK' (fun hk => hk.2 rfl)); have n4_ := Aside0.mk (Kd.R_kept HKD.out hK' (fun k hk h2 => h2.1.1.2 hk)); clear HB HO HK BK4 HKD; have HB := n0_; have HO := n1_; have HK := n2_; have BK4 := n3_; have HKD := n4_; clear n0_ n1_ n2_ n3_ n4_ hR hB' hK' z100 z101 z102 z103)) | ((with_reducible refine gate_dst (N := 10) rfl ?_); refine box_event ?hg (N := 10) ?hd (cs := #[.int .i64 0, .string (⟨#[]⟩ : ByteArray), .slice none 0 0, .slice none 0 0]) (t := 25) ?hr ?_; (case hd => rfl); (case hg => rfl); (case hr => first | (go_simp; done) | (go_simp; rfl)); intro g10 hg wb hbox hb; have n0_ := Aside0.mk (below_step HB.out hb); have n1_ := Aside0.mk (Kd.R_below (Kd.R_mono (ok' := fun k => ((P0 k ∨ w.heap.size ≤ k) ∧ k ≠ g8) ∧ k ≠ g10) (Kd.R_bound HO.out) (fun k hk => ⟨hk.1, by have := hk.2.2.1; omega⟩)) hb); have n2_ := Aside0.mk (HK.out.below hb); have n3_ := Aside0.mk (blk_below BK4.out hb); have n4_ := Aside0.mk (Kd.R_below HKD.out hb); have NE10 := Aside0.mk (by have := blk_lt BK4.out; omega : g4 ≠ g10); have NE8 := Aside0.mk (by have := R_ltn HKD.out g8 (by simp [Value.ownBlock]); omega : g8 ≠ g10); have GE10 := Aside0.mk (by rw [hg]; exact HK.out.1 : w.heap.size ≤ g10); have GF10 := Aside0.mk (by rw [hg]; exact HB.out.size : w0.heap.size ≤ g10); have BK10 := Aside0.mk hbox; clear HB HO HK BK4 HKD; have HB := n0_; have HO := n1_; have HK := n2_; have BK4 := n3_; have HKD := n4_; clear n0_ n1_ n2_ n3_ n4_ hb hbox hg; have z100 := (blk_cell BK10.out 0).trans rfl; have y100 := blk_frozen BK10.out 0; have z101 := (blk_cell BK10.out 1).trans rfl; have y101 := blk_frozen BK10.out 1; have z102 := (blk_cell BK10.out 2).trans rfl; have y102 := blk_frozen BK10.out 2; have z103 := (blk_cell BK10.out 3).trans rfl; have y103 := blk_frozen BK10.out 3) | ((with_reducible refine gate_store (t := 3) (p := 46) rfl ?_); go_loud (have n0_ := Aside0.mk (below_set (j := 3) (v := (.slice B3 y.f3.length d3)) (below_set (j := 2) (v := (.slice B2 y.f2.length d2)) (below_set (j := 1) (v := (.string y.f1)) (below_set (j := 0) (v := (.int .i64 y.f0)) HB.out GF10.out) GF10.out) GF10.out) GF10.out); have n1_ := Aside0.mk (Kd.R_far (p := ⟨g10, 3, none⟩) (Kd.R_far (p := ⟨g10, 2, none⟩) (Kd.R_far (p := ⟨g10, 1, none⟩) (Kd.R_far (p := ⟨g10, 0, none⟩) HO.out (fun k hk => hk.2) (.int .i64 y.f0)) (fun k hk => hk.2) (.string y.f1)) (fun k hk => hk.2) (.slice B2 y.f2.length d2)) (fun k hk => hk.2) (.slice B3 y.f3.length d3)); have n2_ := Aside0.mk (Kept.setCell (p := ⟨g10, 3, none⟩) (Kept.setCell (p := ⟨g10, 2, none⟩) (Kept.setCell (p := ⟨g10, 1, none⟩) (Kept.setCell (p := ⟨g10, 0, none⟩) HK.out (.inr GE10.out) (.int .i64 y.f0)) (.inr GE10.out) (.string y.f1)) (.inr GE10.out) (.slice B2 y.f2.length d2)) (.inr GE10.out) (.slice B3 y.f3.length d3)); have n3_ := Aside0.mk (blk_far (p := ⟨g10, 3, none⟩) (blk_far (p := ⟨g10, 2, none⟩) (blk_far (p := ⟨g10, 1, none⟩) (blk_far (p := ⟨g10, 0, none⟩) BK4.out NE10.out (.int .i64 y.f0)) NE10.out (.string y.f1)) NE10.out (.slice B2 y.f2.length d2)) NE10.out (.slice B3 y.f3.length d3)); have n4_ := Aside0.mk (Kd.R_far (p := ⟨g10, 3, none⟩) (Kd.R_far (p := ⟨g10, 2, none⟩) (Kd.R_far (p := ⟨g10, 1, none⟩) (Kd.R_far (p := ⟨g10, 0, none⟩) HKD.out (fun k hk => by rw [hk]; exact NE8.out) (.int .i64 y.f0)) (fun k hk => by rw [hk]; exact NE8.out) (.string y.f1)) (fun k hk => by rw [hk]; exact NE8.out) (.slice B2 y.f2.length d2)) (fun k hk => by rw [hk]; exact NE8.out) (.slice B3 y.f3.length d3)); have n5_ := Aside0.mk (blk_put (cs := #[.int .i64 y.f0, .string y.f1, .slice B2 y.f2.length d2, .slice none 0 0]) (cs' := #[.int .i64 y.f0, .string y.f1, .slice B2 y.f2.length d2, .slice B3 y.f3.length d3]) (blk_put (cs := #[.int .i64 y.f0, .string y.f1, .slice none 0 0, .slice none 0 0]) (cs' := #[.int .i64 y.f0, .string y.f1, .slice B2 y.f2.length d2, .slice none 0 0]) (blk_put (cs := #[.int .i64 y.f0, .string (⟨#[]⟩ : ByteArray), .slice none 0 0, .slice none 0 0]) (cs' := #[.int .i64 y.f0, .string y.f1, .slice none 0 0, .slice none 0 0]) (blk_put (cs := #[.int .i64 0, .string (⟨#[]⟩ : ByteArray), .slice none 0 0, .slice none 0 0]) (cs' := #[.int .i64 y.f0, .string (⟨#[]⟩ : ByteArray), .slice none 0 0, .slice none 0 0]) BK10.out 0 (.int .i64 y.f0) rfl) 1 (.string y.f1) rfl) 2 (.slice B2 y.f2.length d2) rfl) 3 (.slice B3 y.f3.length d3) rfl); clear HB HO HK BK4 HKD BK10; have HB := n0_; have HO := n1_; have HK := n2_; have BK4 := n3_; have HKD := n4_; have BK10 := n5_; clear n0_ n1_ n2_ n3_ n4_ n5_; generalize ((((wb.setCell ⟨g10, 0, none⟩ (.int .i64 y.f0)).setCell ⟨g10, 1, none⟩ (.string y.f1)).setCell ⟨g10, 2, none⟩ (.slice B2 y.f2.length d2)).setCell ⟨g10, 3, none⟩ (.slice B3 y.f3.length d3)) = wc at HB HO HK BK4 HKD BK10 ⊢; clear z100 z101 z102 z103 y100 y101 y102 y103; obtain ⟨ce, hcl, hMc, hcc, _⟩ := Kd.R_elem HKD.out (0 : Int) (j : Int) (by omega) (by have := HJL.out; omega); refine Kd.R_store (Kd.int .i64) (w0 := w0) w0.heap.size rfl rfl 3 (.tmp 46) (.tmp 45) rfl 3 (j : Int) 0 (idxL (x.f3.take j) (xs.length + 1) ++ List.replicate (x.f3.length - j) (0 : Int)) ((m : Int)) (.int .i64 (m : Int)) [.int .i64 (m : Int)] ce (fun k => k = g8) (fun _ => False) rfl (by first | rfl | (rw [Int.toNat_natCast]; show _ = j * 1 + 0; omega)) rfl rfl (by kernel_rfl) (fun q hq => by rw [List.mem_singleton.1 hq]; rfl) HKD.out (by omega) (by have := HJL.out; omega) hcl hcc (Nat.le_refl 1) (by have h1 : ce.drop 1 = [] := List.drop_of_length_le (by rw [hcl]; exact Nat.le_refl 1); show ce.take 0 ++ _ ++ ce.drop (0 + 1) = _; rw [Nat.zero_add, h1]; rfl) (fun _ hk => hk.elim) HB.out ?_; intro w12 ho12 hb12 hg12; rw [HSET.out] at ho12; have n0_ := Aside0.mk hb12; have n1_ := Aside0.mk (Kd.R_grown HO.out hg12 (fun k hk e => hk.1.2 (by injection e))); have n2_ := Aside0.mk (Kept.of_grown (S := P0) hg12 HK.out (fun k e => by injection e with e; subst e; exact .inr GW8.out)); have n3_ := Aside0.mk ((hg12.block g4 (blk_lt BK4.out) (fun e => NE48.out (by injection e))).trans BK4.out); have n5_ := Aside0.mk ((hg12.block g10 (blk_lt BK10.out) (fun e => NE8.out (by injection e with e; exact e.symm))).trans BK10.out); clear HB HO HK BK4 HKD BK10; have HB := n0_; have HO := n1_; have HK := n2_; have BK4 := n3_; have HKD := Aside0.mk ho12; have BK10 := n5_; clear n0_ n1_ n2_ n3_ n5_ ho12 hb12 hg12; have z100 := (blk_cell BK10.out 0).trans rfl; have z101 := (blk_cell BK10.out 1).trans rfl; have z102 := (blk_cell BK10.out 2).trans rfl; have z103 := (blk_cell BK10.out 3).trans rfl)))
    go_roundg g
    case measure => omega
    case rel => exact ⟨j + 1, A', c', by have := HJL.out; have := HKN.out; exact congrArg (Value.int .i64) (show wrap64 ((j : Int) + 1) = ((j + 1 : Nat) : Int) from by unfold wrap64; omega), by first | rw [rowsL_len] | rw [HLE.out], by have := HJ.out; omega, ⟨by rw [← HLE.out]; exact HO.out⟩, HKD, BK4, HB, HK⟩
def treeOk (x : S25) : Bool := decide ((preT x).length ≤ 1000000) && (preT x).all (fun y => decide (y.f2.length ≤ 1000000))
def tree_Rows.f (a0_0 : Int) (a0_1 : ByteArray) (l0_2 : List ByteArray) (l0_3 : List (S25)) : Option (List (S70)) := if treeOk ⟨a0_0, a0_1, l0_2, l0_3⟩ = true then some (rowsT ⟨a0_0, a0_1, l0_2, l0_3⟩ (-1) 0) else none
set_option maxHeartbeats 8000000 in
set_option maxRecDepth 100000 in
theorem tree_Rows.calls (a0_0 : Int) (a0_1 : ByteArray) (A0_2 : Option Addr) (c0_2 : Nat) (l0_2 : List ByteArray) (A0_3 : Option Addr) (c0_3 : Nat) (l0_3 : List (S25)) (r : List (S70)) (w : World) (hr0_2 : Kd.C Kd.string w A0_2 l0_2.length l0_2) (hc0_2 : l0_2.length ≤ c0_2) (hr0_3 : Kd.C k25 w A0_3 l0_3.length l0_3) (hc0_3 : l0_3.length ≤ c0_3) (h : tree_Rows.f a0_0 a0_1 l0_2 l0_3 = some r) :
  Calls Try.prog 49 #[.agg #[.int .i64 a0_0, .string a0_1, .slice A0_2 l0_2.length c0_2, .slice A0_3 l0_3.length c0_3]] w fun e w' => ∃ v0_ : Value, e = .returned (v0_) ∧ Kd.R k70 70 w' w.heap.size (fun _ => True) v0_ r ∧ Below w.heap.size w w' := by
 unfold tree_Rows.f at h
 split at h
 case isFalse => cases h
 rename_i hok
 obtain rfl := Option.some.inj h
 clear h
 unfold treeOk at hok
 simp only [Bool.and_eq_true, decide_eq_true_eq, List.all_eq_true] at hok
 have hu25 := Try.underlying25
 have HB := Aside0.mk (Below.refl w.heap.size w)
 have HC := Aside0.mk (fun (W : World) (hb : Below w.heap.size w W) => list_calls ⟨a0_0, a0_1, l0_2, l0_3⟩ [] (-1) A0_2 c0_2 A0_3 c0_3 (fun _ => False) (.slice none 0 0) w W hb (Kd.R_nil _ _ _ _ _) hr0_2 hc0_2 hr0_3 hc0_3 hok.1 (by have := hok.1; simp only [List.length_nil]; omega) hok.2)
 clear hok hr0_2 hr0_3
 go_enter Try.func49, Try.ntmps49
 go_wp2_with (first | ((with_reducible refine gate_dst (N := 1) rfl ?_); refine box_event ?hg (N := 1) ?hd (cs := #[.int .i64 a0_0, .string a0_1, .slice A0_2 l0_2.length c0_2, .slice A0_3 l0_3.length c0_3]) (t := 25) ?hr ?_; (case hd => rfl); (case hg => rfl); (case hr => first | (go_simp; done) | (go_simp; rfl)); intro g1 hg w1 hbox hb; have n0_ := Aside0.mk (below_step HB.out hb); clear HB; have HB := n0_; have z0 := (blk_cell hbox 0).trans rfl; have z1 := (blk_cell hbox 1).trans rfl; have z2 := (blk_cell hbox 2).trans rfl; have z3 := (blk_cell hbox 3).trans rfl; clear n0_ hb hbox hg) | (go_at_call 63; go_loud ((with_reducible refine (HC.out _ HB.out).mono ?_); rintro e w3 ⟨v', rfl, hR, hB', hK'⟩; obtain ⟨A', c', rfl⟩ := Kd.R_slice hR; have HR := Aside0.mk hR; have HBF := Aside0.mk hB'; clear hR hB' hK' z0 z1 z2 z3)))
 go_ret
 exact ⟨_, rfl, Kd.R_mono HR.out (fun _ _ => trivial), HBF.out⟩

end Go.Proofs.Ytcfjdehpbckomaa.Q
