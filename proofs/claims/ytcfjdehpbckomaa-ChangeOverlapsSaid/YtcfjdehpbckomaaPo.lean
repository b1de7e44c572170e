/- ChangeOverlaps returns true: proved here by steps through the program's text; no condition but those that stand in each theorem. -/
import Derived.WalkSpells
import Derived.Test.YtcfjdehpbckomaaQ0
import Derived.Test.YtcfjdehpbckomaaQ8
import Derived.Test.YtcfjdehpbckomaaQ7
import Derived.Test.YtcfjdehpbckomaaQ5
namespace Go.Proofs.Ytcfjdehpbckomaa.Scratch
set_option linter.unusedVariables false
open Go.RowKit Go.Proofs.YtcfjdehpbckomaaW.PrintWords Go.Proofs.YtcfjdehpbckomaaW.PrintLast Go.Proofs.YtcfjdehpbckomaaW.PrintMore Go.Proofs.Ytcfjdehpbckomaa.Q
attribute [local go_sem] max2_int min2_int max_two min_two max_three min_three max_four min_four
theorem Ev.pos {α : Type} {c : Prop} [Decidable c] {A B : Nat → Option α} {r : α} (h : c) (k : Ev A r) : Ev (fun n => if c then A n else B n) r := by simpa only [if_pos h] using k
theorem Ev.neg {α : Type} {c : Prop} [Decidable c] {A B : Nat → Option α} {r : α} (h : ¬ c) (k : Ev B r) : Ev (fun n => if c then A n else B n) r := by simpa only [if_neg h] using k
theorem Ev.cast {α : Type} {g : Nat → Option α} {r r' : α} (h : r = r') (k : Ev g r) : Ev g r' := h ▸ k
theorem Ev.known {α β : Type} {o : Option α} {f : Nat → α → Option β} {a : α} {r : β} (h : o = some a) (k : Ev (fun n => f n a) r) : Ev (fun n => o.bind (f n)) r := by subst h; exact k
set_option maxRecDepth 100000 in
theorem awake_g : treemergelaw31_awake.g = some true := by decide +kernel
theorem awake_f : treemergelaw31_awake.f = some true := by unfold treemergelaw31_awake.f; rw [if_pos awake_g]
theorem awake_ev : Ev (fun _ => (treemergelaw31_awake.f).bind fun t => some t) true := by rw [awake_f]; exact Ev.now true
theorem wrap_up {i n : Nat} (h : i < n) (hn : n ≤ 140737488351232) : wrap64 ((i : Int) + 1) = ((i + 1 : Nat) : Int) := by unfold wrap64; omega
theorem rd_at {l : List Int} {i : Nat} (h : i < l.length) : rd l (i : Int) = l[i] := by simp [rd, List.getD_eq_getElem?_getD, List.getElem?_eq_getElem h]
theorem rd48_at {l : List S48} {i : Nat} (h : i < l.length) : rd_T48 l (i : Int) = l[i] := by simp [rd_T48, List.getD_eq_getElem?_getD, List.getElem?_eq_getElem h]
theorem same_loop (a b : List Int) (hab : a = b) (ha : a.length ≤ 1000000) : ∀ (d i : Nat), i + d = a.length → Ev (fun k => treemergelaw31_same.l0 k a b (i : Int)) true := by
  subst hab
  intro d
  induction d with
  | zero =>
    intro i hi
    exact Ev.step (fun k => by rw [treemergelaw31_same.l0]) (Ev.neg (by omega) (Ev.now true))
  | succ d ih =>
    intro i hi
    have h : i < a.length := by omega
    refine Ev.step (fun k => by rw [treemergelaw31_same.l0]) (Ev.pos (by omega) (Ev.pos (by omega) (Ev.pos (by omega) (Ev.pos rfl ?_))))
    rw [wrap_up h (by omega)]
    exact ih (i + 1) (by omega)
theorem same_ev (a b : List Int) (hab : a = b) (ha : a.length ≤ 1000000) : Ev (fun k => treemergelaw31_same.f k a b) true := by
  unfold treemergelaw31_same.f
  exact Ev.pos (by rw [hab]) (same_loop a b hab ha a.length 0 (by omega))

def clsh (c d : S48) : Bool := decide (c.f0 = d.f0) && ovl c.f1 d.f1
theorem insAsc_len (a : Int) : ∀ l : List Int, (insAsc a l).length ≤ l.length + 1
  | [] => by simp [insAsc]
  | b :: l => by
    rw [insAsc]
    split
    · simp
    · split
      · simp
      · have := insAsc_len a l
        simp only [List.length_cons]
        omega
def ovIn (c : S48) (y : List S48) (out : List Int) : List Int := y.foldl (fun o d => if clsh c d = true then insAsc c.f0 o else o) out
def ovOut (x y : List S48) (out : List Int) : List Int := x.foldl (fun o c => ovIn c y o) out
theorem ovIn_len (c : S48) : ∀ (y : List S48) (out : List Int), (ovIn c y out).length ≤ out.length + y.length
  | [], out => by simp [ovIn]
  | d :: y, out => by
    have := ovIn_len c y (if clsh c d = true then insAsc c.f0 out else out)
    simp only [ovIn, List.foldl_cons, List.length_cons] at this ⊢
    have h2 : (if clsh c d = true then insAsc c.f0 out else out).length ≤ out.length + 1 := by
      split
      · exact insAsc_len _ _
      · omega
    omega
theorem ovIn_asc (c : S48) : ∀ (y : List S48) (out : List Int), out.Pairwise (· < ·) → (ovIn c y out).Pairwise (· < ·)
  | [], out, h => h
  | d :: y, out, h => by
    refine ovIn_asc c y (if clsh c d = true then insAsc c.f0 out else out) ?_
    split
    · exact insAsc_asc _ _ h
    · exact h
theorem ovOut_asc (y : List S48) : ∀ (x : List S48) (out : List Int), out.Pairwise (· < ·) → (ovOut x y out).Pairwise (· < ·)
  | [], out, h => h
  | c :: x, out, h => ovOut_asc y x _ (ovIn_asc c y out h)
theorem ovIn_mem (c : S48) (a : Int) : ∀ (y : List S48) (out : List Int), a ∈ ovIn c y out ↔ a ∈ out ∨ (a = c.f0 ∧ ∃ d ∈ y, clsh c d = true)
  | [], out => by simp [ovIn]
  | d :: y, out => by
    have h := ovIn_mem c a y (if clsh c d = true then insAsc c.f0 out else out)
    have e : ovIn c (d :: y) out = ovIn c y (if clsh c d = true then insAsc c.f0 out else out) := rfl
    rw [e, h]
    by_cases hc : clsh c d = true
    · rw [if_pos hc, insAsc_mem]
      constructor
      · rintro ((h | h) | ⟨h, z, hz, hz2⟩)
        · exact .inr ⟨h, d, by simp, hc⟩
        · exact .inl h
        · exact .inr ⟨h, z, List.mem_cons_of_mem _ hz, hz2⟩
      · rintro (h | ⟨h, _⟩)
        · exact .inl (.inr h)
        · exact .inl (.inl h)
    · rw [if_neg hc]
      constructor
      · rintro (h | ⟨h, z, hz, hz2⟩)
        · exact .inl h
        · exact .inr ⟨h, z, List.mem_cons_of_mem _ hz, hz2⟩
      · rintro (h | ⟨h, z, hz, hz2⟩)
        · exact .inl h
        · rcases List.mem_cons.1 hz with rfl | hz
          · exact absurd hz2 hc
          · exact .inr ⟨h, z, hz, hz2⟩
theorem ovOut_mem (y : List S48) (a : Int) : ∀ (x : List S48) (out : List Int), a ∈ ovOut x y out ↔ a ∈ out ∨ ∃ c ∈ x, a = c.f0 ∧ ∃ d ∈ y, clsh c d = true
  | [], out => by simp [ovOut]
  | c :: x, out => by
    have e : ovOut (c :: x) y out = ovOut x y (ovIn c y out) := rfl
    rw [e, ovOut_mem y a x, ovIn_mem]
    constructor
    · rintro ((h | h) | ⟨z, hz, h⟩)
      · exact .inl h
      · exact .inr ⟨c, by simp, h⟩
      · exact .inr ⟨z, List.mem_cons_of_mem _ hz, h⟩
    · rintro (h | ⟨z, hz, h⟩)
      · exact .inl (.inl h)
      · rcases List.mem_cons.1 hz with rfl | hz
        · exact .inl (.inr h)
        · exact .inr ⟨z, hz, h⟩
theorem groupTo_mem (x : List S48) (a f : Int) : ∀ n, n ≤ x.length → (f ∈ (glook (groupTo x n) a).getD [] ↔ ∃ i, ∃ h : i < x.length, i < n ∧ x[i].f0 = a ∧ x[i].f1 = f)
  | 0, _ => by simp [groupTo, glook]
  | n + 1, hn => by
    have hx : x.getD n z48 = x[n] := by rw [List.getD_eq_getElem?_getD, List.getElem?_eq_getElem (by omega), Option.getD_some]
    have ih := groupTo_mem x a f n (by omega)
    rw [groupTo, hx, glook_put]
    by_cases e : a = x[n].f0
    · rw [if_pos e, Option.getD_some, List.mem_append, List.mem_singleton, ← e, ih]
      constructor
      · rintro (⟨i, h, h1, h2⟩ | h)
        · exact ⟨i, h, by omega, h2⟩
        · exact ⟨n, by omega, by omega, e.symm, h.symm⟩
      · rintro ⟨i, h, h1, h2, h3⟩
        by_cases hin : i = n
        · subst hin; exact .inr h3.symm
        · exact .inl ⟨i, h, by omega, h2, h3⟩
    · rw [if_neg e, ih]
      constructor
      · rintro ⟨i, h, h1, h2⟩
        exact ⟨i, h, by omega, h2⟩
      · rintro ⟨i, h, h1, h2, h3⟩
        have : i ≠ n := by rintro rfl; exact e h2.symm
        exact ⟨i, h, by omega, h2, h3⟩
theorem foundTo_mem (G : List (Int × List Int)) (y : List S48) (a : Int) : ∀ n, n ≤ y.length → (a ∈ foundTo G y n ↔ ∃ i, ∃ h : i < y.length, i < n ∧ y[i].f0 = a ∧ ((glook G a).getD []).any (fun f => ovl f y[i].f1) = true)
  | 0, _ => by simp [foundTo]
  | n + 1, hn => by
    have hy : y.getD n z48 = y[n] := by rw [List.getD_eq_getElem?_getD, List.getElem?_eq_getElem (by omega), Option.getD_some]
    have ih := foundTo_mem G y a n (by omega)
    have step : (∃ i, ∃ h : i < y.length, i < n + 1 ∧ y[i].f0 = a ∧ ((glook G a).getD []).any (fun f => ovl f y[i].f1) = true) ↔ (a ∈ foundTo G y n ∨ (y[n].f0 = a ∧ ((glook G a).getD []).any (fun f => ovl f y[n].f1) = true)) := by
      rw [ih]
      constructor
      · rintro ⟨i, h, h1, h2, h3⟩
        by_cases hin : i = n
        · subst hin; exact .inr ⟨h2, h3⟩
        · exact .inl ⟨i, h, by omega, h2, h3⟩
      · rintro (⟨i, h, h1, h2⟩ | h)
        · exact ⟨i, h, by omega, h2⟩
        · exact ⟨n, by omega, by omega, h⟩
    rw [step, foundTo, hy]
    by_cases hc : ((glook G y[n].f0).getD []).any (fun f => ovl f y[n].f1) = true
    · rw [if_pos hc]
      by_cases hm : y[n].f0 ∈ foundTo G y n
      · rw [if_pos hm]
        constructor
        · exact .inl
        · rintro (h | ⟨h, _⟩)
          · exact h
          · rw [← h]; exact hm
      · rw [if_neg hm, List.mem_append, List.mem_singleton]
        constructor
        · rintro (h | h)
          · exact .inl h
          · exact .inr ⟨h.symm, by rw [h]; exact hc⟩
        · rintro (h | ⟨h, _⟩)
          · exact .inl h
          · exact .inr h.symm
    · rw [if_neg hc]
      constructor
      · exact .inl
      · rintro (h | ⟨h, h2⟩)
        · exact h
        · rw [← h] at h2; exact absurd h2 hc
/-- The two lists of identifiers are one. -/
theorem overlap_same (x y : List S48) : ascL (foundTo (groupTo x x.length) y y.length) = ovOut x y [] := by
  refine ext_asc (ascL_asc _) (ovOut_asc y x [] List.Pairwise.nil) (fun a => ?_)
  rw [ascL_mem, foundTo_mem _ _ _ _ (Nat.le_refl _), ovOut_mem]
  constructor
  · rintro ⟨i, h, _, h1, h2⟩
    obtain ⟨f, hf, ho⟩ := List.any_eq_true.1 h2
    obtain ⟨j, hj, _, h3, h4⟩ := (groupTo_mem x a f x.length (Nat.le_refl _)).1 hf
    refine .inr ⟨x[j], List.getElem_mem hj, h3.symm, y[i], List.getElem_mem h, ?_⟩
    unfold clsh
    rw [h3, h1, h4, decide_eq_true rfl, ho]
    rfl
  · rintro (h | ⟨c, hc, rfl, d, hd, hcl⟩)
    · cases h
    · obtain ⟨j, hj, rfl⟩ := List.getElem_of_mem hc
      obtain ⟨i, hi, rfl⟩ := List.getElem_of_mem hd
      unfold clsh at hcl
      rw [Bool.and_eq_true, decide_eq_true_eq] at hcl
      refine ⟨i, hi, hi, hcl.1.symm, List.any_eq_true.2 ⟨x[j].f1, ?_, hcl.2⟩⟩
      exact (groupTo_mem x _ _ x.length (Nat.le_refl _)).2 ⟨j, hj, hj, rfl, rfl⟩
theorem ovOut_len (y : List S48) : ∀ (x : List S48) (out : List Int), (ovOut x y out).length ≤ out.length + x.length * y.length
  | [], out => by simp [ovOut]
  | c :: x, out => by
    have e : ovOut (c :: x) y out = ovOut x y (ovIn c y out) := rfl
    have h1 := ovOut_len y x (ovIn c y out)
    have h2 := ovIn_len c y out
    rw [e, List.length_cons, Nat.add_mul]
    omega

theorem clash_f (c d : S48) : treemergeref31_Clash.f c.f0 c.f1 d.f0 d.f1 = some (clsh c d) := by
  unfold treemergeref31_Clash.f clsh ovl
  by_cases h : c.f0 = d.f0
  · rw [if_pos h, decide_eq_true h, Bool.true_and]
    by_cases h2 : c.f1 = d.f1
    · rw [if_pos h2, if_pos h2]
      by_cases h3 : c.f1 = 1
      · rw [if_pos h3, decide_eq_false (fun z => z h3)]; rfl
      · rw [if_neg h3, decide_eq_true h3, Bool.true_and]
        congr 1
        by_cases h4 : c.f1 = 2 <;> simp [h4]
    · rw [if_neg h2, if_neg h2]
      by_cases h3 : c.f1 = 2
      · rw [if_pos h3, decide_eq_true h3]; rfl
      · rw [if_neg h3, decide_eq_false h3, Bool.false_or]
        rfl
  · rw [if_neg h, decide_eq_false h]; rfl
theorem rising_done (l : List Int) (n : Int) (hl : l.length ≤ 1000000) : ∀ (d i : Nat) (out : List Int), i + d = l.length → out.length ≤ i + 1 → Ev (fun k => treemergeref31_rising.l0 k l n out true (i : Int)) (out ++ l.drop i) := by
  intro d
  induction d with
  | zero =>
    intro i out hi ho
    refine Ev.step (fun k => by rw [treemergeref31_rising.l0]) (Ev.neg (by omega) (Ev.pos rfl ?_))
    rw [List.drop_of_length_le (by omega), List.append_nil]
    exact Ev.now _
  | succ d ih =>
    intro i out hi ho
    have h : i < l.length := by omega
    refine Ev.step (fun k => by rw [treemergeref31_rising.l0]) (Ev.pos (by omega) (Ev.pos rfl ?_))
    refine Ev.step (fun k => by rw [treemergeref31_rising.j1]) (Ev.neg (by simp) (Ev.pos (by omega) (Ev.pos (by omega) (Ev.pos (by omega) ?_))))
    rw [rd_at h, wrap_up h (by omega)]
    refine Ev.cast ?_ (ih (i + 1) (out ++ [l[i]]) (by omega) (by simp; omega))
    rw [List.drop_eq_getElem_cons h, List.append_assoc]
    rfl
theorem rising_loop (l : List Int) (n : Int) (hl : l.length ≤ 1000000) : ∀ (d i : Nat) (out : List Int), i + d = l.length → out.length ≤ i → Ev (fun k => treemergeref31_rising.l0 k l n out false (i : Int)) (out ++ insAsc n (l.drop i)) := by
  intro d
  induction d with
  | zero =>
    intro i out hi ho
    refine Ev.step (fun k => by rw [treemergeref31_rising.l0]) (Ev.neg (by omega) (Ev.neg (by simp) (Ev.pos (by omega) ?_)))
    rw [List.drop_of_length_le (by omega)]
    exact Ev.now _
  | succ d ih =>
    intro i out hi ho
    have h : i < l.length := by omega
    refine Ev.step (fun k => by rw [treemergeref31_rising.l0]) (Ev.pos (by omega) (Ev.neg (by simp) (Ev.pos (by omega) ?_)))
    rw [rd_at h, List.drop_eq_getElem_cons h]
    by_cases c : n ≤ l[i]
    · rw [decide_eq_true c]
      refine Ev.step (fun k => by rw [treemergeref31_rising.j1]) ?_
      refine Ev.pos rfl (Ev.pos (by omega) (Ev.known rfl (Ev.pos (by omega) (Ev.pos (by omega) ?_))))
      rw [rd_at h, wrap_up h (by omega)]
      by_cases e : n = l[i]
      · refine Ev.pos e (Ev.cast ?_ (rising_done l n hl d (i + 1) (out ++ [n]) (by omega) (by simp; omega)))
        rw [insAsc, if_neg (by omega), if_pos e, List.append_assoc, e]
        rfl
      · refine Ev.neg e (Ev.pos (by simp; omega) (Ev.cast ?_ (rising_done l n hl d (i + 1) (out ++ [n] ++ [l[i]]) (by omega) (by simp; omega))))
        rw [insAsc, if_pos (by omega), List.append_assoc, List.append_assoc]
        rfl
    · rw [decide_eq_false c]
      refine Ev.step (fun k => by rw [treemergeref31_rising.j1]) (Ev.neg (by simp) (Ev.pos (by omega) (Ev.pos (by omega) (Ev.pos (by omega) ?_))))
      rw [rd_at h, wrap_up h (by omega)]
      refine Ev.cast ?_ (ih (i + 1) (out ++ [l[i]]) (by omega) (by simp; omega))
      rw [insAsc, if_neg (by omega), if_neg (by omega), List.append_assoc]
      rfl
theorem rising_ev (l : List Int) (n : Int) (hl : l.length ≤ 1000000) : Ev (fun k => treemergeref31_rising.f k l n) (insAsc n l) := by
  unfold treemergeref31_rising.f
  exact Ev.cast (by simp) (rising_loop l n hl l.length 0 [] (by omega) (by simp))
/-- What one change of the left makes of the list. -/
theorem rov_in (x y : List S48) (hx : x.length ≤ 60) (hy : y.length ≤ 60) (i : Nat) (hi : i < x.length) (R : List Int) : ∀ (d j : Nat) (out : List Int), j + d = y.length → out.length ≤ 60 * i + j → Ev (fun k => treemergeref31_Overlap.l0 k x y (ovIn x[i] (y.drop j) out) ((i + 1 : Nat) : Int)) R → Ev (fun k => treemergeref31_Overlap.l1 k x y out (i : Int) (j : Int)) R := by
  intro d
  induction d with
  | zero =>
    intro j out hj ho hR
    refine Ev.step (fun k => by rw [treemergeref31_Overlap.l1]) (Ev.neg (by omega) ?_)
    rw [wrap_up hi (by omega)]
    rw [List.drop_of_length_le (by omega)] at hR
    exact hR
  | succ d ih =>
    intro j out hj ho hR
    have h : j < y.length := by omega
    refine Ev.step (fun k => by rw [treemergeref31_Overlap.l1]) (Ev.pos (by omega) (Ev.pos (by omega) (Ev.pos (by omega) (Ev.pos (by omega) ?_))))
    rw [rd48_at hi, rd48_at h]
    refine Ev.known (clash_f _ _) ?_
    rw [wrap_up h (by omega)]
    rw [List.drop_eq_getElem_cons h] at hR
    by_cases c : clsh x[i] y[j] = true
    · refine Ev.pos c ((rising_ev out x[i].f0 (by omega)).bind (ih (j + 1) _ (by omega) (by have := insAsc_len x[i].f0 out; omega) ?_))
      simpa only [ovIn, List.foldl_cons, if_pos c] using hR
    · refine Ev.neg c (ih (j + 1) _ (by omega) (by omega) ?_)
      simpa only [ovIn, List.foldl_cons, if_neg c] using hR
theorem rov_out (x y : List S48) (hx : x.length ≤ 60) (hy : y.length ≤ 60) : ∀ (d i : Nat) (out : List Int), i + d = x.length → out.length ≤ 60 * i → Ev (fun k => treemergeref31_Overlap.l0 k x y out (i : Int)) (ovOut (x.drop i) y out) := by
  intro d
  induction d with
  | zero =>
    intro i out hi ho
    refine Ev.step (fun k => by rw [treemergeref31_Overlap.l0]) (Ev.neg (by omega) ?_)
    rw [List.drop_of_length_le (by omega)]
    exact Ev.now _
  | succ d ih =>
    intro i out hi ho
    have h : i < x.length := by omega
    refine Ev.step (fun k => by rw [treemergeref31_Overlap.l0]) (Ev.pos (by omega) ?_)
    refine rov_in x y hx hy i h _ y.length 0 out (by omega) (by omega) ?_
    rw [List.drop_eq_getElem_cons h, List.drop_zero]
    exact ih (i + 1) _ (by omega) (by have := ovIn_len x[i] y out; omega)
theorem rov_ev (x y : List S48) (hx : x.length ≤ 60) (hy : y.length ≤ 60) : Ev (fun k => treemergeref31_Overlap.f k x y) (ovOut x y []) := by
  unfold treemergeref31_Overlap.f
  exact rov_out x y hx hy x.length 0 [] (by omega) (by simp)

theorem fit_of_wf {a : Int} (h : (Lit.int .i64 a).wf = true) : fitI a = true := by
  have h1 : IntKind.i64.min = -9223372036854775808 := by decide
  have h2 : IntKind.i64.max = 9223372036854775807 := by decide
  simp only [Lit.wf, h1, h2, Bool.and_eq_true, decide_eq_true_eq] at h
  unfold fitI
  simp only [Bool.and_eq_true, decide_eq_true_eq]
  omega
theorem change_overlap_f (x y : List S48) (hx : x.length ≤ 10000000) (hy : y.length ≤ 10000000) (hw : ∀ c ∈ y, fitI c.f0 = true) : change_Overlap.f x y = some (ovOut x y []) := by
  unfold change_Overlap.f
  rw [overlap_same, decide_eq_true hx, decide_eq_true hy, (List.all_eq_true.2 hw : y.all (fun c => fitI c.f0) = true)]
  rfl

theorem ChangeOverlaps_ev (x y : List S48) (hw : ∀ c ∈ y, fitI c.f0 = true) : Ev (fun k => treemergelaw31_ChangeOverlaps.f k x y) true := by
  unfold treemergelaw31_ChangeOverlaps.f
  by_cases c : (x.length : Int) > 60
  · exact Ev.pos c (Ev.step (fun k => by rw [treemergelaw31_ChangeOverlaps.j0]) (Ev.pos rfl awake_ev))
  · refine Ev.neg c ?_
    by_cases c2 : (y.length : Int) > 60
    · rw [decide_eq_true c2]
      exact Ev.step (fun k => by rw [treemergelaw31_ChangeOverlaps.j0]) (Ev.pos rfl awake_ev)
    · rw [decide_eq_false c2]
      have hl := ovOut_len y x []
      have hxy : x.length * y.length ≤ 60 * 60 := Nat.mul_le_mul (by omega) (by omega)
      simp only [List.length_nil] at hl
      exact Ev.step (fun k => by rw [treemergelaw31_ChangeOverlaps.j0]) (Ev.neg (by simp) (Ev.known (change_overlap_f x y (by omega) (by omega) hw) ((rov_ev x y (by omega) (by omega)).bind ((same_ev (ovOut x y []) _ rfl (by omega)).bind (Ev.pos rfl awake_ev)))))
theorem ChangeOverlaps_row {w : World} (A0 : Option Addr) (c0 : Nat) (l0 : List S48) (hr0 : Kd.C k48 w A0 l0.length l0) (hc0 : l0.length ≤ c0) (hy0 : l0.length * 16 ≤ 140737488351232) (hok0 : ∀ x ∈ l0, (Lit.int .i64 x.f0).wf = true ∧ (Lit.int .i64 x.f1).wf = true) (A1 : Option Addr) (c1 : Nat) (l1 : List S48) (hr1 : Kd.C k48 w A1 l1.length l1) (hc1 : l1.length ≤ c1) (hy1 : l1.length * 16 ≤ 140737488351232) (hok1 : ∀ x ∈ l1, (Lit.int .i64 x.f0).wf = true ∧ (Lit.int .i64 x.f1).wf = true) : Calls Try.prog 4 #[.slice A0 l0.length c0, .slice A1 l1.length c1] w fun e w' => e = .returned (.bool true) ∧ Below w.heap.size w w' := by
  obtain ⟨k, hk⟩ := (ChangeOverlaps_ev l0 l1 (fun c hc => fit_of_wf (hok1 c hc).1)).rounds
  exact treemergelaw31_ChangeOverlaps.calls k A0 c0 l0 A1 c1 l1 true w hr0 hc0 hr1 hc1 hk

end Go.Proofs.Ytcfjdehpbckomaa.Scratch
