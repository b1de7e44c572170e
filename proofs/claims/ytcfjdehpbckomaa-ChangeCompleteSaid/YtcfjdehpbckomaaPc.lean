/- ChangeComplete returns true: proved here by steps through the program's text; no condition but those that stand in each theorem. -/
import Derived.WalkSpells
import Derived.Test.YtcfjdehpbckomaaQ0
import Derived.Test.YtcfjdehpbckomaaQ11
import Derived.Test.YtcfjdehpbckomaaQ3
import Derived.Test.YtcfjdehpbckomaaQ10
import Derived.Test.YtcfjdehpbckomaaQ6
import Derived.Test.YtcfjdehpbckomaaQ7
import Derived.Test.YtcfjdehpbckomaaQ5
import Derived.Test.YtcfjdehpbckomaaQ8
namespace Go.Proofs.Ytcfjdehpbckomaa.Scratch
set_option linter.unusedVariables false
open Go.RowKit Go.Proofs.YtcfjdehpbckomaaW.PrintWords Go.Proofs.YtcfjdehpbckomaaW.PrintLast Go.Proofs.YtcfjdehpbckomaaW.PrintMore Go.Proofs.Ytcfjdehpbckomaa.Q
attribute [local go_sem] max2_int min2_int max_two min_two max_three min_three max_four min_four
theorem Ev.pos {α : Type} {c : Prop} [Decidable c] {A B : Nat → Option α} {r : α} (h : c) (k : Ev A r) : Ev (fun n => if c then A n else B n) r := by simpa only [if_pos h] using k
theorem Ev.neg {α : Type} {c : Prop} [Decidable c] {A B : Nat → Option α} {r : α} (h : ¬ c) (k : Ev B r) : Ev (fun n => if c then A n else B n) r := by simpa only [if_neg h] using k
theorem Ev.cast {α : Type} {g : Nat → Option α} {r r' : α} (h : r = r') (k : Ev g r) : Ev g r' := h ▸ k
theorem Ev.known {α β : Type} {o : Option α} {f : Nat → α → Option β} {a : α} {r : β} (h : o = some a) (k : Ev (fun n => f n a) r) : Ev (fun n => o.bind (f n)) r := by subst h; exact k
set_option maxRecDepth 100000 in
theorem awake_g : treemergelaw31_awake.g = some true := by decide +kernel
theorem awake_f : treemergelaw31_awake.f = some true := by unfold treemergelaw31_awake.f; rw [if_pos awake_g]
theorem awake_ev : Ev (fun _ => (treemergelaw31_awake.f).bind fun t => some t) true := by rw [awake_f]; exact Ev.now true
theorem wrap_up {i n : Nat} (h : i < n) (hn : n ≤ 140737488351232) : wrap64 ((i : Int) + 1) = ((i + 1 : Nat) : Int) := by unfold wrap64; omega
theorem rd_at {l : List Int} {i : Nat} (h : i < l.length) : rd l (i : Int) = l[i] := by simp [rd, List.getD_eq_getElem?_getD, List.getElem?_eq_getElem h]
theorem rd48_at {l : List S48} {i : Nat} (h : i < l.length) : rd_T48 l (i : Int) = l[i] := by simp [rd_T48, List.getD_eq_getElem?_getD, List.getElem?_eq_getElem h]

def clsh (c d : S48) : Bool := decide (c.f0 = d.f0) && ovl c.f1 d.f1
theorem insAsc_len (a : Int) : ∀ l : List Int, (insAsc a l).length ≤ l.length + 1
  | [] => by simp [insAsc]
  | b :: l => by
    rw [insAsc]
    split
    · simp
    · split
      · simp
      · have := insAsc_len a l
        simp only [List.length_cons]
        omega
def ovIn (c : S48) (y : List S48) (out : List Int) : List Int := y.foldl (fun o d => if clsh c d = true then insAsc c.f0 o else o) out
def ovOut (x y : List S48) (out : List Int) : List Int := x.foldl (fun o c => ovIn c y o) out
theorem ovIn_len (c : S48) : ∀ (y : List S48) (out : List Int), (ovIn c y out).length ≤ out.length + y.length
  | [], out => by simp [ovIn]
  | d :: y, out => by
    have := ovIn_len c y (if clsh c d = true then insAsc c.f0 out else out)
    simp only [ovIn, List.foldl_cons, List.length_cons] at this ⊢
    have h2 : (if clsh c d = true then insAsc c.f0 out else out).length ≤ out.length + 1 := by
      split
      · exact insAsc_len _ _
      · omega
    omega
theorem ovIn_asc (c : S48) : ∀ (y : List S48) (out : List Int), out.Pairwise (· < ·) → (ovIn c y out).Pairwise (· < ·)
  | [], out, h => h
  | d :: y, out, h => by
    refine ovIn_asc c y (if clsh c d = true then insAsc c.f0 out else out) ?_
    split
    · exact insAsc_asc _ _ h
    · exact h
theorem ovOut_asc (y : List S48) : ∀ (x : List S48) (out : List Int), out.Pairwise (· < ·) → (ovOut x y out).Pairwise (· < ·)
  | [], out, h => h
  | c :: x, out, h => ovOut_asc y x _ (ovIn_asc c y out h)
theorem ovIn_mem (c : S48) (a : Int) : ∀ (y : List S48) (out : List Int), a ∈ ovIn c y out ↔ a ∈ out ∨ (a = c.f0 ∧ ∃ d ∈ y, clsh c d = true)
  | [], out => by simp [ovIn]
  | d :: y, out => by
    have h := ovIn_mem c a y (if clsh c d = true then insAsc c.f0 out else out)
    have e : ovIn c (d :: y) out = ovIn c y (if clsh c d = true then insAsc c.f0 out else out) := rfl
    rw [e, h]
    by_cases hc : clsh c d = true
    · rw [if_pos hc, insAsc_mem]
      constructor
      · rintro ((h | h) | ⟨h, z, hz, hz2⟩)
        · exact .inr ⟨h, d, by simp, hc⟩
        · exact .inl h
        · exact .inr ⟨h, z, List.mem_cons_of_mem _ hz, hz2⟩
      · rintro (h | ⟨h, _⟩)
        · exact .inl (.inr h)
        · exact .inl (.inl h)
    · rw [if_neg hc]
      constructor
      · rintro (h | ⟨h, z, hz, hz2⟩)
        · exact .inl h
        · exact .inr ⟨h, z, List.mem_cons_of_mem _ hz, hz2⟩
      · rintro (h | ⟨h, z, hz, hz2⟩)
        · exact .inl h
        · rcases List.mem_cons.1 hz with rfl | hz
          · exact absurd hz2 hc
          · exact .inr ⟨h, z, hz, hz2⟩
theorem ovOut_mem (y : List S48) (a : Int) : ∀ (x : List S48) (out : List Int), a ∈ ovOut x y out ↔ a ∈ out ∨ ∃ c ∈ x, a = c.f0 ∧ ∃ d ∈ y, clsh c d = true
  | [], out => by simp [ovOut]
  | c :: x, out => by
    have e : ovOut (c :: x) y out = ovOut x y (ovIn c y out) := rfl
    rw [e, ovOut_mem y a x, ovIn_mem]
    constructor
    · rintro ((h | h) | ⟨z, hz, h⟩)
      · exact .inl h
      · exact .inr ⟨c, by simp, h⟩
      · exact .inr ⟨z, List.mem_cons_of_mem _ hz, h⟩
    · rintro (h | ⟨z, hz, h⟩)
      · exact .inl (.inl h)
      · rcases List.mem_cons.1 hz with rfl | hz
        · exact .inl (.inr h)
        · exact .inr ⟨z, hz, h⟩
theorem groupTo_mem (x : List S48) (a f : Int) : ∀ n, n ≤ x.length → (f ∈ (glook (groupTo x n) a).getD [] ↔ ∃ i, ∃ h : i < x.length, i < n ∧ x[i].f0 = a ∧ x[i].f1 = f)
  | 0, _ => by simp [groupTo, glook]
  | n + 1, hn => by
    have hx : x.getD n z48 = x[n] := by rw [List.getD_eq_getElem?_getD, List.getElem?_eq_getElem (by omega), Option.getD_some]
    have ih := groupTo_mem x a f n (by omega)
    rw [groupTo, hx, glook_put]
    by_cases e : a = x[n].f0
    · rw [if_pos e, Option.getD_some, List.mem_append, List.mem_singleton, ← e, ih]
      constructor
      · rintro (⟨i, h, h1, h2⟩ | h)
        · exact ⟨i, h, by omega, h2⟩
        · exact ⟨n, by omega, by omega, e.symm, h.symm⟩
      · rintro ⟨i, h, h1, h2, h3⟩
        by_cases hin : i = n
        · subst hin; exact .inr h3.symm
        · exact .inl ⟨i, h, by omega, h2, h3⟩
    · rw [if_neg e, ih]
      constructor
      · rintro ⟨i, h, h1, h2⟩
        exact ⟨i, h, by omega, h2⟩
      · rintro ⟨i, h, h1, h2, h3⟩
        have : i ≠ n := by rintro rfl; exact e h2.symm
        exact ⟨i, h, by omega, h2, h3⟩
theorem foundTo_mem (G : List (Int × List Int)) (y : List S48) (a : Int) : ∀ n, n ≤ y.length → (a ∈ foundTo G y n ↔ ∃ i, ∃ h : i < y.length, i < n ∧ y[i].f0 = a ∧ ((glook G a).getD []).any (fun f => ovl f y[i].f1) = true)
  | 0, _ => by simp [foundTo]
  | n + 1, hn => by
    have hy : y.getD n z48 = y[n] := by rw [List.getD_eq_getElem?_getD, List.getElem?_eq_getElem (by omega), Option.getD_some]
    have ih := foundTo_mem G y a n (by omega)
    have step : (∃ i, ∃ h : i < y.length, i < n + 1 ∧ y[i].f0 = a ∧ ((glook G a).getD []).any (fun f => ovl f y[i].f1) = true) ↔ (a ∈ foundTo G y n ∨ (y[n].f0 = a ∧ ((glook G a).getD []).any (fun f => ovl f y[n].f1) = true)) := by
      rw [ih]
      constructor
      · rintro ⟨i, h, h1, h2, h3⟩
        by_cases hin : i = n
        · subst hin; exact .inr ⟨h2, h3⟩
        · exact .inl ⟨i, h, by omega, h2, h3⟩
      · rintro (⟨i, h, h1, h2⟩ | h)
        · exact ⟨i, h, by omega, h2⟩
        · exact ⟨n, by omega, by omega, h⟩
    rw [step, foundTo, hy]
    by_cases hc : ((glook G y[n].f0).getD []).any (fun f => ovl f y[n].f1) = true
    · rw [if_pos hc]
      by_cases hm : y[n].f0 ∈ foundTo G y n
      · rw [if_pos hm]
        constructor
        · exact .inl
        · rintro (h | ⟨h, _⟩)
          · exact h
          · rw [← h]; exact hm
      · rw [if_neg hm, List.mem_append, List.mem_singleton]
        constructor
        · rintro (h | h)
          · exact .inl h
          · exact .inr ⟨h.symm, by rw [h]; exact hc⟩
        · rintro (h | ⟨h, _⟩)
          · exact .inl h
          · exact .inr h.symm
    · rw [if_neg hc]
      constructor
      · exact .inl
      · rintro (h | ⟨h, h2⟩)
        · exact h
        · rw [← h] at h2; exact absurd h2 hc
/-- The two lists of identifiers are one. -/
theorem overlap_same (x y : List S48) : ascL (foundTo (groupTo x x.length) y y.length) = ovOut x y [] := by
  refine ext_asc (ascL_asc _) (ovOut_asc y x [] List.Pairwise.nil) (fun a => ?_)
  rw [ascL_mem, foundTo_mem _ _ _ _ (Nat.le_refl _), ovOut_mem]
  constructor
  · rintro ⟨i, h, _, h1, h2⟩
    obtain ⟨f, hf, ho⟩ := List.any_eq_true.1 h2
    obtain ⟨j, hj, _, h3, h4⟩ := (groupTo_mem x a f x.length (Nat.le_refl _)).1 hf
    refine .inr ⟨x[j], List.getElem_mem hj, h3.symm, y[i], List.getElem_mem h, ?_⟩
    unfold clsh
    rw [h3, h1, h4, decide_eq_true rfl, ho]
    rfl
  · rintro (h | ⟨c, hc, rfl, d, hd, hcl⟩)
    · cases h
    · obtain ⟨j, hj, rfl⟩ := List.getElem_of_mem hc
      obtain ⟨i, hi, rfl⟩ := List.getElem_of_mem hd
      unfold clsh at hcl
      rw [Bool.and_eq_true, decide_eq_true_eq] at hcl
      refine ⟨i, hi, hi, hcl.1.symm, List.any_eq_true.2 ⟨x[j].f1, ?_, hcl.2⟩⟩
      exact (groupTo_mem x _ _ x.length (Nat.le_refl _)).2 ⟨j, hj, hj, rfl, rfl⟩
theorem ovOut_len (y : List S48) : ∀ (x : List S48) (out : List Int), (ovOut x y out).length ≤ out.length + x.length * y.length
  | [], out => by simp [ovOut]
  | c :: x, out => by
    have e : ovOut (c :: x) y out = ovOut x y (ovIn c y out) := rfl
    have h1 := ovOut_len y x (ovIn c y out)
    have h2 := ovIn_len c y out
    rw [e, List.length_cons, Nat.add_mul]
    omega

theorem rd31 (l : List S25) (i : Nat) (h : i < l.length) : rd_T25 l (i : Int) = l[i] := by
  unfold rd_T25
  simp [List.getD_eq_getElem?_getD, List.getElem?_eq_getElem h]
theorem eta31 (y : S25) : (⟨y.f0, y.f1, y.f2, y.f3⟩ : S25) = y := by cases y; rfl
theorem preL_drop (l : List S25) (i : Nat) (h : i < l.length) : preL (l.drop i) = preT l[i] ++ preL (l.drop (i + 1)) := by
  rw [List.drop_eq_getElem_cons h, preL]
theorem preT_sub (x : S25) : ∀ y ∈ preT x, (preT y).length ≤ (preT x).length ∧ ∀ z ∈ preT y, z ∈ preT x := by
  induction x using tree_ind with
  | h x ih =>
  intro y hy
  rw [preT_eq x, List.mem_cons] at hy
  rcases hy with rfl | hy
  · exact ⟨Nat.le_refl _, fun z hz => hz⟩
  · have key : ∀ l : List S25, (∀ v ∈ l, v ∈ x.f3) → y ∈ preL l → (preT y).length ≤ (preL l).length ∧ ∀ z ∈ preT y, z ∈ preL l := by
      intro l
      induction l with
      | nil => intro _ h; simp [preL] at h
      | cons v l ihl =>
        intro hv h
        rw [preL, List.mem_append] at h
        rcases h with h | h
        · obtain ⟨h1, h2⟩ := ih v (hv v (by simp)) y h
          rw [preL, List.length_append]
          exact ⟨by omega, fun z hz => List.mem_append.2 (Or.inl (h2 z hz))⟩
        · obtain ⟨h1, h2⟩ := ihl (fun u hu => hv u (by simp [hu])) h
          rw [preL, List.length_append]
          exact ⟨by omega, fun z hz => List.mem_append.2 (Or.inr (h2 z hz))⟩
    obtain ⟨h1, h2⟩ := key x.f3 (fun v hv => hv) hy
    rw [preT_eq x, List.length_cons]
    exact ⟨by omega, fun z hz => List.mem_cons_of_mem _ (h2 z hz)⟩
theorem kid_pre {x y : S25} (h : y ∈ x.f3) : y ∈ preT x := by
  rw [preT_eq]
  refine List.mem_cons_of_mem _ ?_
  generalize x.f3 = l at h
  induction l with
  | nil => simp at h
  | cons v l ih =>
    rw [preL, List.mem_append]
    rcases List.mem_cons.1 h with rfl | h
    · exact Or.inl (by rw [preT_eq]; simp)
    · exact Or.inr (ih h)
theorem left_ev (x : S25) : ∀ (n v : Int), n ≤ 1000 → v ≤ 1000 → ∃ r, Ev (fun k => treemergeref06_left.f k x.f0 x.f1 x.f2 x.f3 n v) r ∧ (0 ≤ r → ((preT x).length : Int) + r = n) := by
  induction x using tree_ind with
  | h x ih =>
  intro n v hn hv
  have bad : ∃ r, Ev (fun k => treemergeref06_left.j0 k n v true x.f0 x.f1 x.f2 x.f3) r ∧ (0 ≤ r → ((preT x).length : Int) + r = n) := ⟨-1, Ev.step (fun k => by rw [treemergeref06_left.j0, if_pos rfl]) (Ev.now _), fun h => by omega⟩
  by_cases h1 : n < 1
  · obtain ⟨r, e, q⟩ := bad
    exact ⟨r, Ev.step (fun k => by rw [treemergeref06_left.f, if_pos h1]) e, q⟩
  by_cases h2 : v < 1
  · obtain ⟨r, e, q⟩ := bad
    exact ⟨r, Ev.step (fun k => by rw [treemergeref06_left.f, if_neg h1, if_pos h2]) e, q⟩
  by_cases h3 : (x.f3.length : Int) > n
  · obtain ⟨r, e, q⟩ := bad
    exact ⟨r, Ev.step (fun k => by rw [treemergeref06_left.f, if_neg h1, if_neg h2, decide_eq_true h3]) e, q⟩
  have wn : wrap64 (n - 1) = n - 1 := by unfold wrap64; omega
  have wv : wrap64 (v - 1) = v - 1 := by unfold wrap64; omega
  have loop : ∀ (g i : Nat) (m : Int), i + g = x.f3.length → 0 ≤ m → m ≤ 1000 → ∃ r, Ev (fun k => treemergeref06_left.l0 k v m (i : Int) x.f0 x.f1 x.f2 x.f3) r ∧ (0 ≤ r → ((preL (x.f3.drop i)).length : Int) + r = m) := by
    intro g
    induction g with
    | zero =>
      intro i m hi _ _
      refine ⟨m, Ev.step (fun k => by rw [treemergeref06_left.l0, if_neg (by omega)]) (Ev.now _), fun _ => ?_⟩
      rw [List.drop_of_length_le (by omega), preL]
      simp
    | succ g ihg =>
      intro i m hi h0 hm
      have hil : i < x.f3.length := by omega
      have wu : wrap64 ((i : Int) + 1) = ((i + 1 : Nat) : Int) := by unfold wrap64; omega
      obtain ⟨r, e, q⟩ := ih x.f3[i] (List.getElem_mem hil) m (v - 1) hm (by omega)
      by_cases hr : r < 0
      · exact ⟨-1, Ev.step (fun k => by rw [treemergeref06_left.l0, if_pos (by omega), if_pos (by omega), rd31 _ i hil, wv]) (e.bind (Ev.pos hr (Ev.now _))), fun h => by omega⟩
      · obtain ⟨r2, e2, q2⟩ := ihg (i + 1) r (by omega) (by omega) (by have := q (by omega); omega)
        refine ⟨r2, Ev.step (fun k => by rw [treemergeref06_left.l0, if_pos (by omega), if_pos (by omega), rd31 _ i hil, wv, wu]) (e.bind (Ev.neg hr e2)), fun h => ?_⟩
        rw [preL_drop _ i hil, List.length_append]
        have := q (by omega)
        have := q2 h
        omega
  obtain ⟨r, e, q⟩ := loop x.f3.length 0 (n - 1) (by omega) (by omega) (by omega)
  have e1 : Ev (fun k => treemergeref06_left.j0 k n v false x.f0 x.f1 x.f2 x.f3) r := Ev.step (fun k => by rw [treemergeref06_left.j0, if_neg (by decide), wn]; rfl) e
  refine ⟨r, Ev.step (fun k => by rw [treemergeref06_left.f, if_neg h1, if_neg h2, decide_eq_false h3]) e1, fun h => ?_⟩
  have := q h
  rw [List.drop_zero] at this
  rw [preT_eq, List.length_cons]
  omega
def OkN (y : S25) : Prop := y.f1.size ≤ 1000 ∧ y.f2.length ≤ 1000
theorem weigh_ev (x : S25) : (preT x).length ≤ 100 → ∀ (b : Int), b ≤ 1000 → ∃ r, Ev (fun k => treemergeref06_weigh.f k x.f0 x.f1 x.f2 x.f3 b) r ∧ (0 ≤ r → r ≤ b ∧ ∀ y ∈ preT x, OkN y) := by
  induction x using tree_ind with
  | h x ih =>
  intro hx b hb
  have hk : x.f3.length ≤ 100 := by
    have h2 := preL_len x.f3
    rw [preT_eq, List.length_cons] at hx
    omega
  have bad : ∃ r, Ev (fun k => treemergeref06_weigh.j0 k b true x.f0 x.f1 x.f2 x.f3) r ∧ (0 ≤ r → r ≤ b ∧ ∀ y ∈ preT x, OkN y) := ⟨-1, Ev.step (fun k => by rw [treemergeref06_weigh.j0, if_pos rfl]) (Ev.now _), fun h => by omega⟩
  by_cases h1 : (x.f1.size : Int) > b
  · obtain ⟨r, e, q⟩ := bad
    exact ⟨r, Ev.step (fun k => by rw [treemergeref06_weigh.f, if_pos h1]) e, q⟩
  by_cases h2 : (x.f2.length : Int) > b
  · obtain ⟨r, e, q⟩ := bad
    exact ⟨r, Ev.step (fun k => by rw [treemergeref06_weigh.f, if_neg h1, decide_eq_true h2]) e, q⟩
  have loop1 : ∀ (g i : Nat) (m : Int), i + g = x.f3.length → 0 ≤ m → m ≤ b → ∃ r, Ev (fun k => treemergeref06_weigh.l1 k m (i : Int) x.f0 x.f1 x.f2 x.f3) r ∧ (0 ≤ r → r ≤ b ∧ ∀ y ∈ preL (x.f3.drop i), OkN y) := by
    intro g
    induction g with
    | zero =>
      intro i m hi _ hm
      refine ⟨m, Ev.step (fun k => by rw [treemergeref06_weigh.l1, if_neg (by omega)]) (Ev.now _), fun _ => ⟨hm, ?_⟩⟩
      rw [List.drop_of_length_le (by omega), preL]
      simp
    | succ g ihg =>
      intro i m hi h0 hm
      have hil : i < x.f3.length := by omega
      have wu : wrap64 ((i : Int) + 1) = ((i + 1 : Nat) : Int) := by unfold wrap64; omega
      obtain ⟨r, e, q⟩ := ih x.f3[i] (List.getElem_mem hil) (Nat.le_trans (preT_sub x _ (kid_pre (List.getElem_mem hil))).1 hx) m (by omega)
      by_cases hr : r < 0
      · exact ⟨-1, Ev.step (fun k => by rw [treemergeref06_weigh.l1, if_pos (by omega), if_pos (by omega), rd31 _ i hil]) (e.bind (Ev.pos hr (Ev.now _))), fun h => by omega⟩
      · obtain ⟨q1, q3⟩ := q (by omega)
        obtain ⟨r2, e2, q2⟩ := ihg (i + 1) r (by omega) (by omega) (by omega)
        refine ⟨r2, Ev.step (fun k => by rw [treemergeref06_weigh.l1, if_pos (by omega), if_pos (by omega), rd31 _ i hil, wu]) (e.bind (Ev.neg hr e2)), fun h => ⟨(q2 h).1, fun y hy => ?_⟩⟩
        rw [preL_drop _ i hil, List.mem_append] at hy
        rcases hy with hy | hy
        · exact q3 y hy
        · exact (q2 h).2 y hy
  have loop0 : ∀ (g i : Nat) (m : Int), i + g = x.f2.length → 0 ≤ m → m ≤ b → ∃ r, Ev (fun k => treemergeref06_weigh.l0 k m (i : Int) x.f0 x.f1 x.f2 x.f3) r ∧ (0 ≤ r → r ≤ b ∧ ∀ y ∈ preL x.f3, OkN y) := by
    intro g
    induction g with
    | zero =>
      intro i m hi h0 hm
      obtain ⟨r, e, q⟩ := loop1 x.f3.length 0 m (by omega) h0 hm
      exact ⟨r, Ev.step (fun k => by rw [treemergeref06_weigh.l0, if_neg (by omega)]; rfl) e, by rwa [List.drop_zero] at q⟩
    | succ g ihg =>
      intro i m hi h0 hm
      have hil : i < x.f2.length := by omega
      have wu : wrap64 ((i : Int) + 1) = ((i + 1 : Nat) : Int) := by unfold wrap64; omega
      by_cases hz : ((rdOf ByteArray.empty x.f2 (i : Int)).size : Int) ≥ m
      · exact ⟨-1, Ev.step (fun k => by rw [treemergeref06_weigh.l0, if_pos (by omega), if_pos (by omega), if_pos hz]) (Ev.now _), fun h => by omega⟩
      · have w1 : wrap64 (m - ((rdOf ByteArray.empty x.f2 (i : Int)).size : Int)) = m - ((rdOf ByteArray.empty x.f2 (i : Int)).size : Int) := by unfold wrap64; omega
        have w2 : wrap64 (m - ((rdOf ByteArray.empty x.f2 (i : Int)).size : Int) - 1) = m - ((rdOf ByteArray.empty x.f2 (i : Int)).size : Int) - 1 := by unfold wrap64; omega
        obtain ⟨r, e, q⟩ := ihg (i + 1) (m - ((rdOf ByteArray.empty x.f2 (i : Int)).size : Int) - 1) (by omega) (by omega) (by omega)
        exact ⟨r, Ev.step (fun k => by rw [treemergeref06_weigh.l0, if_pos (by omega), if_pos (by omega), if_neg hz, w1, w2, wu]) e, q⟩
  have ws : wrap64 (b - (x.f1.size : Int)) = b - (x.f1.size : Int) := by unfold wrap64; omega
  obtain ⟨r, e, q⟩ := loop0 x.f2.length 0 (b - (x.f1.size : Int)) (by omega) (by omega) (by omega)
  have e1 : Ev (fun k => treemergeref06_weigh.j0 k b false x.f0 x.f1 x.f2 x.f3) r := Ev.step (fun k => by rw [treemergeref06_weigh.j0, if_neg (by decide), ws]; rfl) e
  refine ⟨r, Ev.step (fun k => by rw [treemergeref06_weigh.f, if_neg h1, decide_eq_false h2]) e1, fun h => ⟨(q h).1, fun y hy => ?_⟩⟩
  rw [preT_eq, List.mem_cons] at hy
  rcases hy with rfl | hy
  · exact ⟨by omega, by omega⟩
  · exact (q h).2 y hy
def LightT (x : S25) : Prop := (preT x).length ≤ 60 ∧ ∀ y ∈ preT x, OkN y
theorem light_ev (x : S25) : ∃ b, Ev (fun k => treemergeref06_Light.f k x.f0 x.f1 x.f2 x.f3 60 60 1000) b ∧ (b = true → LightT x) := by
  unfold treemergeref06_Light.f treemergeref06_Fits.f
  obtain ⟨r, e, q⟩ := left_ev x 60 60 (by omega) (by omega)
  have eF : Ev (fun k => (treemergeref06_left.f k x.f0 x.f1 x.f2 x.f3 60 60).bind fun t228 => some (decide (t228 ≥ 0))) (decide (r ≥ 0)) := e.bind (Ev.now _)
  by_cases h : r ≥ 0
  · obtain ⟨s, e2, q2⟩ := weigh_ev x (by have := q h; omega) 1000 (by omega)
    refine ⟨decide (s ≥ 0), eF.bind (Ev.pos (decide_eq_true h) (e2.bind (Ev.now _))), fun hs => ?_⟩
    have hs := of_decide_eq_true hs
    exact ⟨by have := q h; omega, (q2 hs).2⟩
  · exact ⟨false, eF.bind (Ev.neg (by simp [h]) (Ev.now _)), fun h => by cases h⟩

theorem lightOk {x : S25} (h : LightT x) : treeOk x = true := by
  unfold treeOk
  rw [Bool.and_eq_true, decide_eq_true_eq, List.all_eq_true]
  exact ⟨by have := h.1; omega, fun y hy => decide_eq_true (by have := (h.2 y hy).2; omega)⟩
theorem ascL_len : ∀ l : List Int, (ascL l).length ≤ l.length
  | [] => Nat.le_refl _
  | a :: l => by
    have h1 := insAsc_len a (ascL l)
    have h2 := ascL_len l
    show (insAsc a (ascL l)).length ≤ l.length + 1
    omega
/-- The list of changes, and whether it can be made. -/
def lstL (x y : S25) (b o : List Int) : List S48 := listF (factsTo (rowsT x (-1) 0) b b.length) (factsTo (rowsT y (-1) 0) o o.length) (ascL (b ++ o))
def lstB (x y : S25) (b o : List Int) : Bool := factsOk (rowsT x (-1) 0) b && factsOk (rowsT y (-1) 0) o
theorem change_list_f {x y : S25} {b o : List Int} (hx : LightT x) (hy : LightT y) (hb : b.length ≤ 60) (ho : o.length ≤ 60) :
    change_List.f x.f0 x.f1 x.f2 x.f3 y.f0 y.f1 y.f2 y.f3 b o = some (if lstB x y b o = true then (lstL x y b o, 0) else ([], 15)) := by
  have h1 := lightOk hx
  have h2 := lightOk hy
  cases x
  cases y
  unfold change_List.f
  rw [if_pos (by rw [h1, h2, decide_eq_true (show b.length ≤ 400000 by omega), decide_eq_true (show o.length ≤ 400000 by omega)]; rfl)]
  rfl
theorem lstL_len (x y : S25) (b o : List Int) (hb : b.length ≤ 60) (ho : o.length ≤ 60) : (lstL x y b o).length ≤ 480 := by
  have h1 := listF_len (factsTo (rowsT x (-1) 0) b b.length) (factsTo (rowsT y (-1) 0) o o.length) (ascL (b ++ o))
  have h2 := ascL_len (b ++ o)
  rw [List.length_append] at h2
  unfold lstL
  omega
theorem small_ev (x : S25) : ∃ t, Ev (fun k => treemergelaw31_small.f k x.f0 x.f1 x.f2 x.f3) t ∧ (t = true → LightT x) := by
  obtain ⟨t, e, q⟩ := light_ev x
  exact ⟨t, e.bind (Ev.now _), q⟩

/-- The order of changes. -/
def ltC (c d : S48) : Bool := decide (c.f0 < d.f0) || (decide (c.f0 = d.f0) && decide (c.f1 < d.f1))
def leC (c d : S48) : Prop := c.f0 < d.f0 ∨ (c.f0 = d.f0 ∧ c.f1 ≤ d.f1)
def insC (c : S48) : List S48 → List S48
  | [] => [c]
  | d :: l => if ltC c d = true then c :: d :: l else d :: insC c l
theorem ltC_iff {c d : S48} : ltC c d = true ↔ c.f0 < d.f0 ∨ (c.f0 = d.f0 ∧ c.f1 < d.f1) := by unfold ltC; simp
theorem leC_trans {a b c : S48} (h : leC a b) (k : leC b c) : leC a c := by unfold leC at *; omega
theorem leC_anti {a b : S48} (h : leC a b) (k : leC b a) : a = b := by
  unfold leC at *
  have h0 : a.f0 = b.f0 := by omega
  have h1 : a.f1 = b.f1 := by omega
  cases a
  cases b
  cases h0
  cases h1
  rfl
theorem insC_perm (c : S48) : ∀ l, (insC c l).Perm (c :: l)
  | [] => List.Perm.refl _
  | d :: l => by
    rw [insC]
    split
    · exact List.Perm.refl _
    · exact ((insC_perm c l).cons d).trans (List.Perm.swap c d l)
theorem insC_sorted (c : S48) : ∀ l, l.Pairwise leC → (insC c l).Pairwise leC
  | [], _ => List.pairwise_singleton _ _
  | d :: l, h => by
    rw [insC]
    rw [List.pairwise_cons] at h
    split
    · rename_i hc
      have hcd : leC c d := by have := ltC_iff.1 hc; unfold leC; omega
      rw [List.pairwise_cons, List.pairwise_cons]
      exact ⟨fun a ha => (List.mem_cons.1 ha).elim (fun e => by rw [e]; exact hcd) (fun m => leC_trans hcd (h.1 a m)), h⟩
    · rename_i hc
      have hdc : leC d c := by
        have h2 : ¬ (c.f0 < d.f0 ∨ (c.f0 = d.f0 ∧ c.f1 < d.f1)) := fun z => hc (ltC_iff.2 z)
        unfold leC
        omega
      rw [List.pairwise_cons]
      exact ⟨fun a ha => (List.mem_cons.1 ((insC_perm c l).mem_iff.1 ha)).elim (fun e => by rw [e]; exact hdc) (fun m => h.1 a m), insC_sorted c l h.2⟩
theorem insC_len (c : S48) (l : List S48) : (insC c l).length = l.length + 1 := (insC_perm c l).length_eq
def insAll (L out : List S48) : List S48 := L.foldl (fun o c => insC c o) out
theorem insAll_append (L M out : List S48) : insAll (L ++ M) out = insAll M (insAll L out) := List.foldl_append ..
theorem insAll_perm : ∀ L out : List S48, (insAll L out).Perm (L ++ out)
  | [], out => List.Perm.refl _
  | c :: L, out => (insAll_perm L (insC c out)).trans (((insC_perm c out).append_left L).trans List.perm_middle)
theorem insAll_sorted : ∀ L out : List S48, out.Pairwise leC → (insAll L out).Pairwise leC
  | [], _, h => h
  | c :: L, out, h => insAll_sorted L (insC c out) (insC_sorted c out h)
theorem insAll_len (L out : List S48) : (insAll L out).length = L.length + out.length := by rw [(insAll_perm L out).length_eq, List.length_append]
theorem chg_f0 {x y : List (Int × Fct)} {id : Int} {c : S48} (hc : c ∈ chg x y id) : c.f0 = id := by
  unfold chg at hc
  split at hc
  · simp only [List.mem_cons, List.not_mem_nil, or_false] at hc
    rcases hc with rfl | rfl <;> rfl
  · rw [List.mem_singleton] at hc; rw [hc]
  · rw [List.mem_singleton] at hc; rw [hc]
  · simp only [List.mem_append] at hc
    rcases hc with hc | hc | hc | hc <;> split at hc <;> first | (cases hc; done) | (rw [List.mem_singleton] at hc; rw [hc])
theorem chg_sorted (x y : List (Int × Fct)) (id : Int) : (chg x y id).Pairwise leC := by
  unfold chg
  split
  · simp [leC]
  · exact List.pairwise_singleton _ _
  · exact List.pairwise_singleton _ _
  · split <;> split <;> split <;> split <;> simp [leC]
theorem listF_sorted (x y : List (Int × Fct)) {l : List Int} (h : l.Pairwise (· < ·)) : (listF x y l).Pairwise leC := by
  unfold listF
  rw [List.pairwise_flatMap]
  exact ⟨fun a _ => chg_sorted x y a, h.imp (fun {a b} hab c hc d hd => .inl (by rw [chg_f0 hc, chg_f0 hd]; exact hab))⟩
theorem insAll_listF (x y : List (Int × Fct)) {l m : List Int} (hm : m.Pairwise (· < ·)) (h : l.Perm m) : insAll (l.flatMap (chg x y)) [] = listF x y m := by
  refine List.Perm.eq_of_pairwise (le := leC) (fun a b _ _ => leC_anti) (insAll_sorted _ _ List.Pairwise.nil) (listF_sorted x y hm) ?_
  have p := insAll_perm (l.flatMap (chg x y)) []
  rw [List.append_nil] at p
  exact p.trans (h.flatMap_right _)
/-- Identifiers that fit: none is negative, none stands twice. -/
def FitsP (ids : List Int) : Prop := ∀ i, i < ids.length → 0 ≤ ids.getD i 0 ∧ ∀ j, j < i → ids.getD j 0 ≠ ids.getD i 0
theorem getD_at {l : List Int} {i : Nat} (h : i < l.length) : l.getD i 0 = l[i] := by rw [List.getD_eq_getElem?_getD, List.getElem?_eq_getElem h, Option.getD_some]
theorem fitsP_nodup {ids : List Int} (h : FitsP ids) : ids.Nodup := by
  refine List.pairwise_iff_getElem.2 (fun i j hi hj hij => ?_)
  have := (h j hj).2 i hij
  rw [getD_at hi, getD_at hj] at this
  exact this
theorem gput_len_iff {κ β : Type} [DecidableEq κ] (l : List (κ × β)) (k : κ) (v : β) : (gput l k v).length = if glook l k = none then l.length + 1 else l.length := by
  have h := congrArg List.length (gput_keys l k v)
  rw [List.length_map] at h
  rw [h]
  by_cases m : k ∈ l.map (fun p => p.1)
  · rw [if_pos m, if_neg (by rw [glook_none]; exact fun z => z m), List.length_map]
  · rw [if_neg m, if_pos ((glook_none k l).2 m), List.length_append, List.length_map]
    rfl
theorem factsTo_none (rows : List S70) (ids : List Int) (a : Int) : ∀ n, glook (factsTo rows ids n) a = none ↔ ∀ i, i < n → ids.getD i 0 ≠ a
  | 0 => ⟨fun _ i hi => absurd hi (Nat.not_lt_zero i), fun _ => rfl⟩
  | n + 1 => by
    rw [factsTo, glook_put]
    by_cases e : a = ids.getD n 0
    · rw [if_pos e]
      exact ⟨fun z => (by cases z), fun z => absurd e.symm (z n (by omega))⟩
    · rw [if_neg e, factsTo_none rows ids a n]
      exact ⟨fun z i hi => if h : i = n then by rw [h]; exact fun w => e w.symm else z i (by omega), fun z i hi => z i (by omega)⟩
theorem factsTo_lenle (rows : List S70) (ids : List Int) : ∀ n, (factsTo rows ids n).length ≤ n
  | 0 => Nat.le_refl _
  | n + 1 => by rw [factsTo]; exact Nat.le_trans (gput_len _ _ _) (by have := factsTo_lenle rows ids n; omega)
theorem factsTo_leneq (rows : List S70) (ids : List Int) : ∀ n, (factsTo rows ids n).length = n ↔ ∀ i, i < n → ∀ j, j < i → ids.getD j 0 ≠ ids.getD i 0
  | 0 => ⟨fun _ i hi => absurd hi (Nat.not_lt_zero i), fun _ => rfl⟩
  | n + 1 => by
    have h1 := factsTo_lenle rows ids n
    have h2 := factsTo_leneq rows ids n
    have h3 := factsTo_none rows ids (ids.getD n 0) n
    rw [factsTo, gput_len_iff]
    by_cases e : glook (factsTo rows ids n) (ids.getD n 0) = none
    · rw [if_pos e]
      refine ⟨fun z i hi => ?_, fun z => ?_⟩
      · by_cases h : i = n
        · rw [h]; exact h3.1 e
        · exact h2.1 (by omega) i (by omega)
      · rw [h2.2 (fun i hi => z i (by omega))]
    · rw [if_neg e]
      exact ⟨fun z => by omega, fun z => absurd (h3.2 (z n (by omega))) e⟩
theorem factsOk_iff (rows : List S70) (ids : List Int) : factsOk rows ids = true ↔ rows.length = ids.length ∧ FitsP ids := by
  unfold factsOk FitsP
  rw [Bool.and_eq_true, Bool.and_eq_true, decide_eq_true_eq, decide_eq_true_eq, List.all_eq_true, factsTo_leneq]
  constructor
  · rintro ⟨⟨h1, h2⟩, h3⟩
    refine ⟨h1, fun i hi => ⟨?_, h3 i hi⟩⟩
    rw [getD_at hi]
    exact of_decide_eq_true (h2 _ (List.getElem_mem hi))
  · rintro ⟨h1, h2⟩
    refine ⟨⟨h1, fun a ha => ?_⟩, fun i hi => (h2 i hi).2⟩
    obtain ⟨i, hi, rfl⟩ := List.getElem_of_mem ha
    have := (h2 i hi).1
    rw [getD_at hi] at this
    exact decide_eq_true this
theorem factsTo_at (rows : List S70) {ids : List Int} (h : FitsP ids) : ∀ n i, n ≤ ids.length → i < n → glook (factsTo rows ids n) (ids.getD i 0) = some (factRow ids (rows.getD i z70))
  | 0, i, _, hi => absurd hi (Nat.not_lt_zero i)
  | n + 1, i, hn, hi => by
    rw [factsTo, glook_put]
    by_cases e : i = n
    · rw [e, if_pos rfl]
    · rw [if_neg ((h n (by omega)).2 i (by omega))]
      exact factsTo_at rows h n i (by omega) (by omega)

theorem size_ev (x : S25) : (preT x).length ≤ 1000 → Ev (fun k => treemergeref06_Size.f k x.f0 x.f1 x.f2 x.f3) ((preT x).length : Int) := by
  induction x using tree_ind with
  | h x ih =>
  intro hx
  have hp : (preT x).length = 1 + (preL x.f3).length := by rw [preT_eq, List.length_cons]; omega
  have hkids : ∀ l : List S25, l.length ≤ (preL l).length := by
    intro l
    induction l with
    | nil => exact Nat.zero_le _
    | cons y l ihl =>
      rw [preL, List.length_append, List.length_cons]
      have : (preT y).length = 1 + (preL y.f3).length := by rw [preT_eq, List.length_cons]; omega
      omega
  have hk := hkids x.f3
  have loop : ∀ d i (m : Nat), i + d = x.f3.length → m + (preL (x.f3.drop i)).length = (preT x).length → Ev (fun k => treemergeref06_Size.l0 k (m : Int) (i : Int) x.f0 x.f1 x.f2 x.f3) ((preT x).length : Int) := by
    intro d
    induction d with
    | zero =>
      intro i m hi hm
      rw [List.drop_of_length_le (by omega)] at hm
      simp only [preL, List.length_nil, Nat.add_zero] at hm
      refine Ev.step (fun k => by rw [treemergeref06_Size.l0]) (Ev.neg (by omega) ?_)
      rw [← hm]
      exact Ev.now _
    | succ d ihd =>
      intro i m hi hm
      have h : i < x.f3.length := by omega
      rw [preL_drop _ _ h, List.length_append] at hm
      have e := ih x.f3[i] (List.getElem_mem h) (by omega)
      refine Ev.step (fun k => by rw [treemergeref06_Size.l0]) (Ev.pos (by omega) (Ev.pos (by omega) ?_))
      rw [rd31 _ _ h, wrap_up h (by omega)]
      refine e.bind ?_
      rw [show wrap64 ((m : Int) + ((preT x.f3[i]).length : Int)) = ((m + (preT x.f3[i]).length : Nat) : Int) from by unfold wrap64; omega]
      exact ihd (i + 1) (m + (preT x.f3[i]).length) (by omega) (by omega)
  refine Ev.step (fun k => by rw [treemergeref06_Size.f]) ?_
  exact loop x.f3.length 0 1 (by omega) (by rw [List.drop_zero]; omega)
theorem at_ev (l : List Int) (n : Int) (hl : l.length ≤ 1000000) : ∃ r, Ev (fun k => treemergelaw31_at.f k l n) r ∧ ((r = -1 ∧ ∀ i, i < l.length → l.getD i 0 ≠ n) ∨ ∃ i, r = ((i : Nat) : Int) ∧ i < l.length ∧ l.getD i 0 = n) := by
  have loop : ∀ d i, i + d = l.length → (∀ j, j < i → l.getD j 0 ≠ n) → ∃ r, Ev (fun k => treemergelaw31_at.l0 k l n (i : Int)) r ∧ ((r = -1 ∧ ∀ i, i < l.length → l.getD i 0 ≠ n) ∨ ∃ i, r = ((i : Nat) : Int) ∧ i < l.length ∧ l.getD i 0 = n) := by
    intro d
    induction d with
    | zero =>
      intro i hi hj
      exact ⟨-1, Ev.step (fun k => by rw [treemergelaw31_at.l0]) (Ev.neg (by omega) (Ev.now _)), .inl ⟨rfl, fun j h => hj j (by omega)⟩⟩
    | succ d ih =>
      intro i hi hj
      have h : i < l.length := by omega
      by_cases e : l.getD i 0 = n
      · refine ⟨(i : Int), Ev.step (fun k => by rw [treemergelaw31_at.l0]) ?_, .inr ⟨i, rfl, h, e⟩⟩
        exact Ev.pos (by omega) (Ev.pos (by omega) (Ev.pos e (Ev.now _)))
      · obtain ⟨r, er, q⟩ := ih (i + 1) (by omega) (fun j hj' => if hh : j = i then by rw [hh]; exact e else hj j (by omega))
        refine ⟨r, Ev.step (fun k => by rw [treemergelaw31_at.l0]) ?_, q⟩
        refine Ev.pos (by omega) (Ev.pos (by omega) (Ev.neg e ?_))
        rw [wrap_up h (by omega)]
        exact er
  exact loop l.length 0 (by omega) (fun j hj => absurd hj (Nat.not_lt_zero j))
theorem up_f {rows : List S70} {ids : List Int} {i : Nat} (hi : i < rows.length) (hr : (rows.getD i z70).f0 = -1 ∨ (0 ≤ (rows.getD i z70).f0 ∧ (rows.getD i z70).f0 < (ids.length : Int))) :
    treemergelaw31_up.f rows ids (i : Int) = some (factRow ids (rows.getD i z70)).par := by
  unfold treemergelaw31_up.f
  rw [if_pos (by omega), if_pos (by omega)]
  show (if (rows.getD i z70).f0 < 0 then _ else if 0 ≤ (rows.getD i z70).f0 then if (rows.getD i z70).f0 < (ids.length : Int) then some (ids.getD (rows.getD i z70).f0.toNat 0) else none else none) = _
  unfold factRow
  dsimp only
  by_cases c : (rows.getD i z70).f0 < 0
  · rw [if_pos c, if_pos c]
  · rw [if_neg c, if_neg c, if_pos (by omega), if_pos (by omega)]
theorem getD_mem {l : List S70} {n : Nat} (h : n < l.length) : l.getD n z70 ∈ l := by
  rw [List.getD_eq_getElem?_getD, List.getElem?_eq_getElem h, Option.getD_some]
  exact List.getElem_mem h
section
variable (X Y : List S70) (b o : List Int) (i kk : Nat) (hb : b.length = X.length) (ho : o.length = Y.length) (hbl : b.length ≤ 60) (hol : o.length ≤ 60)
  (hX : ∀ r ∈ X, (r.f0 = -1 ∨ (0 ≤ r.f0 ∧ r.f0 < (X.length : Int))) ∧ (∀ k ∈ r.f4, 0 ≤ k ∧ k < (X.length : Int)) ∧ r.f3.length ≤ 1000000 ∧ r.f4.length ≤ 1000000)
  (hY : ∀ r ∈ Y, (r.f0 = -1 ∨ (0 ≤ r.f0 ∧ r.f0 < (Y.length : Int))) ∧ (∀ k ∈ r.f4, 0 ≤ k ∧ k < (Y.length : Int)) ∧ r.f3.length ≤ 1000000 ∧ r.f4.length ≤ 1000000)
  (hi : i < X.length) (hk : kk < Y.length)
include hb ho hX hY hi hk in
theorem eqkids_ev (hl : (X.getD i z70).f4.length = (Y.getD kk z70).f4.length) : ∀ d j, j + d = (X.getD i z70).f4.length → ∃ t, Ev (fun k => treemergelaw31_equal.l1 k X Y b o (i : Int) (kk : Int) (j : Int)) t ∧
    (t = true ↔ ((X.getD i z70).f4.drop j).map (fun k => b.getD k.toNat 0) = ((Y.getD kk z70).f4.drop j).map (fun k => o.getD k.toNat 0)) := by
  have g1 := (hX _ (getD_mem hi)).2.1
  have g2 := (hY _ (getD_mem hk)).2.1
  have g3 := (hX _ (getD_mem hi)).2.2.2
  have r1 : rd_T70 X (i : Int) = X.getD i z70 := rfl
  have r2 : rd_T70 Y (kk : Int) = Y.getD kk z70 := rfl
  generalize eR : X.getD i z70 = r at hl g1 g3 r1 ⊢
  generalize eS : Y.getD kk z70 = s at hl g2 r2 ⊢
  intro d
  induction d with
  | zero =>
    intro j hj
    refine ⟨true, Ev.step (fun k => by rw [treemergelaw31_equal.l1, r1]) (Ev.pos (by omega) (Ev.pos (by omega) (Ev.neg (by omega) (Ev.now _)))), fun _ => ?_, fun _ => rfl⟩
    rw [List.drop_of_length_le (by omega), List.drop_of_length_le (by omega)]
    rfl
  | succ d ih =>
    intro j hj
    have h1 : j < r.f4.length := by omega
    have h2 : j < s.f4.length := by omega
    have e1 : rd r.f4 (j : Int) = r.f4[j] := rd_at h1
    have e2 : rd s.f4 (j : Int) = s.f4[j] := rd_at h2
    have b1 := g1 _ (List.getElem_mem h1)
    have b2 := g2 _ (List.getElem_mem h2)
    have run : ∀ A : Nat → Option Bool, ∀ t, Ev (fun k => if b.getD (r.f4[j]).toNat 0 = o.getD (s.f4[j]).toNat 0 then A k else some false) t → (∀ k, A k = treemergelaw31_equal.l1 k X Y b o (i : Int) (kk : Int) ((j + 1 : Nat) : Int)) → Ev (fun k => treemergelaw31_equal.l1 k X Y b o (i : Int) (kk : Int) (j : Int)) t := by
      intro A t hA eA
      refine Ev.step (fun k => by rw [treemergelaw31_equal.l1, r1, r2, e1, e2, wrap_up h1 (by omega)]) ?_
      refine Ev.pos (by omega) (Ev.pos (by omega) (Ev.pos (by omega) (Ev.pos (by omega) (Ev.pos (by omega) (Ev.pos (by omega) (Ev.pos (by omega) (Ev.pos (by omega) (Ev.pos (by omega) (Ev.pos (by omega) (Ev.pos (by omega) ?_))))))))))
      exact Ev.congr (fun k => by rw [eA]; rfl) hA
    rw [List.drop_eq_getElem_cons h1, List.drop_eq_getElem_cons h2, List.map_cons, List.map_cons, List.cons.injEq]
    by_cases e : b.getD (r.f4[j]).toNat 0 = o.getD (s.f4[j]).toNat 0
    · obtain ⟨t, et, q⟩ := ih (j + 1) (by omega)
      exact ⟨t, run _ t (Ev.pos e et) (fun _ => rfl), q.trans ⟨fun z => ⟨e, z⟩, fun z => z.2⟩⟩
    · exact ⟨false, run _ false (Ev.neg e (Ev.now _)) (fun _ => rfl), fun z => (by cases z), fun z => absurd z.1 e⟩
include hb ho hX hY hi hk in
theorem eqgaps_ev (hl : (X.getD i z70).f4.length = (Y.getD kk z70).f4.length) (hg : (X.getD i z70).f3.length = (Y.getD kk z70).f3.length) : ∀ d j, j + d = (X.getD i z70).f3.length → ∃ t, Ev (fun k => treemergelaw31_equal.l0 k X Y b o (i : Int) (kk : Int) (j : Int)) t ∧
    (t = true ↔ (X.getD i z70).f3.drop j = (Y.getD kk z70).f3.drop j ∧ (X.getD i z70).f4.map (fun k => b.getD k.toNat 0) = (Y.getD kk z70).f4.map (fun k => o.getD k.toNat 0)) := by
  obtain ⟨t0, et0, q0⟩ := eqkids_ev X Y b o i kk hb ho hX hY hi hk hl (X.getD i z70).f4.length 0 (by omega)
  have et0 : Ev (fun k => treemergelaw31_equal.l1 k X Y b o (i : Int) (kk : Int) 0) t0 := et0
  rw [List.drop_zero, List.drop_zero] at q0
  have g3 := (hX _ (getD_mem hi)).2.2.1
  have r1 : rd_T70 X (i : Int) = X.getD i z70 := rfl
  have r2 : rd_T70 Y (kk : Int) = Y.getD kk z70 := rfl
  generalize eR : X.getD i z70 = r at hl hg g3 r1 q0 ⊢
  generalize eS : Y.getD kk z70 = s at hl hg r2 q0 ⊢
  intro d
  induction d with
  | zero =>
    intro j hj
    refine ⟨t0, ?_, ?_⟩
    · refine Ev.step (fun k => by rw [treemergelaw31_equal.l0, r1]) ?_
      exact Ev.pos (by omega) (Ev.pos (by omega) (Ev.neg (by omega) et0))
    rw [List.drop_of_length_le (by omega), List.drop_of_length_le (by omega), q0]
    exact ⟨fun z => ⟨rfl, z⟩, fun z => z.2⟩
  | succ d ih =>
    intro j hj
    have h1 : j < r.f3.length := by omega
    have h2 : j < s.f3.length := by omega
    have e1 : rdOf ByteArray.empty r.f3 (j : Int) = r.f3[j] := by show r.f3.getD j _ = _; rw [List.getD_eq_getElem?_getD, List.getElem?_eq_getElem h1, Option.getD_some]
    have e2 : rdOf ByteArray.empty s.f3 (j : Int) = s.f3[j] := by show s.f3.getD j _ = _; rw [List.getD_eq_getElem?_getD, List.getElem?_eq_getElem h2, Option.getD_some]
    have run : ∀ t, Ev (fun k => if (r.f3[j]).toList = (s.f3[j]).toList then treemergelaw31_equal.l0 k X Y b o (i : Int) (kk : Int) ((j + 1 : Nat) : Int) else some false) t → Ev (fun k => treemergelaw31_equal.l0 k X Y b o (i : Int) (kk : Int) (j : Int)) t := by
      intro t hA
      refine Ev.step (fun k => by rw [treemergelaw31_equal.l0, r1, r2, e1, e2, wrap_up h1 (by omega)]) ?_
      exact Ev.pos (by omega) (Ev.pos (by omega) (Ev.pos (by omega) (Ev.pos (by omega) (Ev.pos (by omega) (Ev.pos (by omega) (Ev.pos (by omega) hA))))))
    rw [List.drop_eq_getElem_cons h1, List.drop_eq_getElem_cons h2, List.cons.injEq]
    by_cases e : r.f3[j] = s.f3[j]
    · obtain ⟨t, et, q⟩ := ih (j + 1) (by omega)
      exact ⟨t, run t (Ev.pos (toList_inj.2 e) et), q.trans ⟨fun z => ⟨⟨e, z.1⟩, z.2⟩, fun z => ⟨z.1.2, z.2⟩⟩⟩
    · exact ⟨false, run false (Ev.neg (fun z => e (toList_inj.1 z)) (Ev.now _)), fun z => (by cases z), fun z => absurd z.1.1 e⟩
theorem fct_iff (b o : List Int) (r s : S70) : factRow b r = factRow o s ↔ (factRow b r).par = (factRow o s).par ∧ r.f2 = s.f2 ∧ r.f3 = s.f3 ∧ r.f4.map (fun k => b.getD k.toNat 0) = s.f4.map (fun k => o.getD k.toNat 0) := by
  unfold factRow
  rw [Fct.mk.injEq]
include hb ho hX hY hi hk in
theorem equal_ev : ∃ t, Ev (fun k => treemergelaw31_equal.f k X Y b o (i : Int) (kk : Int)) t ∧ (t = true ↔ factRow b (X.getD i z70) = factRow o (Y.getD kk z70)) := by
  have r1 : rd_T70 X (i : Int) = X.getD i z70 := rfl
  have r2 : rd_T70 Y (kk : Int) = Y.getD kk z70 := rfl
  have bad : Ev (fun k => treemergelaw31_equal.j0 k X Y b o (i : Int) (kk : Int) true) false := Ev.step (fun k => by rw [treemergelaw31_equal.j0]) (Ev.pos rfl (Ev.now _))
  rw [fct_iff]
  unfold treemergelaw31_equal.f
  rw [r1, r2]
  by_cases c1 : (X.getD i z70).f2 = (Y.getD kk z70).f2
  · have start : ∀ t, Ev (fun k => if (factRow b (X.getD i z70)).par = (factRow o (Y.getD kk z70)).par then (if ((X.getD i z70).f3.length : Int) = ((Y.getD kk z70).f3.length : Int) then (treemergelaw31_equal.j0 k X Y b o (i : Int) (kk : Int) (((X.getD i z70).f4.length : Int) != ((Y.getD kk z70).f4.length : Int))) else (treemergelaw31_equal.j0 k X Y b o (i : Int) (kk : Int) true)) else (treemergelaw31_equal.j0 k X Y b o (i : Int) (kk : Int) true)) t → _ := fun t h =>
      (Ev.pos (by omega) (Ev.pos (by omega) (Ev.pos (by omega) (Ev.pos (by omega) (Ev.pos (toList_inj.2 c1) (Ev.known (up_f hi (by rw [hb]; exact (hX _ (getD_mem hi)).1)) (Ev.known (up_f hk (by rw [ho]; exact (hY _ (getD_mem hk)).1)) h))))))
        : Ev (fun k => if 0 ≤ (i : Int) then (if (i : Int) < (X.length : Int) then (if 0 ≤ (kk : Int) then (if (kk : Int) < (Y.length : Int) then (if ((X.getD i z70).f2).toList = ((Y.getD kk z70).f2).toList then ((treemergelaw31_up.f X b (i : Int)).bind fun t278 => ((treemergelaw31_up.f Y o (kk : Int)).bind fun t279 => (if t278 = t279 then (if (((X.getD i z70).f3).length : Int) = (((Y.getD kk z70).f3).length : Int) then (treemergelaw31_equal.j0 k X Y b o (i : Int) (kk : Int) ((((X.getD i z70).f4).length : Int) != (((Y.getD kk z70).f4).length : Int))) else (treemergelaw31_equal.j0 k X Y b o (i : Int) (kk : Int) true)) else (treemergelaw31_equal.j0 k X Y b o (i : Int) (kk : Int) true)))) else (treemergelaw31_equal.j0 k X Y b o (i : Int) (kk : Int) true)) else (none)) else (none)) else (none)) else (none)) t)
    by_cases c2 : (factRow b (X.getD i z70)).par = (factRow o (Y.getD kk z70)).par
    · by_cases c3 : (X.getD i z70).f3.length = (Y.getD kk z70).f3.length
      · by_cases c4 : (X.getD i z70).f4.length = (Y.getD kk z70).f4.length
        · obtain ⟨t, et, q⟩ := eqgaps_ev X Y b o i kk hb ho hX hY hi hk c4 c3 (X.getD i z70).f3.length 0 (by omega)
          have et : Ev (fun k => treemergelaw31_equal.l0 k X Y b o (i : Int) (kk : Int) 0) t := et
          refine ⟨t, start t (Ev.pos c2 (Ev.pos (by omega) ?_)), ?_⟩
          · refine Ev.step (fun k => by rw [treemergelaw31_equal.j0]) ?_
            exact Ev.neg (by rw [c4]; simp) et
          · rw [q, List.drop_zero, List.drop_zero]
            exact ⟨fun z => ⟨c2, c1, z.1, z.2⟩, fun z => ⟨z.2.2.1, z.2.2.2⟩⟩
        · refine ⟨false, start false (Ev.pos c2 (Ev.pos (by omega) ?_)), fun z => (by cases z), fun z => absurd (by have h2 := congrArg List.length z.2.2.2; rw [List.length_map, List.length_map] at h2; exact h2) c4⟩
          have e : ((((X.getD i z70).f4.length : Int)) != (((Y.getD kk z70).f4.length : Int))) = true := bne_iff_ne.2 (by omega)
          rw [e]
          exact bad
      · exact ⟨false, start false (Ev.pos c2 (Ev.neg (by omega) bad)), fun z => (by cases z), fun z => absurd (by rw [z.2.2.1]) c3⟩
    · exact ⟨false, start false (Ev.neg c2 bad), fun z => (by cases z), fun z => absurd z.1 c2⟩
  · exact ⟨false, Ev.pos (by omega) (Ev.pos (by omega) (Ev.pos (by omega) (Ev.pos (by omega) (Ev.neg (fun z => c1 (toList_inj.1 z)) bad)))), fun z => (by cases z), fun z => absurd z.2.1 c1⟩
end

theorem mem_getD {l : List Int} {n : Int} : n ∈ l ↔ ∃ i, i < l.length ∧ l.getD i 0 = n := by
  constructor
  · intro h
    obtain ⟨i, hi, e⟩ := List.getElem_of_mem h
    exact ⟨i, hi, by rw [getD_at hi, e]⟩
  · rintro ⟨i, hi, e⟩
    rw [getD_at hi] at e
    rw [← e]
    exact List.getElem_mem hi
/-- Both sides have the same identifiers, with the same facts. -/
def AgreeP (X Y : List S70) (b o : List Int) : Prop := X.length = Y.length ∧ ∀ i, i < X.length → ∃ k, k < o.length ∧ o.getD k 0 = b.getD i 0 ∧ factRow b (X.getD i z70) = factRow o (Y.getD k z70)
theorem fitsP_inj {o : List Int} (fo : FitsP o) {i k : Nat} (hi : i < o.length) (hk : k < o.length) (e : o.getD i 0 = o.getD k 0) : i = k := by
  rcases Nat.lt_trichotomy i k with h | h | h
  · exact absurd e ((fo k hk).2 i h)
  · exact h
  · exact absurd e.symm ((fo i hi).2 k h)
theorem agree_loop (X Y : List S70) (x y : S25) (b o : List Int) (hb : b.length = X.length) (ho : o.length = Y.length) (hbl : b.length ≤ 60) (hol : o.length ≤ 60) (fo : FitsP o)
    (hX : ∀ r ∈ X, (r.f0 = -1 ∨ (0 ≤ r.f0 ∧ r.f0 < (X.length : Int))) ∧ (∀ k ∈ r.f4, 0 ≤ k ∧ k < (X.length : Int)) ∧ r.f3.length ≤ 1000000 ∧ r.f4.length ≤ 1000000)
    (hY : ∀ r ∈ Y, (r.f0 = -1 ∨ (0 ≤ r.f0 ∧ r.f0 < (Y.length : Int))) ∧ (∀ k ∈ r.f4, 0 ≤ k ∧ k < (Y.length : Int)) ∧ r.f3.length ≤ 1000000 ∧ r.f4.length ≤ 1000000) :
    ∀ d i, i + d = X.length → ∃ t, Ev (fun k => treemergelaw31_agree.l0 k X Y (i : Int) x.f0 x.f1 x.f2 x.f3 b y.f0 y.f1 y.f2 y.f3 o) t ∧ (t = true ↔ ∀ j, i ≤ j → j < X.length → ∃ k, k < o.length ∧ o.getD k 0 = b.getD j 0 ∧ factRow b (X.getD j z70) = factRow o (Y.getD k z70)) := by
  intro d
  induction d with
  | zero =>
    intro i hi
    refine ⟨true, ?_, fun _ j h1 h2 => by omega, fun _ => rfl⟩
    refine Ev.step (fun k => by rw [treemergelaw31_agree.l0]) ?_
    exact Ev.neg (by omega) (Ev.now _)
  | succ d ih =>
    intro i hi
    have h : i < X.length := by omega
    obtain ⟨r, er, q⟩ := at_ev o (b.getD i 0) (by omega)
    have run : ∀ t, Ev (fun k => if r < 0 then (some false) else ((treemergelaw31_equal.f k X Y b o (i : Int) r).bind fun t306 => (if t306 = true then (treemergelaw31_agree.l0 k X Y ((i + 1 : Nat) : Int) x.f0 x.f1 x.f2 x.f3 b y.f0 y.f1 y.f2 y.f3 o) else (some false)))) t → Ev (fun k => treemergelaw31_agree.l0 k X Y (i : Int) x.f0 x.f1 x.f2 x.f3 b y.f0 y.f1 y.f2 y.f3 o) t := by
      intro t hA
      refine Ev.step (fun k => by rw [treemergelaw31_agree.l0, wrap_up h (by omega)]) ?_
      exact Ev.pos (by omega) (Ev.pos (by omega) (Ev.pos (by omega) (er.bind hA)))
    rcases q with ⟨q, q2⟩ | ⟨k, q, q1, q2⟩
    · refine ⟨false, run false (Ev.pos (by omega) (Ev.now _)), fun z => (by cases z), fun z => ?_⟩
      obtain ⟨k, hk, e, _⟩ := z i (Nat.le_refl _) h
      exact absurd e (q2 k hk)
    · subst q
      obtain ⟨t, et, qt⟩ := equal_ev X Y b o i k hb ho hX hY h (by omega)
      cases t with
      | false =>
        refine ⟨false, run false (Ev.neg (by omega) (et.bind (Ev.neg (by decide) (Ev.now _)))), fun z => (by cases z), fun z => ?_⟩
        obtain ⟨k2, hk2, e, e2⟩ := z i (Nat.le_refl _) h
        have := fitsP_inj fo hk2 q1 (by rw [e, q2])
        subst this
        exact absurd (qt.2 e2) (by decide)
      | true =>
        obtain ⟨u, eu, qu⟩ := ih (i + 1) (by omega)
        refine ⟨u, run u (Ev.neg (by omega) (et.bind (Ev.pos rfl eu))), ?_⟩
        rw [qu]
        exact ⟨fun z j h1 h2 => if hh : j = i then by rw [hh]; exact ⟨k, q1, q2, qt.1 rfl⟩ else z j (by omega) h2, fun z j h1 h2 => z j (by omega) h2⟩
theorem rows_fine (x : S25) (hx : LightT x) : ∀ r ∈ rowsT x (-1) 0, (r.f0 = -1 ∨ (0 ≤ r.f0 ∧ r.f0 < ((rowsT x (-1) 0).length : Int))) ∧ (∀ k ∈ r.f4, 0 ≤ k ∧ k < ((rowsT x (-1) 0).length : Int)) ∧ r.f3.length ≤ 1000000 ∧ r.f4.length ≤ 1000000 := fun r hr =>
  ⟨(rows_bd x r hr).1, (rows_bd x r hr).2, rows_gaps x (lightOk hx) r hr, rows_kids x (lightOk hx) r hr⟩
theorem r06_rows_f {x : S25} (hx : LightT x) : treemergeref06_Rows.f x.f0 x.f1 x.f2 x.f3 = some (rowsT x (-1) 0) := by
  have h := hx.1
  cases x
  unfold treemergeref06_Rows.f
  rw [if_pos (Nat.le_trans h (by decide))]
theorem agree_ev {x y : S25} {b o : List Int} (hx : LightT x) (hy : LightT y) (hbl : b.length ≤ 60) (hol : o.length ≤ 60) (hb : b.length = (rowsT x (-1) 0).length) (ho : o.length = (rowsT y (-1) 0).length) (fo : FitsP o) :
    ∃ t, Ev (fun k => treemergelaw31_agree.f k x.f0 x.f1 x.f2 x.f3 b y.f0 y.f1 y.f2 y.f3 o) t ∧ (t = true ↔ AgreeP (rowsT x (-1) 0) (rowsT y (-1) 0) b o) := by
  unfold treemergelaw31_agree.f
  by_cases c : ((rowsT x (-1) 0).length : Int) = ((rowsT y (-1) 0).length : Int)
  · obtain ⟨t, e, q⟩ := agree_loop (rowsT x (-1) 0) (rowsT y (-1) 0) x y b o hb ho hbl hol fo (rows_fine x hx) (rows_fine y hy) (rowsT x (-1) 0).length 0 (by omega)
    refine ⟨t, Ev.known (r06_rows_f hx) (Ev.known (r06_rows_f hy) (Ev.pos c e)), q.trans ⟨fun z => ⟨by omega, fun i hi => z i (Nat.zero_le _) hi⟩, fun z j _ h2 => z.2 j h2⟩⟩
  · exact ⟨false, Ev.known (r06_rows_f hx) (Ev.known (r06_rows_f hy) (Ev.neg c (Ev.now _))), fun z => (by cases z), fun z => absurd z.1 (by omega)⟩
theorem fct_ext {a b : Fct} (h1 : a.par = b.par) (h2 : a.txt = b.txt) (h3 : a.gaps = b.gaps) (h4 : a.kids = b.kids) : a = b := by
  cases a
  cases b
  cases h1
  cases h2
  cases h3
  cases h4
  rfl
theorem chg_nil {x y : List (Int × Fct)} {id : Int} : chg x y id = [] ↔ ∃ a, glook x id = some a ∧ glook y id = some a := by
  unfold chg
  cases e1 : glook x id with
  | none =>
    cases e2 : glook y id with
    | none => exact ⟨fun z => (by cases z), fun ⟨a, z, _⟩ => by cases z⟩
    | some b => exact ⟨fun z => (by cases z), fun ⟨a, z, _⟩ => by cases z⟩
  | some a =>
    cases e2 : glook y id with
    | none => exact ⟨fun z => (by cases z), fun ⟨a, _, z⟩ => by cases z⟩
    | some b =>
      constructor
      · intro z
        simp only [List.append_eq_nil_iff] at z
        obtain ⟨z1, z2, z3, z4⟩ := z
        have k1 : a.par = b.par := Decidable.of_not_not fun h => by rw [if_neg h] at z1; cases z1
        have k2 : a.txt = b.txt := Decidable.of_not_not fun h => by rw [if_neg h] at z2; cases z2
        have k3 : a.gaps = b.gaps := Decidable.of_not_not fun h => by rw [if_neg h] at z3; cases z3
        have k4 : a.kids = b.kids := Decidable.of_not_not fun h => by rw [if_neg h] at z4; cases z4
        exact ⟨a, rfl, by rw [fct_ext k1 k2 k3 k4]⟩
      · rintro ⟨c, z1, z2⟩
        cases z1
        cases z2
        simp
theorem look_some {rows : List S70} {ids : List Int} (h : FitsP ids) {id : Int} {f : Fct} (e : glook (factsTo rows ids ids.length) id = some f) : ∃ i, i < ids.length ∧ ids.getD i 0 = id ∧ f = factRow ids (rows.getD i z70) := by
  have hm : id ∈ ids := Decidable.of_not_not fun z => by
    rw [(factsTo_none rows ids id ids.length).2 (fun i hi w => z (mem_getD.2 ⟨i, hi, w⟩))] at e
    cases e
  obtain ⟨i, hi, w⟩ := mem_getD.1 hm
  have k := factsTo_at rows h ids.length i (Nat.le_refl _) hi
  rw [w, e] at k
  cases k
  exact ⟨i, hi, w, rfl⟩
/-- No changes exactly if the sides agree. -/
theorem nil_iff {x y : S25} {b o : List Int} (fb : FitsP b) (fo : FitsP o) (hb : b.length = (rowsT x (-1) 0).length) (ho : o.length = (rowsT y (-1) 0).length) : lstL x y b o = [] ↔ AgreeP (rowsT x (-1) 0) (rowsT y (-1) 0) b o := by
  unfold lstL listF
  rw [List.flatMap_eq_nil_iff]
  constructor
  · intro z
    have one : ∀ id, id ∈ b ∨ id ∈ o → ∃ a, glook (factsTo (rowsT x (-1) 0) b b.length) id = some a ∧ glook (factsTo (rowsT y (-1) 0) o o.length) id = some a := fun id h => chg_nil.1 (z id (by rw [ascL_mem, List.mem_append]; exact h))
    refine ⟨?_, fun i hi => ?_⟩
    · have s1 : b ⊆ o := fun id h => by
        obtain ⟨a, _, e⟩ := one id (.inl h)
        obtain ⟨k, hk, w, _⟩ := look_some fo e
        exact mem_getD.2 ⟨k, hk, w⟩
      have s2 : o ⊆ b := fun id h => by
        obtain ⟨a, e, _⟩ := one id (.inr h)
        obtain ⟨k, hk, w, _⟩ := look_some fb e
        exact mem_getD.2 ⟨k, hk, w⟩
      have l1 := (fitsP_nodup fb).length_le_of_subset s1
      have l2 := (fitsP_nodup fo).length_le_of_subset s2
      omega
    · have hib : i < b.length := by omega
      obtain ⟨a, e1, e2⟩ := one (b.getD i 0) (.inl (mem_getD.2 ⟨i, hib, rfl⟩))
      obtain ⟨k, hk, w, ew⟩ := look_some fo e2
      have k1 := factsTo_at (rowsT x (-1) 0) fb b.length i (Nat.le_refl _) hib
      rw [e1] at k1
      cases k1
      exact ⟨k, hk, w, ew⟩
  · rintro ⟨hl, ag⟩ id hid
    rw [ascL_mem, List.mem_append] at hid
    have s1 : b ⊆ o := fun id h => by
      obtain ⟨i, hi, w⟩ := mem_getD.1 h
      obtain ⟨k, hk, e, _⟩ := ag i (by omega)
      exact mem_getD.2 ⟨k, hk, by rw [e, w]⟩
    have s2 : id ∈ b := hid.elim (fun z => z) (fun ho2 => Decidable.of_not_not fun nb => by
      have nd : (id :: b).Nodup := List.nodup_cons.2 ⟨nb, fitsP_nodup fb⟩
      have := nd.length_le_of_subset (fun a ha => (List.mem_cons.1 ha).elim (fun e => by rw [e]; exact ho2) (fun h => s1 h))
      rw [List.length_cons] at this
      omega)
    obtain ⟨i, hi, w⟩ := mem_getD.1 s2
    obtain ⟨k, hk, e, ef⟩ := ag i (by omega)
    refine chg_nil.2 ⟨factRow b ((rowsT x (-1) 0).getD i z70), ?_, ?_⟩
    · rw [← w]; exact factsTo_at _ fb b.length i (Nat.le_refl _) hi
    · rw [← w, ← e, ef]; exact factsTo_at _ fo o.length k (Nat.le_refl _) hk
def ltP (c d : S48) : Prop := c.f0 < d.f0 ∨ (c.f0 = d.f0 ∧ c.f1 < d.f1)
theorem chg_strict (x y : List (Int × Fct)) (id : Int) : (chg x y id).Pairwise ltP := by
  unfold chg
  split
  · simp [ltP]
  · exact List.pairwise_singleton _ _
  · exact List.pairwise_singleton _ _
  · split <;> split <;> split <;> split <;> simp [ltP]
theorem lstL_strict (x y : S25) (b o : List Int) : (lstL x y b o).Pairwise ltP := by
  unfold lstL listF
  rw [List.pairwise_flatMap]
  exact ⟨fun a _ => chg_strict _ _ a, (ascL_asc (b ++ o)).imp (fun {a b} hab c hc d hd => .inl (by rw [chg_f0 hc, chg_f0 hd]; exact hab))⟩

theorem asc_loop (l : List S48) (hl : l.length ≤ 1000000) (hs : l.Pairwise ltP) : ∀ d i, i + d = l.length → 1 ≤ i → Ev (fun k => treemergelaw31_ChangeComplete.l0 k l (i : Int)) true := by
  intro d
  induction d with
  | zero =>
    intro i hi h1
    refine Ev.step (fun k => by rw [treemergelaw31_ChangeComplete.l0]) ?_
    exact Ev.neg (by omega) awake_ev
  | succ d ih =>
    intro i hi h1
    have h : i < l.length := by omega
    have hw : wrap64 ((i : Int) - 1) = ((i - 1 : Nat) : Int) := by unfold wrap64; omega
    have lt := List.pairwise_iff_getElem.1 hs (i - 1) i (by omega) h (by omega)
    refine Ev.step (fun k => by rw [treemergelaw31_ChangeComplete.l0, hw, wrap_up h (by omega), rd48_at h, rd48_at (show i - 1 < l.length by omega)]) ?_
    unfold ltP at lt
    refine Ev.pos (by omega) (Ev.pos (by omega) (Ev.pos (by omega) (Ev.pos (by omega) (Ev.neg (by omega) ?_))))
    by_cases c : l[i - 1].f0 = l[i].f0
    · exact Ev.pos c (Ev.neg (by omega) (ih (i + 1) (by omega) (by omega)))
    · exact Ev.neg c (ih (i + 1) (by omega) (by omega))
theorem asc_ev (l : List S48) (hl : l.length ≤ 1000000) (hs : l.Pairwise ltP) : Ev (fun k => treemergelaw31_ChangeComplete.l0 k l 1) true := by
  by_cases c : l.length = 0
  · refine Ev.step (fun k => by rw [treemergelaw31_ChangeComplete.l0]) ?_
    exact Ev.neg (by omega) awake_ev
  · exact asc_loop l hl hs (l.length - 1) 1 (by omega) (Nat.le_refl _)
theorem fits_ev (x : S25) (l : List Int) : ∃ t, Ev (fun k => treemergelaw31_fits.f k x.f0 x.f1 x.f2 x.f3 l) t ∧ (t = true → LightT x ∧ l.length ≤ 60) := by
  unfold treemergelaw31_fits.f
  obtain ⟨t, e, q⟩ := small_ev x
  by_cases h : t = true
  · exact ⟨_, e.bind (Ev.pos h (Ev.now _)), fun z => ⟨q h, by have := of_decide_eq_true z; omega⟩⟩
  · exact ⟨false, e.bind (Ev.neg h (Ev.now _)), fun z => by cases z⟩
theorem ChangeComplete_ev (x y : S25) (b o : List Int) : Ev (fun k => treemergelaw31_ChangeComplete.f k x.f0 x.f1 x.f2 x.f3 b y.f0 y.f1 y.f2 y.f3 o) true := by
  unfold treemergelaw31_ChangeComplete.f
  have aw : Ev (fun k => treemergelaw31_ChangeComplete.j0 k true x.f0 x.f1 x.f2 x.f3 b y.f0 y.f1 y.f2 y.f3 o) true := by
    refine Ev.step (fun k => by rw [treemergelaw31_ChangeComplete.j0]) ?_
    exact Ev.pos rfl awake_ev
  obtain ⟨t, e, q⟩ := fits_ev x b
  refine e.bind ?_
  cases t with
  | false => exact Ev.neg (by decide) aw
  | true =>
    obtain ⟨hx, hb⟩ := q rfl
    refine Ev.pos rfl ?_
    obtain ⟨t, e, q⟩ := fits_ev y o
    refine e.bind ?_
    cases t with
    | false => exact aw
    | true =>
      obtain ⟨hy, ho⟩ := q rfl
      refine Ev.step (fun k => by rw [treemergelaw31_ChangeComplete.j0]) (Ev.neg (by decide) (Ev.known (change_list_f hx hy hb ho) ?_))
      by_cases c : lstB x y b o = true
      · rw [if_pos c]
        have c2 := c
        unfold lstB at c2
        rw [Bool.and_eq_true, factsOk_iff, factsOk_iff] at c2
        obtain ⟨⟨lb, fb⟩, lo, fo⟩ := c2
        have s1 := rowsT_len x (-1) 0
        have s2 := rowsT_len y (-1) 0
        have hlen := lstL_len x y b o hb ho
        obtain ⟨u, eu, qu⟩ := agree_ev hx hy hb ho lb.symm lo.symm fo
        have hu : ((((lstL x y b o).length : Int) == 0) != u) = false := by
          have n := nil_iff fb fo lb.symm lo.symm
          cases u with
          | true =>
            rw [n.2 (qu.1 rfl)]
            rfl
          | false =>
            have : ¬ lstL x y b o = [] := fun z => by cases qu.2 (n.1 z)
            have h0 : (lstL x y b o).length ≠ 0 := fun z => this (List.length_eq_zero_iff.1 z)
            have h1 : (((lstL x y b o).length : Int) == 0) = false := beq_eq_false_iff_ne.2 (by omega)
            rw [h1]
            rfl
        refine Ev.pos rfl ((size_ev x (by have := hx.1; omega)).bind (Ev.pos (by omega) ((size_ev y (by have := hy.1; omega)).bind (Ev.pos (by omega) (eu.bind ?_)))))
        rw [hu]
        refine Ev.step (fun k => by rw [treemergelaw31_ChangeComplete.j1]) (Ev.neg (by decide) ?_)
        exact asc_ev (lstL x y b o) (by omega) (lstL_strict x y b o)
      · rw [if_neg c]
        exact Ev.neg (by decide) (Ev.pos rfl awake_ev)

structure S28 where
  f0 : S25
  f1 : List Int
def k28 : Kd S28 := Kd.iso (Kd.pair k25 (Kd.slice 3 (Kd.int .i64))) (fun x : S28 => (x.f0, x.f1))
theorem k28_open {w : World} {x : S28} {cs : List Value} (h : k28.K w x cs) : ∃ A2 c2 A3 c3 A4 c4, cs = [.int .i64 x.f0.f0, .string x.f0.f1, .slice A2 x.f0.f2.length c2, .slice A3 x.f0.f3.length c3, .slice A4 x.f1.length c4] ∧ x.f0.f2.length ≤ c2 ∧ Kd.string.C w A2 x.f0.f2.length x.f0.f2 ∧ x.f0.f3.length ≤ c3 ∧ k25.C w A3 x.f0.f3.length x.f0.f3 ∧ x.f1.length ≤ c4 ∧ (Kd.int .i64).C w A4 x.f1.length x.f1 := by
  obtain ⟨_, _, rfl, h0, ⟨A4, c4, rfl, l4, g4⟩⟩ := h
  obtain ⟨A2, c2, A3, c3, rfl, l2, g2, l3, g3⟩ := k25_open h0
  exact ⟨A2, c2, A3, c3, A4, c4, rfl, l2, g2, l3, g3, l4, g4⟩
theorem ChangeComplete_row {w : World} (a0 : S28) (A0_2 : Option Addr) (c0_2 : Nat) (A0_3 : Option Addr) (c0_3 : Nat) (A0_4 : Option Addr) (c0_4 : Nat) (l0_2 : a0.f0.f2.length ≤ c0_2) (g0_2 : Kd.string.C w A0_2 a0.f0.f2.length a0.f0.f2) (l0_3 : a0.f0.f3.length ≤ c0_3) (g0_3 : k25.C w A0_3 a0.f0.f3.length a0.f0.f3) (l0_4 : a0.f1.length ≤ c0_4) (g0_4 : (Kd.int .i64).C w A0_4 a0.f1.length a0.f1) (w0 : True) (a1 : S28) (A1_2 : Option Addr) (c1_2 : Nat) (A1_3 : Option Addr) (c1_3 : Nat) (A1_4 : Option Addr) (c1_4 : Nat) (l1_2 : a1.f0.f2.length ≤ c1_2) (g1_2 : Kd.string.C w A1_2 a1.f0.f2.length a1.f0.f2) (l1_3 : a1.f0.f3.length ≤ c1_3) (g1_3 : k25.C w A1_3 a1.f0.f3.length a1.f0.f3) (l1_4 : a1.f1.length ≤ c1_4) (g1_4 : (Kd.int .i64).C w A1_4 a1.f1.length a1.f1) (w1 : True) : Calls Try.prog 6 #[.agg #[.int .i64 a0.f0.f0, .string a0.f0.f1, .slice A0_2 a0.f0.f2.length c0_2, .slice A0_3 a0.f0.f3.length c0_3, .slice A0_4 a0.f1.length c0_4], .agg #[.int .i64 a1.f0.f0, .string a1.f0.f1, .slice A1_2 a1.f0.f2.length c1_2, .slice A1_3 a1.f0.f3.length c1_3, .slice A1_4 a1.f1.length c1_4]] w fun e w' => e = .returned (.bool true) ∧ Below w.heap.size w w' := by
  obtain ⟨k, hk⟩ := (ChangeComplete_ev a0.f0 a1.f0 a0.f1 a1.f1).rounds
  exact treemergelaw31_ChangeComplete.calls k a0.f0.f0 a0.f0.f1 A0_2 c0_2 _ A0_3 c0_3 _ A0_4 c0_4 _ a1.f0.f0 a1.f0.f1 A1_2 c1_2 _ A1_3 c1_3 _ A1_4 c1_4 _ true w g0_2 l0_2 g0_3 l0_3 g0_4 l0_4 g1_2 l1_2 g1_3 l1_3 g1_4 l1_4 hk

end Go.Proofs.Ytcfjdehpbckomaa.Scratch
