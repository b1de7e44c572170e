/- ChangeLists returns true: proved here by steps through the program's text; no condition but those that stand in each theorem. -/
import Derived.WalkSpells
import Derived.Test.YtcfjdehpbckomaaQ0
import Derived.Test.YtcfjdehpbckomaaQ12
import Derived.Test.YtcfjdehpbckomaaQ3
import Derived.Test.YtcfjdehpbckomaaQ11
import Derived.Test.YtcfjdehpbckomaaQ6
import Derived.Test.YtcfjdehpbckomaaQ7
import Derived.Test.YtcfjdehpbckomaaQ5
import Derived.Test.YtcfjdehpbckomaaQ8
namespace Go.Proofs.Ytcfjdehpbckomaa.Scratch
set_option linter.unusedVariables false
open Go.RowKit Go.Proofs.YtcfjdehpbckomaaW.PrintWords Go.Proofs.YtcfjdehpbckomaaW.PrintLast Go.Proofs.YtcfjdehpbckomaaW.PrintMore Go.Proofs.Ytcfjdehpbckomaa.Q
attribute [local go_sem] max2_int min2_int max_two min_two max_three min_three max_four min_four
theorem Ev.pos {α : Type} {c : Prop} [Decidable c] {A B : Nat → Option α} {r : α} (h : c) (k : Ev A r) : Ev (fun n => if c then A n else B n) r := by simpa only [if_pos h] using k
theorem Ev.neg {α : Type} {c : Prop} [Decidable c] {A B : Nat → Option α} {r : α} (h : ¬ c) (k : Ev B r) : Ev (fun n => if c then A n else B n) r := by simpa only [if_neg h] using k
theorem Ev.cast {α : Type} {g : Nat → Option α} {r r' : α} (h : r = r') (k : Ev g r) : Ev g r' := h ▸ k
theorem Ev.known {α β : Type} {o : Option α} {f : Nat → α → Option β} {a : α} {r : β} (h : o = some a) (k : Ev (fun n => f n a) r) : Ev (fun n => o.bind (f n)) r := by subst h; exact k
set_option maxRecDepth 100000 in
theorem awake_g : treemergelaw31_awake.g = some true := by decide +kernel
theorem awake_f : treemergelaw31_awake.f = some true := by unfold treemergelaw31_awake.f; rw [if_pos awake_g]
theorem awake_ev : Ev (fun _ => (treemergelaw31_awake.f).bind fun t => some t) true := by rw [awake_f]; exact Ev.now true
theorem wrap_up {i n : Nat} (h : i < n) (hn : n ≤ 140737488351232) : wrap64 ((i : Int) + 1) = ((i + 1 : Nat) : Int) := by unfold wrap64; omega
theorem rd_at {l : List Int} {i : Nat} (h : i < l.length) : rd l (i : Int) = l[i] := by simp [rd, List.getD_eq_getElem?_getD, List.getElem?_eq_getElem h]
theorem rd48_at {l : List S48} {i : Nat} (h : i < l.length) : rd_T48 l (i : Int) = l[i] := by simp [rd_T48, List.getD_eq_getElem?_getD, List.getElem?_eq_getElem h]

def clsh (c d : S48) : Bool := decide (c.f0 = d.f0) && ovl c.f1 d.f1
theorem insAsc_len (a : Int) : ∀ l : List Int, (insAsc a l).length ≤ l.length + 1
  | [] => by simp [insAsc]
  | b :: l => by
    rw [insAsc]
    split
    · simp
    · split
      · simp
      · have := insAsc_len a l
        simp only [List.length_cons]
        omega
def ovIn (c : S48) (y : List S48) (out : List Int) : List Int := y.foldl (fun o d => if clsh c d = true then insAsc c.f0 o else o) out
def ovOut (x y : List S48) (out : List Int) : List Int := x.foldl (fun o c => ovIn c y o) out
theorem ovIn_len (c : S48) : ∀ (y : List S48) (out : List Int), (ovIn c y out).length ≤ out.length + y.length
  | [], out => by simp [ovIn]
  | d :: y, out => by
    have := ovIn_len c y (if clsh c d = true then insAsc c.f0 out else out)
    simp only [ovIn, List.foldl_cons, List.length_cons] at this ⊢
    have h2 : (if clsh c d = true then insAsc c.f0 out else out).length ≤ out.length + 1 := by
      split
      · exact insAsc_len _ _
      · omega
    omega
theorem ovIn_asc (c : S48) : ∀ (y : List S48) (out : List Int), out.Pairwise (· < ·) → (ovIn c y out).Pairwise (· < ·)
  | [], out, h => h
  | d :: y, out, h => by
    refine ovIn_asc c y (if clsh c d = true then insAsc c.f0 out else out) ?_
    split
    · exact insAsc_asc _ _ h
    · exact h
theorem ovOut_asc (y : List S48) : ∀ (x : List S48) (out : List Int), out.Pairwise (· < ·) → (ovOut x y out).Pairwise (· < ·)
  | [], out, h => h
  | c :: x, out, h => ovOut_asc y x _ (ovIn_asc c y out h)
theorem ovIn_mem (c : S48) (a : Int) : ∀ (y : List S48) (out : List Int), a ∈ ovIn c y out ↔ a ∈ out ∨ (a = c.f0 ∧ ∃ d ∈ y, clsh c d = true)
  | [], out => by simp [ovIn]
  | d :: y, out => by
    have h := ovIn_mem c a y (if clsh c d = true then insAsc c.f0 out else out)
    have e : ovIn c (d :: y) out = ovIn c y (if clsh c d = true then insAsc c.f0 out else out) := rfl
    rw [e, h]
    by_cases hc : clsh c d = true
    · rw [if_pos hc, insAsc_mem]
      constructor
      · rintro ((h | h) | ⟨h, z, hz, hz2⟩)
        · exact .inr ⟨h, d, by simp, hc⟩
        · exact .inl h
        · exact .inr ⟨h, z, List.mem_cons_of_mem _ hz, hz2⟩
      · rintro (h | ⟨h, _⟩)
        · exact .inl (.inr h)
        · exact .inl (.inl h)
    · rw [if_neg hc]
      constructor
      · rintro (h | ⟨h, z, hz, hz2⟩)
        · exact .inl h
        · exact .inr ⟨h, z, List.mem_cons_of_mem _ hz, hz2⟩
      · rintro (h | ⟨h, z, hz, hz2⟩)
        · exact .inl h
        · rcases List.mem_cons.1 hz with rfl | hz
          · exact absurd hz2 hc
          · exact .inr ⟨h, z, hz, hz2⟩
theorem ovOut_mem (y : List S48) (a : Int) : ∀ (x : List S48) (out : List Int), a ∈ ovOut x y out ↔ a ∈ out ∨ ∃ c ∈ x, a = c.f0 ∧ ∃ d ∈ y, clsh c d = true
  | [], out => by simp [ovOut]
  | c :: x, out => by
    have e : ovOut (c :: x) y out = ovOut x y (ovIn c y out) := rfl
    rw [e, ovOut_mem y a x, ovIn_mem]
    constructor
    · rintro ((h | h) | ⟨z, hz, h⟩)
      · exact .inl h
      · exact .inr ⟨c, by simp, h⟩
      · exact .inr ⟨z, List.mem_cons_of_mem _ hz, h⟩
    · rintro (h | ⟨z, hz, h⟩)
      · exact .inl (.inl h)
      · rcases List.mem_cons.1 hz with rfl | hz
        · exact .inl (.inr h)
        · exact .inr ⟨z, hz, h⟩
theorem groupTo_mem (x : List S48) (a f : Int) : ∀ n, n ≤ x.length → (f ∈ (glook (groupTo x n) a).getD [] ↔ ∃ i, ∃ h : i < x.length, i < n ∧ x[i].f0 = a ∧ x[i].f1 = f)
  | 0, _ => by simp [groupTo, glook]
  | n + 1, hn => by
    have hx : x.getD n z48 = x[n] := by rw [List.getD_eq_getElem?_getD, List.getElem?_eq_getElem (by omega), Option.getD_some]
    have ih := groupTo_mem x a f n (by omega)
    rw [groupTo, hx, glook_put]
    by_cases e : a = x[n].f0
    · rw [if_pos e, Option.getD_some, List.mem_append, List.mem_singleton, ← e, ih]
      constructor
      · rintro (⟨i, h, h1, h2⟩ | h)
        · exact ⟨i, h, by omega, h2⟩
        · exact ⟨n, by omega, by omega, e.symm, h.symm⟩
      · rintro ⟨i, h, h1, h2, h3⟩
        by_cases hin : i = n
        · subst hin; exact .inr h3.symm
        · exact .inl ⟨i, h, by omega, h2, h3⟩
    · rw [if_neg e, ih]
      constructor
      · rintro ⟨i, h, h1, h2⟩
        exact ⟨i, h, by omega, h2⟩
      · rintro ⟨i, h, h1, h2, h3⟩
        have : i ≠ n := by rintro rfl; exact e h2.symm
        exact ⟨i, h, by omega, h2, h3⟩
theorem foundTo_mem (G : List (Int × List Int)) (y : List S48) (a : Int) : ∀ n, n ≤ y.length → (a ∈ foundTo G y n ↔ ∃ i, ∃ h : i < y.length, i < n ∧ y[i].f0 = a ∧ ((glook G a).getD []).any (fun f => ovl f y[i].f1) = true)
  | 0, _ => by simp [foundTo]
  | n + 1, hn => by
    have hy : y.getD n z48 = y[n] := by rw [List.getD_eq_getElem?_getD, List.getElem?_eq_getElem (by omega), Option.getD_some]
    have ih := foundTo_mem G y a n (by omega)
    have step : (∃ i, ∃ h : i < y.length, i < n + 1 ∧ y[i].f0 = a ∧ ((glook G a).getD []).any (fun f => ovl f y[i].f1) = true) ↔ (a ∈ foundTo G y n ∨ (y[n].f0 = a ∧ ((glook G a).getD []).any (fun f => ovl f y[n].f1) = true)) := by
      rw [ih]
      constructor
      · rintro ⟨i, h, h1, h2, h3⟩
        by_cases hin : i = n
        · subst hin; exact .inr ⟨h2, h3⟩
        · exact .inl ⟨i, h, by omega, h2, h3⟩
      · rintro (⟨i, h, h1, h2⟩ | h)
        · exact ⟨i, h, by omega, h2⟩
        · exact ⟨n, by omega, by omega, h⟩
    rw [step, foundTo, hy]
    by_cases hc : ((glook G y[n].f0).getD []).any (fun f => ovl f y[n].f1) = true
    · rw [if_pos hc]
      by_cases hm : y[n].f0 ∈ foundTo G y n
      · rw [if_pos hm]
        constructor
        · exact .inl
        · rintro (h | ⟨h, _⟩)
          · exact h
          · rw [← h]; exact hm
      · rw [if_neg hm, List.mem_append, List.mem_singleton]
        constructor
        · rintro (h | h)
          · exact .inl h
          · exact .inr ⟨h.symm, by rw [h]; exact hc⟩
        · rintro (h | ⟨h, _⟩)
          · exact .inl h
          · exact .inr h.symm
    · rw [if_neg hc]
      constructor
      · exact .inl
      · rintro (h | ⟨h, h2⟩)
        · exact h
        · rw [← h] at h2; exact absurd h2 hc
/-- The two lists of identifiers are one. -/
theorem overlap_same (x y : List S48) : ascL (foundTo (groupTo x x.length) y y.length) = ovOut x y [] := by
  refine ext_asc (ascL_asc _) (ovOut_asc y x [] List.Pairwise.nil) (fun a => ?_)
  rw [ascL_mem, foundTo_mem _ _ _ _ (Nat.le_refl _), ovOut_mem]
  constructor
  · rintro ⟨i, h, _, h1, h2⟩
    obtain ⟨f, hf, ho⟩ := List.any_eq_true.1 h2
    obtain ⟨j, hj, _, h3, h4⟩ := (groupTo_mem x a f x.length (Nat.le_refl _)).1 hf
    refine .inr ⟨x[j], List.getElem_mem hj, h3.symm, y[i], List.getElem_mem h, ?_⟩
    unfold clsh
    rw [h3, h1, h4, decide_eq_true rfl, ho]
    rfl
  · rintro (h | ⟨c, hc, rfl, d, hd, hcl⟩)
    · cases h
    · obtain ⟨j, hj, rfl⟩ := List.getElem_of_mem hc
      obtain ⟨i, hi, rfl⟩ := List.getElem_of_mem hd
      unfold clsh at hcl
      rw [Bool.and_eq_true, decide_eq_true_eq] at hcl
      refine ⟨i, hi, hi, hcl.1.symm, List.any_eq_true.2 ⟨x[j].f1, ?_, hcl.2⟩⟩
      exact (groupTo_mem x _ _ x.length (Nat.le_refl _)).2 ⟨j, hj, hj, rfl, rfl⟩
theorem ovOut_len (y : List S48) : ∀ (x : List S48) (out : List Int), (ovOut x y out).length ≤ out.length + x.length * y.length
  | [], out => by simp [ovOut]
  | c :: x, out => by
    have e : ovOut (c :: x) y out = ovOut x y (ovIn c y out) := rfl
    have h1 := ovOut_len y x (ovIn c y out)
    have h2 := ovIn_len c y out
    rw [e, List.length_cons, Nat.add_mul]
    omega

theorem rd31 (l : List S25) (i : Nat) (h : i < l.length) : rd_T25 l (i : Int) = l[i] := by
  unfold rd_T25
  simp [List.getD_eq_getElem?_getD, List.getElem?_eq_getElem h]
theorem eta31 (y : S25) : (⟨y.f0, y.f1, y.f2, y.f3⟩ : S25) = y := by cases y; rfl
theorem preL_drop (l : List S25) (i : Nat) (h : i < l.length) : preL (l.drop i) = preT l[i] ++ preL (l.drop (i + 1)) := by
  rw [List.drop_eq_getElem_cons h, preL]
theorem preT_sub (x : S25) : ∀ y ∈ preT x, (preT y).length ≤ (preT x).length ∧ ∀ z ∈ preT y, z ∈ preT x := by
  induction x using tree_ind with
  | h x ih =>
  intro y hy
  rw [preT_eq x, List.mem_cons] at hy
  rcases hy with rfl | hy
  · exact ⟨Nat.le_refl _, fun z hz => hz⟩
  · have key : ∀ l : List S25, (∀ v ∈ l, v ∈ x.f3) → y ∈ preL l → (preT y).length ≤ (preL l).length ∧ ∀ z ∈ preT y, z ∈ preL l := by
      intro l
      induction l with
      | nil => intro _ h; simp [preL] at h
      | cons v l ihl =>
        intro hv h
        rw [preL, List.mem_append] at h
        rcases h with h | h
        · obtain ⟨h1, h2⟩ := ih v (hv v (by simp)) y h
          rw [preL, List.length_append]
          exact ⟨by omega, fun z hz => List.mem_append.2 (Or.inl (h2 z hz))⟩
        · obtain ⟨h1, h2⟩ := ihl (fun u hu => hv u (by simp [hu])) h
          rw [preL, List.length_append]
          exact ⟨by omega, fun z hz => List.mem_append.2 (Or.inr (h2 z hz))⟩
    obtain ⟨h1, h2⟩ := key x.f3 (fun v hv => hv) hy
    rw [preT_eq x, List.length_cons]
    exact ⟨by omega, fun z hz => List.mem_cons_of_mem _ (h2 z hz)⟩
theorem kid_pre {x y : S25} (h : y ∈ x.f3) : y ∈ preT x := by
  rw [preT_eq]
  refine List.mem_cons_of_mem _ ?_
  generalize x.f3 = l at h
  induction l with
  | nil => simp at h
  | cons v l ih =>
    rw [preL, List.mem_append]
    rcases List.mem_cons.1 h with rfl | h
    · exact Or.inl (by rw [preT_eq]; simp)
    · exact Or.inr (ih h)
theorem left_ev (x : S25) : ∀ (n v : Int), n ≤ 1000 → v ≤ 1000 → ∃ r, Ev (fun k => treemergeref06_left.f k x.f0 x.f1 x.f2 x.f3 n v) r ∧ (0 ≤ r → ((preT x).length : Int) + r = n) := by
  induction x using tree_ind with
  | h x ih =>
  intro n v hn hv
  have bad : ∃ r, Ev (fun k => treemergeref06_left.j0 k n v true x.f0 x.f1 x.f2 x.f3) r ∧ (0 ≤ r → ((preT x).length : Int) + r = n) := ⟨-1, Ev.step (fun k => by rw [treemergeref06_left.j0, if_pos rfl]) (Ev.now _), fun h => by omega⟩
  by_cases h1 : n < 1
  · obtain ⟨r, e, q⟩ := bad
    exact ⟨r, Ev.step (fun k => by rw [treemergeref06_left.f, if_pos h1]) e, q⟩
  by_cases h2 : v < 1
  · obtain ⟨r, e, q⟩ := bad
    exact ⟨r, Ev.step (fun k => by rw [treemergeref06_left.f, if_neg h1, if_pos h2]) e, q⟩
  by_cases h3 : (x.f3.length : Int) > n
  · obtain ⟨r, e, q⟩ := bad
    exact ⟨r, Ev.step (fun k => by rw [treemergeref06_left.f, if_neg h1, if_neg h2, decide_eq_true h3]) e, q⟩
  have wn : wrap64 (n - 1) = n - 1 := by unfold wrap64; omega
  have wv : wrap64 (v - 1) = v - 1 := by unfold wrap64; omega
  have loop : ∀ (g i : Nat) (m : Int), i + g = x.f3.length → 0 ≤ m → m ≤ 1000 → ∃ r, Ev (fun k => treemergeref06_left.l0 k v m (i : Int) x.f0 x.f1 x.f2 x.f3) r ∧ (0 ≤ r → ((preL (x.f3.drop i)).length : Int) + r = m) := by
    intro g
    induction g with
    | zero =>
      intro i m hi _ _
      refine ⟨m, Ev.step (fun k => by rw [treemergeref06_left.l0, if_neg (by omega)]) (Ev.now _), fun _ => ?_⟩
      rw [List.drop_of_length_le (by omega), preL]
      simp
    | succ g ihg =>
      intro i m hi h0 hm
      have hil : i < x.f3.length := by omega
      have wu : wrap64 ((i : Int) + 1) = ((i + 1 : Nat) : Int) := by unfold wrap64; omega
      obtain ⟨r, e, q⟩ := ih x.f3[i] (List.getElem_mem hil) m (v - 1) hm (by omega)
      by_cases hr : r < 0
      · exact ⟨-1, Ev.step (fun k => by rw [treemergeref06_left.l0, if_pos (by omega), if_pos (by omega), rd31 _ i hil, wv]) (e.bind (Ev.pos hr (Ev.now _))), fun h => by omega⟩
      · obtain ⟨r2, e2, q2⟩ := ihg (i + 1) r (by omega) (by omega) (by have := q (by omega); omega)
        refine ⟨r2, Ev.step (fun k => by rw [treemergeref06_left.l0, if_pos (by omega), if_pos (by omega), rd31 _ i hil, wv, wu]) (e.bind (Ev.neg hr e2)), fun h => ?_⟩
        rw [preL_drop _ i hil, List.length_append]
        have := q (by omega)
        have := q2 h
        omega
  obtain ⟨r, e, q⟩ := loop x.f3.length 0 (n - 1) (by omega) (by omega) (by omega)
  have e1 : Ev (fun k => treemergeref06_left.j0 k n v false x.f0 x.f1 x.f2 x.f3) r := Ev.step (fun k => by rw [treemergeref06_left.j0, if_neg (by decide), wn]; rfl) e
  refine ⟨r, Ev.step (fun k => by rw [treemergeref06_left.f, if_neg h1, if_neg h2, decide_eq_false h3]) e1, fun h => ?_⟩
  have := q h
  rw [List.drop_zero] at this
  rw [preT_eq, List.length_cons]
  omega
def OkN (y : S25) : Prop := y.f1.size ≤ 1000 ∧ y.f2.length ≤ 1000
theorem weigh_ev (x : S25) : (preT x).length ≤ 100 → ∀ (b : Int), b ≤ 1000 → ∃ r, Ev (fun k => treemergeref06_weigh.f k x.f0 x.f1 x.f2 x.f3 b) r ∧ (0 ≤ r → r ≤ b ∧ ∀ y ∈ preT x, OkN y) := by
  induction x using tree_ind with
  | h x ih =>
  intro hx b hb
  have hk : x.f3.length ≤ 100 := by
    have h2 := preL_len x.f3
    rw [preT_eq, List.length_cons] at hx
    omega
  have bad : ∃ r, Ev (fun k => treemergeref06_weigh.j0 k b true x.f0 x.f1 x.f2 x.f3) r ∧ (0 ≤ r → r ≤ b ∧ ∀ y ∈ preT x, OkN y) := ⟨-1, Ev.step (fun k => by rw [treemergeref06_weigh.j0, if_pos rfl]) (Ev.now _), fun h => by omega⟩
  by_cases h1 : (x.f1.size : Int) > b
  · obtain ⟨r, e, q⟩ := bad
    exact ⟨r, Ev.step (fun k => by rw [treemergeref06_weigh.f, if_pos h1]) e, q⟩
  by_cases h2 : (x.f2.length : Int) > b
  · obtain ⟨r, e, q⟩ := bad
    exact ⟨r, Ev.step (fun k => by rw [treemergeref06_weigh.f, if_neg h1, decide_eq_true h2]) e, q⟩
  have loop1 : ∀ (g i : Nat) (m : Int), i + g = x.f3.length → 0 ≤ m → m ≤ b → ∃ r, Ev (fun k => treemergeref06_weigh.l1 k m (i : Int) x.f0 x.f1 x.f2 x.f3) r ∧ (0 ≤ r → r ≤ b ∧ ∀ y ∈ preL (x.f3.drop i), OkN y) := by
    intro g
    induction g with
    | zero =>
      intro i m hi _ hm
      refine ⟨m, Ev.step (fun k => by rw [treemergeref06_weigh.l1, if_neg (by omega)]) (Ev.now _), fun _ => ⟨hm, ?_⟩⟩
      rw [List.drop_of_length_le (by omega), preL]
      simp
    | succ g ihg =>
      intro i m hi h0 hm
      have hil : i < x.f3.length := by omega
      have wu : wrap64 ((i : Int) + 1) = ((i + 1 : Nat) : Int) := by unfold wrap64; omega
      obtain ⟨r, e, q⟩ := ih x.f3[i] (List.getElem_mem hil) (Nat.le_trans (preT_sub x _ (kid_pre (List.getElem_mem hil))).1 hx) m (by omega)
      by_cases hr : r < 0
      · exact ⟨-1, Ev.step (fun k => by rw [treemergeref06_weigh.l1, if_pos (by omega), if_pos (by omega), rd31 _ i hil]) (e.bind (Ev.pos hr (Ev.now _))), fun h => by omega⟩
      · obtain ⟨q1, q3⟩ := q (by omega)
        obtain ⟨r2, e2, q2⟩ := ihg (i + 1) r (by omega) (by omega) (by omega)
        refine ⟨r2, Ev.step (fun k => by rw [treemergeref06_weigh.l1, if_pos (by omega), if_pos (by omega), rd31 _ i hil, wu]) (e.bind (Ev.neg hr e2)), fun h => ⟨(q2 h).1, fun y hy => ?_⟩⟩
        rw [preL_drop _ i hil, List.mem_append] at hy
        rcases hy with hy | hy
        · exact q3 y hy
        · exact (q2 h).2 y hy
  have loop0 : ∀ (g i : Nat) (m : Int), i + g = x.f2.length → 0 ≤ m → m ≤ b → ∃ r, Ev (fun k => treemergeref06_weigh.l0 k m (i : Int) x.f0 x.f1 x.f2 x.f3) r ∧ (0 ≤ r → r ≤ b ∧ ∀ y ∈ preL x.f3, OkN y) := by
    intro g
    induction g with
    | zero =>
      intro i m hi h0 hm
      obtain ⟨r, e, q⟩ := loop1 x.f3.length 0 m (by omega) h0 hm
      exact ⟨r, Ev.step (fun k => by rw [treemergeref06_weigh.l0, if_neg (by omega)]; rfl) e, by rwa [List.drop_zero] at q⟩
    | succ g ihg =>
      intro i m hi h0 hm
      have hil : i < x.f2.length := by omega
      have wu : wrap64 ((i : Int) + 1) = ((i + 1 : Nat) : Int) := by unfold wrap64; omega
      by_cases hz : ((rdOf ByteArray.empty x.f2 (i : Int)).size : Int) ≥ m
      · exact ⟨-1, Ev.step (fun k => by rw [treemergeref06_weigh.l0, if_pos (by omega), if_pos (by omega), if_pos hz]) (Ev.now _), fun h => by omega⟩
      · have w1 : wrap64 (m - ((rdOf ByteArray.empty x.f2 (i : Int)).size : Int)) = m - ((rdOf ByteArray.empty x.f2 (i : Int)).size : Int) := by unfold wrap64; omega
        have w2 : wrap64 (m - ((rdOf ByteArray.empty x.f2 (i : Int)).size : Int) - 1) = m - ((rdOf ByteArray.empty x.f2 (i : Int)).size : Int) - 1 := by unfold wrap64; omega
        obtain ⟨r, e, q⟩ := ihg (i + 1) (m - ((rdOf ByteArray.empty x.f2 (i : Int)).size : Int) - 1) (by omega) (by omega) (by omega)
        exact ⟨r, Ev.step (fun k => by rw [treemergeref06_weigh.l0, if_pos (by omega), if_pos (by omega), if_neg hz, w1, w2, wu]) e, q⟩
  have ws : wrap64 (b - (x.f1.size : Int)) = b - (x.f1.size : Int) := by unfold wrap64; omega
  obtain ⟨r, e, q⟩ := loop0 x.f2.length 0 (b - (x.f1.size : Int)) (by omega) (by omega) (by omega)
  have e1 : Ev (fun k => treemergeref06_weigh.j0 k b false x.f0 x.f1 x.f2 x.f3) r := Ev.step (fun k => by rw [treemergeref06_weigh.j0, if_neg (by decide), ws]; rfl) e
  refine ⟨r, Ev.step (fun k => by rw [treemergeref06_weigh.f, if_neg h1, decide_eq_false h2]) e1, fun h => ⟨(q h).1, fun y hy => ?_⟩⟩
  rw [preT_eq, List.mem_cons] at hy
  rcases hy with rfl | hy
  · exact ⟨by omega, by omega⟩
  · exact (q h).2 y hy
def LightT (x : S25) : Prop := (preT x).length ≤ 60 ∧ ∀ y ∈ preT x, OkN y
theorem light_ev (x : S25) : ∃ b, Ev (fun k => treemergeref06_Light.f k x.f0 x.f1 x.f2 x.f3 60 60 1000) b ∧ (b = true → LightT x) := by
  unfold treemergeref06_Light.f treemergeref06_Fits.f
  obtain ⟨r, e, q⟩ := left_ev x 60 60 (by omega) (by omega)
  have eF : Ev (fun k => (treemergeref06_left.f k x.f0 x.f1 x.f2 x.f3 60 60).bind fun t228 => some (decide (t228 ≥ 0))) (decide (r ≥ 0)) := e.bind (Ev.now _)
  by_cases h : r ≥ 0
  · obtain ⟨s, e2, q2⟩ := weigh_ev x (by have := q h; omega) 1000 (by omega)
    refine ⟨decide (s ≥ 0), eF.bind (Ev.pos (decide_eq_true h) (e2.bind (Ev.now _))), fun hs => ?_⟩
    have hs := of_decide_eq_true hs
    exact ⟨by have := q h; omega, (q2 hs).2⟩
  · exact ⟨false, eF.bind (Ev.neg (by simp [h]) (Ev.now _)), fun h => by cases h⟩

theorem lightOk {x : S25} (h : LightT x) : treeOk x = true := by
  unfold treeOk
  rw [Bool.and_eq_true, decide_eq_true_eq, List.all_eq_true]
  exact ⟨by have := h.1; omega, fun y hy => decide_eq_true (by have := (h.2 y hy).2; omega)⟩
theorem ascL_len : ∀ l : List Int, (ascL l).length ≤ l.length
  | [] => Nat.le_refl _
  | a :: l => by
    have h1 := insAsc_len a (ascL l)
    have h2 := ascL_len l
    show (insAsc a (ascL l)).length ≤ l.length + 1
    omega
/-- The list of changes, and whether it can be made. -/
def lstL (x y : S25) (b o : List Int) : List S48 := listF (factsTo (rowsT x (-1) 0) b b.length) (factsTo (rowsT y (-1) 0) o o.length) (ascL (b ++ o))
def lstB (x y : S25) (b o : List Int) : Bool := factsOk (rowsT x (-1) 0) b && factsOk (rowsT y (-1) 0) o
theorem change_list_f {x y : S25} {b o : List Int} (hx : LightT x) (hy : LightT y) (hb : b.length ≤ 60) (ho : o.length ≤ 60) :
    change_List.f x.f0 x.f1 x.f2 x.f3 y.f0 y.f1 y.f2 y.f3 b o = some (if lstB x y b o = true then (lstL x y b o, 0) else ([], 15)) := by
  have h1 := lightOk hx
  have h2 := lightOk hy
  cases x
  cases y
  unfold change_List.f
  rw [if_pos (by rw [h1, h2, decide_eq_true (show b.length ≤ 400000 by omega), decide_eq_true (show o.length ≤ 400000 by omega)]; rfl)]
  rfl
theorem lstL_len (x y : S25) (b o : List Int) (hb : b.length ≤ 60) (ho : o.length ≤ 60) : (lstL x y b o).length ≤ 480 := by
  have h1 := listF_len (factsTo (rowsT x (-1) 0) b b.length) (factsTo (rowsT y (-1) 0) o o.length) (ascL (b ++ o))
  have h2 := ascL_len (b ++ o)
  rw [List.length_append] at h2
  unfold lstL
  omega
theorem small_ev (x : S25) : ∃ t, Ev (fun k => treemergelaw31_small.f k x.f0 x.f1 x.f2 x.f3) t ∧ (t = true → LightT x) := by
  obtain ⟨t, e, q⟩ := light_ev x
  exact ⟨t, e.bind (Ev.now _), q⟩

/-- The order of changes. -/
def ltC (c d : S48) : Bool := decide (c.f0 < d.f0) || (decide (c.f0 = d.f0) && decide (c.f1 < d.f1))
def leC (c d : S48) : Prop := c.f0 < d.f0 ∨ (c.f0 = d.f0 ∧ c.f1 ≤ d.f1)
def insC (c : S48) : List S48 → List S48
  | [] => [c]
  | d :: l => if ltC c d = true then c :: d :: l else d :: insC c l
theorem ltC_iff {c d : S48} : ltC c d = true ↔ c.f0 < d.f0 ∨ (c.f0 = d.f0 ∧ c.f1 < d.f1) := by unfold ltC; simp
theorem leC_trans {a b c : S48} (h : leC a b) (k : leC b c) : leC a c := by unfold leC at *; omega
theorem leC_anti {a b : S48} (h : leC a b) (k : leC b a) : a = b := by
  unfold leC at *
  have h0 : a.f0 = b.f0 := by omega
  have h1 : a.f1 = b.f1 := by omega
  cases a
  cases b
  cases h0
  cases h1
  rfl
theorem insC_perm (c : S48) : ∀ l, (insC c l).Perm (c :: l)
  | [] => List.Perm.refl _
  | d :: l => by
    rw [insC]
    split
    · exact List.Perm.refl _
    · exact ((insC_perm c l).cons d).trans (List.Perm.swap c d l)
theorem insC_sorted (c : S48) : ∀ l, l.Pairwise leC → (insC c l).Pairwise leC
  | [], _ => List.pairwise_singleton _ _
  | d :: l, h => by
    rw [insC]
    rw [List.pairwise_cons] at h
    split
    · rename_i hc
      have hcd : leC c d := by have := ltC_iff.1 hc; unfold leC; omega
      rw [List.pairwise_cons, List.pairwise_cons]
      exact ⟨fun a ha => (List.mem_cons.1 ha).elim (fun e => by rw [e]; exact hcd) (fun m => leC_trans hcd (h.1 a m)), h⟩
    · rename_i hc
      have hdc : leC d c := by
        have h2 : ¬ (c.f0 < d.f0 ∨ (c.f0 = d.f0 ∧ c.f1 < d.f1)) := fun z => hc (ltC_iff.2 z)
        unfold leC
        omega
      rw [List.pairwise_cons]
      exact ⟨fun a ha => (List.mem_cons.1 ((insC_perm c l).mem_iff.1 ha)).elim (fun e => by rw [e]; exact hdc) (fun m => h.1 a m), insC_sorted c l h.2⟩
theorem insC_len (c : S48) (l : List S48) : (insC c l).length = l.length + 1 := (insC_perm c l).length_eq
def insAll (L out : List S48) : List S48 := L.foldl (fun o c => insC c o) out
theorem insAll_append (L M out : List S48) : insAll (L ++ M) out = insAll M (insAll L out) := List.foldl_append ..
theorem insAll_perm : ∀ L out : List S48, (insAll L out).Perm (L ++ out)
  | [], out => List.Perm.refl _
  | c :: L, out => (insAll_perm L (insC c out)).trans (((insC_perm c out).append_left L).trans List.perm_middle)
theorem insAll_sorted : ∀ L out : List S48, out.Pairwise leC → (insAll L out).Pairwise leC
  | [], _, h => h
  | c :: L, out, h => insAll_sorted L (insC c out) (insC_sorted c out h)
theorem insAll_len (L out : List S48) : (insAll L out).length = L.length + out.length := by rw [(insAll_perm L out).length_eq, List.length_append]
theorem chg_f0 {x y : List (Int × Fct)} {id : Int} {c : S48} (hc : c ∈ chg x y id) : c.f0 = id := by
  unfold chg at hc
  split at hc
  · simp only [List.mem_cons, List.not_mem_nil, or_false] at hc
    rcases hc with rfl | rfl <;> rfl
  · rw [List.mem_singleton] at hc; rw [hc]
  · rw [List.mem_singleton] at hc; rw [hc]
  · simp only [List.mem_append] at hc
    rcases hc with hc | hc | hc | hc <;> split at hc <;> first | (cases hc; done) | (rw [List.mem_singleton] at hc; rw [hc])
theorem chg_sorted (x y : List (Int × Fct)) (id : Int) : (chg x y id).Pairwise leC := by
  unfold chg
  split
  · simp [leC]
  · exact List.pairwise_singleton _ _
  · exact List.pairwise_singleton _ _
  · split <;> split <;> split <;> split <;> simp [leC]
theorem listF_sorted (x y : List (Int × Fct)) {l : List Int} (h : l.Pairwise (· < ·)) : (listF x y l).Pairwise leC := by
  unfold listF
  rw [List.pairwise_flatMap]
  exact ⟨fun a _ => chg_sorted x y a, h.imp (fun {a b} hab c hc d hd => .inl (by rw [chg_f0 hc, chg_f0 hd]; exact hab))⟩
theorem insAll_listF (x y : List (Int × Fct)) {l m : List Int} (hm : m.Pairwise (· < ·)) (h : l.Perm m) : insAll (l.flatMap (chg x y)) [] = listF x y m := by
  refine List.Perm.eq_of_pairwise (le := leC) (fun a b _ _ => leC_anti) (insAll_sorted _ _ List.Pairwise.nil) (listF_sorted x y hm) ?_
  have p := insAll_perm (l.flatMap (chg x y)) []
  rw [List.append_nil] at p
  exact p.trans (h.flatMap_right _)
/-- Identifiers that fit: none is negative, none stands twice. -/
def FitsP (ids : List Int) : Prop := ∀ i, i < ids.length → 0 ≤ ids.getD i 0 ∧ ∀ j, j < i → ids.getD j 0 ≠ ids.getD i 0
theorem getD_at {l : List Int} {i : Nat} (h : i < l.length) : l.getD i 0 = l[i] := by rw [List.getD_eq_getElem?_getD, List.getElem?_eq_getElem h, Option.getD_some]
theorem fitsP_nodup {ids : List Int} (h : FitsP ids) : ids.Nodup := by
  refine List.pairwise_iff_getElem.2 (fun i j hi hj hij => ?_)
  have := (h j hj).2 i hij
  rw [getD_at hi, getD_at hj] at this
  exact this
theorem gput_len_iff {κ β : Type} [DecidableEq κ] (l : List (κ × β)) (k : κ) (v : β) : (gput l k v).length = if glook l k = none then l.length + 1 else l.length := by
  have h := congrArg List.length (gput_keys l k v)
  rw [List.length_map] at h
  rw [h]
  by_cases m : k ∈ l.map (fun p => p.1)
  · rw [if_pos m, if_neg (by rw [glook_none]; exact fun z => z m), List.length_map]
  · rw [if_neg m, if_pos ((glook_none k l).2 m), List.length_append, List.length_map]
    rfl
theorem factsTo_none (rows : List S70) (ids : List Int) (a : Int) : ∀ n, glook (factsTo rows ids n) a = none ↔ ∀ i, i < n → ids.getD i 0 ≠ a
  | 0 => ⟨fun _ i hi => absurd hi (Nat.not_lt_zero i), fun _ => rfl⟩
  | n + 1 => by
    rw [factsTo, glook_put]
    by_cases e : a = ids.getD n 0
    · rw [if_pos e]
      exact ⟨fun z => (by cases z), fun z => absurd e.symm (z n (by omega))⟩
    · rw [if_neg e, factsTo_none rows ids a n]
      exact ⟨fun z i hi => if h : i = n then by rw [h]; exact fun w => e w.symm else z i (by omega), fun z i hi => z i (by omega)⟩
theorem factsTo_lenle (rows : List S70) (ids : List Int) : ∀ n, (factsTo rows ids n).length ≤ n
  | 0 => Nat.le_refl _
  | n + 1 => by rw [factsTo]; exact Nat.le_trans (gput_len _ _ _) (by have := factsTo_lenle rows ids n; omega)
theorem factsTo_leneq (rows : List S70) (ids : List Int) : ∀ n, (factsTo rows ids n).length = n ↔ ∀ i, i < n → ∀ j, j < i → ids.getD j 0 ≠ ids.getD i 0
  | 0 => ⟨fun _ i hi => absurd hi (Nat.not_lt_zero i), fun _ => rfl⟩
  | n + 1 => by
    have h1 := factsTo_lenle rows ids n
    have h2 := factsTo_leneq rows ids n
    have h3 := factsTo_none rows ids (ids.getD n 0) n
    rw [factsTo, gput_len_iff]
    by_cases e : glook (factsTo rows ids n) (ids.getD n 0) = none
    · rw [if_pos e]
      refine ⟨fun z i hi => ?_, fun z => ?_⟩
      · by_cases h : i = n
        · rw [h]; exact h3.1 e
        · exact h2.1 (by omega) i (by omega)
      · rw [h2.2 (fun i hi => z i (by omega))]
    · rw [if_neg e]
      exact ⟨fun z => by omega, fun z => absurd (h3.2 (z n (by omega))) e⟩
theorem factsOk_iff (rows : List S70) (ids : List Int) : factsOk rows ids = true ↔ rows.length = ids.length ∧ FitsP ids := by
  unfold factsOk FitsP
  rw [Bool.and_eq_true, Bool.and_eq_true, decide_eq_true_eq, decide_eq_true_eq, List.all_eq_true, factsTo_leneq]
  constructor
  · rintro ⟨⟨h1, h2⟩, h3⟩
    refine ⟨h1, fun i hi => ⟨?_, h3 i hi⟩⟩
    rw [getD_at hi]
    exact of_decide_eq_true (h2 _ (List.getElem_mem hi))
  · rintro ⟨h1, h2⟩
    refine ⟨⟨h1, fun a ha => ?_⟩, fun i hi => (h2 i hi).2⟩
    obtain ⟨i, hi, rfl⟩ := List.getElem_of_mem ha
    have := (h2 i hi).1
    rw [getD_at hi] at this
    exact decide_eq_true this
theorem factsTo_at (rows : List S70) {ids : List Int} (h : FitsP ids) : ∀ n i, n ≤ ids.length → i < n → glook (factsTo rows ids n) (ids.getD i 0) = some (factRow ids (rows.getD i z70))
  | 0, i, _, hi => absurd hi (Nat.not_lt_zero i)
  | n + 1, i, hn, hi => by
    rw [factsTo, glook_put]
    by_cases e : i = n
    · rw [e, if_pos rfl]
    · rw [if_neg ((h n (by omega)).2 i (by omega))]
      exact factsTo_at rows h n i (by omega) (by omega)

def FndIs (l : List Int) (n r : Int) : Prop := (r = -1 ∧ ∀ i, i < l.length → l.getD i 0 ≠ n) ∨ ∃ i, r = ((i : Nat) : Int) ∧ i < l.length ∧ l.getD i 0 = n ∧ ∀ j, j < i → l.getD j 0 ≠ n
theorem find_ev (l : List Int) (n : Int) (hl : l.length ≤ 1000000) : ∃ r, Ev (fun k => treemergeref31_find.f k l n) r ∧ FndIs l n r := by
  have loop : ∀ d i, i + d = l.length → (∀ j, j < i → l.getD j 0 ≠ n) → ∃ r, Ev (fun k => treemergeref31_find.l0 k l n (i : Int)) r ∧ FndIs l n r := by
    intro d
    induction d with
    | zero =>
      intro i hi hj
      exact ⟨-1, Ev.step (fun k => by rw [treemergeref31_find.l0]) (Ev.neg (by omega) (Ev.now _)), .inl ⟨rfl, fun j h => hj j (by omega)⟩⟩
    | succ d ih =>
      intro i hi hj
      have h : i < l.length := by omega
      by_cases e : l.getD i 0 = n
      · refine ⟨(i : Int), Ev.step (fun k => by rw [treemergeref31_find.l0]) ?_, .inr ⟨i, rfl, h, e, hj⟩⟩
        exact Ev.pos (by omega) (Ev.pos (by omega) (Ev.pos e (Ev.now _)))
      · obtain ⟨r, er, q⟩ := ih (i + 1) (by omega) (fun j hj' => if hh : j = i then by rw [hh]; exact e else hj j (by omega))
        refine ⟨r, Ev.step (fun k => by rw [treemergeref31_find.l0]) ?_, q⟩
        refine Ev.pos (by omega) (Ev.pos (by omega) (Ev.neg e ?_))
        rw [wrap_up h (by omega)]
        exact er
  exact loop l.length 0 (by omega) (fun j hj => absurd hj (Nat.not_lt_zero j))
theorem rfits_ev (ids : List Int) (m : Nat) (hl : ids.length ≤ 1000000) : ∃ t, Ev (fun k => treemergeref31_Fits.f k ids (m : Int)) t ∧ (t = true ↔ m = ids.length ∧ FitsP ids) := by
  have loop : ∀ d i, i + d = ids.length → ∃ t, Ev (fun k => treemergeref31_Fits.l0 k ids (i : Int)) t ∧ (t = true ↔ ∀ a, i ≤ a → a < ids.length → 0 ≤ ids.getD a 0 ∧ ∀ j, j < a → ids.getD j 0 ≠ ids.getD a 0) := by
    intro d
    induction d with
    | zero =>
      intro i hi
      exact ⟨true, Ev.step (fun k => by rw [treemergeref31_Fits.l0]) (Ev.neg (by omega) (Ev.now _)), fun _ a h1 h2 => by omega, fun _ => rfl⟩
    | succ d ih =>
      intro i hi
      have h : i < ids.length := by omega
      by_cases c : rd ids (i : Int) < 0
      · refine ⟨false, Ev.step (fun k => by rw [treemergeref31_Fits.l0]) (Ev.pos (by omega) (Ev.pos (by omega) (Ev.pos c (Ev.now _)))), fun z => (by cases z), fun z => ?_⟩
        have := (z i (by omega) h).1
        have c2 : ids.getD i 0 < 0 := c
        omega
      · have c2 : ¬ ids.getD i 0 < 0 := c
        obtain ⟨r, er, q⟩ := find_ev ids (rd ids (i : Int)) hl
        by_cases e : r = (i : Int)
        · obtain ⟨t, et, qt⟩ := ih (i + 1) (by omega)
          have first : ∀ j, j < i → ids.getD j 0 ≠ ids.getD i 0 := by
            rcases q with ⟨q, _⟩ | ⟨a, q, _, _, q2⟩
            · omega
            · have : a = i := by omega
              subst this
              exact q2
          refine ⟨t, Ev.step (fun k => by rw [treemergeref31_Fits.l0]) (Ev.pos (by omega) (Ev.pos (by omega) (Ev.neg c (er.bind (Ev.pos e ?_))))), ?_⟩
          · rw [wrap_up h (by omega)]
            exact et
          · rw [qt]
            exact ⟨fun z a h1 h2 => if hh : a = i then by rw [hh]; exact ⟨by omega, first⟩ else z a (by omega) h2, fun z a h1 h2 => z a (by omega) h2⟩
        · refine ⟨false, Ev.step (fun k => by rw [treemergeref31_Fits.l0]) (Ev.pos (by omega) (Ev.pos (by omega) (Ev.neg c (er.bind (Ev.neg e (Ev.now _)))))), fun z => (by cases z), fun z => ?_⟩
          have zi := (z i (by omega) h).2
          exfalso
          rcases q with ⟨_, q⟩ | ⟨a, q, q1, q2, q3⟩
          · exact q i h rfl
          · have n1 : a ≠ i := fun w => e (by rw [q, w])
            have n2 : ¬ i < a := fun w => q3 i w rfl
            exact zi a (by omega) q2
  unfold treemergeref31_Fits.f
  by_cases c : (ids.length : Int) = (m : Int)
  · obtain ⟨t, e, q⟩ := loop ids.length 0 (by omega)
    exact ⟨t, Ev.pos c e, q.trans ⟨fun z => ⟨by omega, fun i hi => z i (Nat.zero_le _) hi⟩, fun z a _ h2 => z.2 a h2⟩⟩
  · exact ⟨false, Ev.neg c (Ev.now _), fun z => (by cases z), fun z => absurd z.1 (by omega)⟩
theorem Insert_ev (l : List S48) (id fd : Int) (hl : l.length ≤ 1000000) : Ev (fun k => treemergeref31_Insert.f k l id fd) (insC ⟨id, fd⟩ l) := by
  have done : ∀ d i (out : List S48), i + d = l.length → out.length ≤ i + 1 → Ev (fun k => treemergeref31_Insert.l0 k l out true (i : Int) id fd) (out ++ l.drop i) := by
    intro d
    induction d with
    | zero =>
      intro i out hi ho
      refine Ev.step (fun k => by rw [treemergeref31_Insert.l0]) (Ev.neg (by omega) (Ev.pos rfl ?_))
      rw [List.drop_of_length_le (by omega), List.append_nil]
      exact Ev.now _
    | succ d ih =>
      intro i out hi ho
      have h : i < l.length := by omega
      refine Ev.step (fun k => by rw [treemergeref31_Insert.l0]) ?_
      refine Ev.pos (by omega) (Ev.pos rfl (Ev.pos (by omega) (Ev.pos (by omega) ?_)))
      rw [rd48_at h, wrap_up h (by omega)]
      refine Ev.cast ?_ (ih (i + 1) (out ++ [l[i]]) (by omega) (by simp; omega))
      rw [List.drop_eq_getElem_cons h, List.append_assoc]
      rfl
  have loop : ∀ d i (out : List S48), i + d = l.length → out.length ≤ i → Ev (fun k => treemergeref31_Insert.l0 k l out false (i : Int) id fd) (out ++ insC ⟨id, fd⟩ (l.drop i)) := by
    intro d
    induction d with
    | zero =>
      intro i out hi ho
      refine Ev.step (fun k => by rw [treemergeref31_Insert.l0]) ?_
      refine Ev.neg (by omega) (Ev.neg (by simp) (Ev.pos (by omega) ?_))
      rw [List.drop_of_length_le (by omega)]
      exact Ev.now _
    | succ d ih =>
      intro i out hi ho
      have h : i < l.length := by omega
      refine Ev.step (fun k => by rw [treemergeref31_Insert.l0]) ?_
      refine Ev.pos (by omega) (Ev.neg (by simp) (Ev.pos (by omega) ?_))
      rw [rd48_at h, wrap_up h (by omega), List.drop_eq_getElem_cons h, insC]
      have yes : ltC ⟨id, fd⟩ l[i] = true → Ev (fun k => if out.length < 8796093022208 then ((some (out ++ [(⟨id, fd⟩ : S48)] : List S48)).bind fun y => (if y.length < 8796093022208 then (treemergeref31_Insert.l0 k l (y ++ [(⟨l[i].f0, l[i].f1⟩ : S48)]) true ((i + 1 : Nat) : Int) id fd) else none)) else none) (out ++ if ltC ⟨id, fd⟩ l[i] = true then ⟨id, fd⟩ :: l[i] :: l.drop (i + 1) else l[i] :: insC ⟨id, fd⟩ (l.drop (i + 1))) := by
        intro c
        refine Ev.pos (by omega) (Ev.known rfl (Ev.pos (by simp; omega) (Ev.cast ?_ (done d (i + 1) (out ++ [⟨id, fd⟩] ++ [l[i]]) (by omega) (by simp; omega)))))
        rw [if_pos c, List.append_assoc, List.append_assoc]
        rfl
      have no : ltC ⟨id, fd⟩ l[i] = false → Ev (fun k => if out.length < 8796093022208 then (treemergeref31_Insert.l0 k l (out ++ [(⟨l[i].f0, l[i].f1⟩ : S48)]) false ((i + 1 : Nat) : Int) id fd) else none) (out ++ if ltC ⟨id, fd⟩ l[i] = true then ⟨id, fd⟩ :: l[i] :: l.drop (i + 1) else l[i] :: insC ⟨id, fd⟩ (l.drop (i + 1))) := by
        intro c
        refine Ev.pos (by omega) (Ev.cast ?_ (ih (i + 1) (out ++ [l[i]]) (by omega) (by simp; omega)))
        rw [if_neg (by rw [c]; decide), List.append_assoc]
        rfl
      by_cases c1 : id < l[i].f0
      · exact Ev.pos c1 (yes (ltC_iff.2 (.inl c1)))
      · refine Ev.neg c1 ?_
        by_cases c2 : id = l[i].f0
        · refine Ev.pos c2 ?_
          by_cases c3 : fd < l[i].f1
          · exact Ev.pos c3 (yes (ltC_iff.2 (.inr ⟨c2, c3⟩)))
          · refine Ev.neg c3 (no ?_)
            cases q : ltC ⟨id, fd⟩ l[i] with
            | false => rfl
            | true => rcases ltC_iff.1 q with z | ⟨_, z⟩ <;> first | exact absurd z c1 | exact absurd z c3
        · refine Ev.neg c2 (no ?_)
          cases q : ltC ⟨id, fd⟩ l[i] with
          | false => rfl
          | true => rcases ltC_iff.1 q with z | ⟨z, _⟩ <;> first | exact absurd z c1 | exact absurd z c2
  exact loop l.length 0 [] (by omega) (by simp)
theorem parent_f {rows : List S70} {ids : List Int} {i : Nat} (hi : i < rows.length) (hr : (rows.getD i z70).f0 = -1 ∨ (0 ≤ (rows.getD i z70).f0 ∧ (rows.getD i z70).f0 < (ids.length : Int))) :
    treemergeref31_parent.f rows ids (i : Int) = some (factRow ids (rows.getD i z70)).par := by
  unfold treemergeref31_parent.f
  rw [if_pos (by omega), if_pos (by omega)]
  show (if (rows.getD i z70).f0 < 0 then _ else if 0 ≤ (rows.getD i z70).f0 then if (rows.getD i z70).f0 < (ids.length : Int) then some (ids.getD (rows.getD i z70).f0.toNat 0) else none else none) = _
  unfold factRow
  dsimp only
  by_cases c : (rows.getD i z70).f0 < 0
  · rw [if_pos c, if_pos c]
  · rw [if_neg c, if_neg c, if_pos (by omega), if_pos (by omega)]
theorem gaps_ev (g h : List ByteArray) (hg : g.length ≤ 1000000) : ∃ t, Ev (fun k => treemergeref31_sameGaps.f k g h) t ∧ (t = true ↔ g = h) := by
  unfold treemergeref31_sameGaps.f
  by_cases c : (g.length : Int) = (h.length : Int)
  · have loop : ∀ d i, i + d = g.length → ∃ t, Ev (fun k => treemergeref31_sameGaps.l0 k g h (i : Int)) t ∧ (t = true ↔ g.drop i = h.drop i) := by
      intro d
      induction d with
      | zero =>
        intro i hi
        refine ⟨true, Ev.step (fun k => by rw [treemergeref31_sameGaps.l0]) (Ev.neg (by omega) (Ev.now _)), fun _ => ?_, fun _ => rfl⟩
        rw [List.drop_of_length_le (by omega), List.drop_of_length_le (by omega)]
      | succ d ih =>
        intro i hi
        have h1 : i < g.length := by omega
        have h2 : i < h.length := by omega
        have e1 : rdOf ByteArray.empty g (i : Int) = g[i] := by show g.getD i _ = _; rw [List.getD_eq_getElem?_getD, List.getElem?_eq_getElem h1, Option.getD_some]
        have e2 : rdOf ByteArray.empty h (i : Int) = h[i] := by show h.getD i _ = _; rw [List.getD_eq_getElem?_getD, List.getElem?_eq_getElem h2, Option.getD_some]
        by_cases e : g[i] = h[i]
        · obtain ⟨t, et, q⟩ := ih (i + 1) (by omega)
          refine ⟨t, Ev.step (fun k => by rw [treemergeref31_sameGaps.l0]) (Ev.pos (by omega) (Ev.pos (by omega) (Ev.pos (by omega) (Ev.pos (by rw [e1, e2, e]) ?_)))), ?_⟩
          · rw [wrap_up h1 (by omega)]
            exact et
          · rw [q, List.drop_eq_getElem_cons h1, List.drop_eq_getElem_cons h2, List.cons.injEq]
            exact ⟨fun z => ⟨e, z⟩, fun z => z.2⟩
        · refine ⟨false, Ev.step (fun k => by rw [treemergeref31_sameGaps.l0]) (Ev.pos (by omega) (Ev.pos (by omega) (Ev.pos (by omega) (Ev.neg (fun z => e (by rw [e1, e2] at z; exact toList_inj.1 z)) (Ev.now _))))), fun z => (by cases z), fun z => ?_⟩
          rw [List.drop_eq_getElem_cons h1, List.drop_eq_getElem_cons h2, List.cons.injEq] at z
          exact absurd z.1 e
    obtain ⟨t, e, q⟩ := loop g.length 0 (by omega)
    exact ⟨t, Ev.pos c e, q⟩
  · exact ⟨false, Ev.neg c (Ev.now _), fun z => (by cases z), fun z => absurd (by rw [z]) c⟩
theorem kids_ev (r s : S70) (b o : List Int) (hg : r.f4.length ≤ 1000000) (hr : ∀ k ∈ r.f4, 0 ≤ k ∧ k < (b.length : Int)) (hs : ∀ k ∈ s.f4, 0 ≤ k ∧ k < (o.length : Int)) :
    ∃ t, Ev (fun k => treemergeref31_sameKids.f k r.f0 r.f1 r.f2 r.f3 r.f4 s.f0 s.f1 s.f2 s.f3 s.f4 b o) t ∧ (t = true ↔ r.f4.map (fun k => b.getD k.toNat 0) = s.f4.map (fun k => o.getD k.toNat 0)) := by
  unfold treemergeref31_sameKids.f
  by_cases c : (r.f4.length : Int) = (s.f4.length : Int)
  · have loop : ∀ d i, i + d = r.f4.length → ∃ t, Ev (fun k => treemergeref31_sameKids.l0 k b o (i : Int) r.f0 r.f1 r.f2 r.f3 r.f4 s.f0 s.f1 s.f2 s.f3 s.f4) t ∧ (t = true ↔ (r.f4.drop i).map (fun k => b.getD k.toNat 0) = (s.f4.drop i).map (fun k => o.getD k.toNat 0)) := by
      intro d
      induction d with
      | zero =>
        intro i hi
        refine ⟨true, Ev.step (fun k => by rw [treemergeref31_sameKids.l0]) (Ev.neg (by omega) (Ev.now _)), fun _ => ?_, fun _ => rfl⟩
        rw [List.drop_of_length_le (by omega), List.drop_of_length_le (by omega)]
        rfl
      | succ d ih =>
        intro i hi
        have h1 : i < r.f4.length := by omega
        have h2 : i < s.f4.length := by omega
        have e1 : rd r.f4 (i : Int) = r.f4[i] := rd_at h1
        have e2 : rd s.f4 (i : Int) = s.f4[i] := rd_at h2
        have b1 := hr _ (List.getElem_mem h1)
        have b2 := hs _ (List.getElem_mem h2)
        by_cases e : b.getD (r.f4[i]).toNat 0 = o.getD (s.f4[i]).toNat 0
        · obtain ⟨t, et, q⟩ := ih (i + 1) (by omega)
          refine ⟨t, Ev.step (fun k => by rw [treemergeref31_sameKids.l0]) (Ev.pos (by omega) (Ev.pos (by omega) (Ev.pos (by omega) (Ev.pos (by omega) (Ev.pos (by omega) (Ev.pos (by omega) (Ev.pos (by omega) (Ev.pos (by rw [e1, e2]; exact e) ?_)))))))), ?_⟩
          · rw [wrap_up h1 (by omega)]
            exact et
          · rw [q, List.drop_eq_getElem_cons h1, List.drop_eq_getElem_cons h2, List.map_cons, List.map_cons, List.cons.injEq]
            exact ⟨fun z => ⟨e, z⟩, fun z => z.2⟩
        · refine ⟨false, Ev.step (fun k => by rw [treemergeref31_sameKids.l0]) (Ev.pos (by omega) (Ev.pos (by omega) (Ev.pos (by omega) (Ev.pos (by omega) (Ev.pos (by omega) (Ev.pos (by omega) (Ev.pos (by omega) (Ev.neg (by rw [e1, e2]; exact e) (Ev.now _))))))))), fun z => (by cases z), fun z => ?_⟩
          rw [List.drop_eq_getElem_cons h1, List.drop_eq_getElem_cons h2, List.map_cons, List.map_cons, List.cons.injEq] at z
          exact absurd z.1 e
    obtain ⟨t, e, q⟩ := loop r.f4.length 0 (by omega)
    exact ⟨t, Ev.pos c e, q⟩
  · exact ⟨false, Ev.neg c (Ev.now _), fun z => (by cases z), fun z => absurd (by have h2 := congrArg List.length z; rw [List.length_map, List.length_map] at h2; omega) c⟩
theorem rSame_ev (l : List S48) (hl : l.length ≤ 1000000) : Ev (fun k => treemergeref31_Same.f k l l) true := by
  have loop : ∀ d i, i + d = l.length → Ev (fun k => treemergeref31_Same.l0 k l l (i : Int)) true := by
    intro d
    induction d with
    | zero =>
      intro i hi
      exact Ev.step (fun k => by rw [treemergeref31_Same.l0]) (Ev.neg (by omega) (Ev.now _))
    | succ d ih =>
      intro i hi
      have h : i < l.length := by omega
      refine Ev.step (fun k => by rw [treemergeref31_Same.l0]) (Ev.pos (by omega) (Ev.pos (by omega) (Ev.pos (by omega) (Ev.neg (by simp) ?_))))
      rw [wrap_up h (by omega)]
      exact ih (i + 1) (by omega)
  unfold treemergeref31_Same.f
  exact Ev.pos rfl (loop l.length 0 (by omega))

/-- What two nodes of one identifier differ in, part by part. -/
def e3 (a b : Fct) (id : Int) : List S48 := if a.par = b.par then [] else [⟨id, 3⟩]
def e4 (a b : Fct) (id : Int) : List S48 := if a.txt = b.txt then [] else [⟨id, 4⟩]
def e5 (a b : Fct) (id : Int) : List S48 := if a.gaps = b.gaps then [] else [⟨id, 5⟩]
def e6 (a b : Fct) (id : Int) : List S48 := if a.kids = b.kids then [] else [⟨id, 6⟩]
theorem e_len (a b : Fct) (id : Int) : (e3 a b id).length ≤ 1 ∧ (e4 a b id).length ≤ 1 ∧ (e5 a b id).length ≤ 1 ∧ (e6 a b id).length ≤ 1 := by
  unfold e3 e4 e5 e6
  refine ⟨?_, ?_, ?_, ?_⟩ <;> split <;> simp
section
variable (X Y : List S70) (b o : List Int) (i kk : Nat) (hb : b.length = X.length) (ho : o.length = Y.length) (hbl : b.length ≤ 60) (hol : o.length ≤ 60)
  (hX : ∀ r ∈ X, (r.f0 = -1 ∨ (0 ≤ r.f0 ∧ r.f0 < (X.length : Int))) ∧ (∀ k ∈ r.f4, 0 ≤ k ∧ k < (X.length : Int)) ∧ r.f3.length ≤ 1000000 ∧ r.f4.length ≤ 1000000)
  (hY : ∀ r ∈ Y, (r.f0 = -1 ∨ (0 ≤ r.f0 ∧ r.f0 < (Y.length : Int))) ∧ (∀ k ∈ r.f4, 0 ≤ k ∧ k < (Y.length : Int)) ∧ r.f3.length ≤ 1000000 ∧ r.f4.length ≤ 1000000)
  (hi : i < X.length) (hk : kk < Y.length) (R : List S48 × Int)
theorem getD_mem {l : List S70} {n : Nat} (h : n < l.length) : l.getD n z70 ∈ l := by
  rw [List.getD_eq_getElem?_getD, List.getElem?_eq_getElem h, Option.getD_some]
  exact List.getElem_mem h
include hb ho hbl hX hY hi hk in
theorem rj4 (out : List S48) (hn : out.length ≤ 1000) (h : Ev (fun k => treemergeref31_List.l0 k b o X Y (insAll (e6 (factRow b (X.getD i z70)) (factRow o (Y.getD kk z70)) (b.getD i 0)) out) ((i + 1 : Nat) : Int)) R) :
    Ev (fun k => treemergeref31_List.j4 k b o X Y out (i : Int) (kk : Int)) R := by
  refine Ev.step (fun k => by rw [treemergeref31_List.j4]) ?_
  obtain ⟨t, e, q⟩ := kids_ev (X.getD i z70) (Y.getD kk z70) b o (hX _ (getD_mem hi)).2.2.2 (by rw [hb]; exact (hX _ (getD_mem hi)).2.1) (by rw [ho]; exact (hY _ (getD_mem hk)).2.1)
  refine Ev.pos (by omega) (Ev.pos (by omega) (Ev.pos (by omega) (Ev.pos (by omega) (e.bind ?_))))
  rw [wrap_up hi (by omega)]
  cases t with
  | true =>
    refine Ev.pos rfl ?_
    have := q.1 rfl
    rw [e6, if_pos (show (factRow b (X.getD i z70)).kids = (factRow o (Y.getD kk z70)).kids from this)] at h
    exact h
  | false =>
    have : ¬ (factRow b (X.getD i z70)).kids = (factRow o (Y.getD kk z70)).kids := fun z => by cases q.2 z
    rw [e6, if_neg this] at h
    exact Ev.neg (by decide) (Ev.pos (by omega) ((Insert_ev out (b.getD i 0) 6 (by omega)).bind h))
include hb ho hbl hX hY hi hk in
theorem rj3 (out : List S48) (hn : out.length ≤ 999) (h : Ev (fun k => treemergeref31_List.l0 k b o X Y (insAll (e5 (factRow b (X.getD i z70)) (factRow o (Y.getD kk z70)) (b.getD i 0) ++ e6 (factRow b (X.getD i z70)) (factRow o (Y.getD kk z70)) (b.getD i 0)) out) ((i + 1 : Nat) : Int)) R) :
    Ev (fun k => treemergeref31_List.j3 k b o X Y out (i : Int) (kk : Int)) R := by
  refine Ev.step (fun k => by rw [treemergeref31_List.j3]) ?_
  obtain ⟨t, e, q⟩ := gaps_ev (X.getD i z70).f3 (Y.getD kk z70).f3 (hX _ (getD_mem hi)).2.2.1
  refine Ev.pos (by omega) (Ev.pos (by omega) (Ev.pos (by omega) (Ev.pos (by omega) (e.bind ?_))))
  rw [insAll_append] at h
  cases t with
  | true =>
    refine Ev.pos rfl (rj4 X Y b o i kk hb ho hbl hX hY hi hk R out (by omega) ?_)
    have := q.1 rfl
    rw [e5, if_pos (show (factRow b (X.getD i z70)).gaps = (factRow o (Y.getD kk z70)).gaps from this)] at h
    exact h
  | false =>
    have : ¬ (factRow b (X.getD i z70)).gaps = (factRow o (Y.getD kk z70)).gaps := fun z => by cases q.2 z
    rw [e5, if_neg this] at h
    exact Ev.neg (by decide) (Ev.pos (by omega) ((Insert_ev out (b.getD i 0) 5 (by omega)).bind (rj4 X Y b o i kk hb ho hbl hX hY hi hk R _ (by rw [insC_len]; omega) h)))
include hb ho hbl hX hY hi hk in
theorem rj2 (out : List S48) (hn : out.length ≤ 998) (h : Ev (fun k => treemergeref31_List.l0 k b o X Y (insAll (e4 (factRow b (X.getD i z70)) (factRow o (Y.getD kk z70)) (b.getD i 0) ++ (e5 (factRow b (X.getD i z70)) (factRow o (Y.getD kk z70)) (b.getD i 0) ++ e6 (factRow b (X.getD i z70)) (factRow o (Y.getD kk z70)) (b.getD i 0))) out) ((i + 1 : Nat) : Int)) R) :
    Ev (fun k => treemergeref31_List.j2 k b o X Y out (i : Int) (kk : Int)) R := by
  refine Ev.step (fun k => by rw [treemergeref31_List.j2]) ?_
  refine Ev.pos (by omega) (Ev.pos (by omega) (Ev.pos (by omega) (Ev.pos (by omega) ?_)))
  rw [insAll_append] at h
  by_cases c : (X.getD i z70).f2 = (Y.getD kk z70).f2
  · refine Ev.pos (toList_inj.2 c) (rj3 X Y b o i kk hb ho hbl hX hY hi hk R out (by omega) ?_)
    rw [e4, if_pos (show (factRow b (X.getD i z70)).txt = (factRow o (Y.getD kk z70)).txt from c)] at h
    exact h
  · rw [e4, if_neg (show ¬ (factRow b (X.getD i z70)).txt = (factRow o (Y.getD kk z70)).txt from c)] at h
    exact Ev.neg (fun z => c (toList_inj.1 z)) (Ev.pos (by omega) ((Insert_ev out (b.getD i 0) 4 (by omega)).bind (rj3 X Y b o i kk hb ho hbl hX hY hi hk R _ (by rw [insC_len]; omega) h)))
include hb ho hbl hX hY hi hk in
theorem rj1 (out : List S48) (hn : out.length ≤ 997) (h : Ev (fun k => treemergeref31_List.l0 k b o X Y (insAll (e3 (factRow b (X.getD i z70)) (factRow o (Y.getD kk z70)) (b.getD i 0) ++ (e4 (factRow b (X.getD i z70)) (factRow o (Y.getD kk z70)) (b.getD i 0) ++ (e5 (factRow b (X.getD i z70)) (factRow o (Y.getD kk z70)) (b.getD i 0) ++ e6 (factRow b (X.getD i z70)) (factRow o (Y.getD kk z70)) (b.getD i 0)))) out) ((i + 1 : Nat) : Int)) R) :
    Ev (fun k => (treemergeref31_parent.f X b (i : Int)).bind fun t => (treemergeref31_parent.f Y o (kk : Int)).bind fun u => if t = u then treemergeref31_List.j2 k b o X Y out (i : Int) (kk : Int) else (treemergeref31_Insert.f k out (rd b (i : Int)) 3).bind fun v => treemergeref31_List.j2 k b o X Y v (i : Int) (kk : Int)) R := by
  refine Ev.known (parent_f hi (by rw [hb]; exact (hX _ (getD_mem hi)).1)) (Ev.known (parent_f hk (by rw [ho]; exact (hY _ (getD_mem hk)).1)) ?_)
  rw [insAll_append] at h
  by_cases c : (factRow b (X.getD i z70)).par = (factRow o (Y.getD kk z70)).par
  · refine Ev.pos c (rj2 X Y b o i kk hb ho hbl hX hY hi hk R out (by omega) ?_)
    rw [e3, if_pos c] at h
    exact h
  · rw [e3, if_neg c] at h
    exact Ev.neg c ((Insert_ev out (b.getD i 0) 3 (by omega)).bind (rj2 X Y b o i kk hb ho hbl hX hY hi hk R _ (by rw [insC_len]; omega) h))
end

theorem mem_getD {l : List Int} {n : Int} : n ∈ l ↔ ∃ i, i < l.length ∧ l.getD i 0 = n := by
  constructor
  · intro h
    obtain ⟨i, hi, e⟩ := List.getElem_of_mem h
    exact ⟨i, hi, by rw [getD_at hi, e]⟩
  · rintro ⟨i, hi, e⟩
    rw [getD_at hi] at e
    rw [← e]
    exact List.getElem_mem hi
section
variable (X Y : List S70) (b o : List Int) (hb : b.length = X.length) (ho : o.length = Y.length) (hbl : b.length ≤ 60) (hol : o.length ≤ 60) (fb : FitsP b) (fo : FitsP o)
  (hX : ∀ r ∈ X, (r.f0 = -1 ∨ (0 ≤ r.f0 ∧ r.f0 < (X.length : Int))) ∧ (∀ k ∈ r.f4, 0 ≤ k ∧ k < (X.length : Int)) ∧ r.f3.length ≤ 1000000 ∧ r.f4.length ≤ 1000000)
  (hY : ∀ r ∈ Y, (r.f0 = -1 ∨ (0 ≤ r.f0 ∧ r.f0 < (Y.length : Int))) ∧ (∀ k ∈ r.f4, 0 ≤ k ∧ k < (Y.length : Int)) ∧ r.f3.length ≤ 1000000 ∧ r.f4.length ≤ 1000000)
include ho hbl hol fo in
theorem rl1 : ∀ d i (out : List S48), i + d = Y.length → out.length ≤ 240 + i → Ev (fun k => treemergeref31_List.l1 k b o Y out (i : Int)) (insAll (((o.drop i).filter (fun a => decide (¬ a ∈ b))).flatMap (chg (factsTo X b b.length) (factsTo Y o o.length))) out, 0) := by
  intro d
  induction d with
  | zero =>
    intro i out hi hn
    refine Ev.step (fun k => by rw [treemergeref31_List.l1]) (Ev.neg (by omega) ?_)
    rw [List.drop_of_length_le (by omega)]
    exact Ev.now _
  | succ d ih =>
    intro i out hi hn
    have h : i < Y.length := by omega
    have h2 : i < o.length := by omega
    obtain ⟨r, er, q⟩ := find_ev b (o.getD i 0) (by omega)
    refine Ev.step (fun k => by rw [treemergeref31_List.l1]) ?_
    refine Ev.pos (by omega) (Ev.pos (by omega) (Ev.pos (by omega) (er.bind ?_)))
    rw [wrap_up h (by omega), List.drop_eq_getElem_cons h2, List.filter_cons]
    rcases q with ⟨q, q2⟩ | ⟨j, q, q1, q2, _⟩
    · have nm : ¬ o[i] ∈ b := fun z => by
        obtain ⟨j, hj, e⟩ := mem_getD.1 z
        exact q2 j hj (by rw [e, getD_at h2])
      have c : chg (factsTo X b b.length) (factsTo Y o o.length) o[i] = [⟨o.getD i 0, 1⟩] := by
        have g1 : glook (factsTo X b b.length) o[i] = none := (factsTo_none X b o[i] b.length).2 (fun j hj => by rw [← getD_at h2]; exact q2 j hj)
        have g2 := factsTo_at Y fo o.length i (Nat.le_refl _) h2
        rw [getD_at h2] at g2
        unfold chg
        rw [g1, g2, getD_at h2]
      rw [if_pos (decide_eq_true nm), List.flatMap_cons, c, insAll_append]
      exact Ev.pos (by omega) ((Insert_ev out (o.getD i 0) 1 (by omega)).bind (ih (i + 1) _ (by omega) (by rw [insC_len]; omega)))
    · have nm : ¬ (decide (¬ o[i] ∈ b) = true) := fun z => of_decide_eq_true z (mem_getD.2 ⟨j, q1, by rw [q2, getD_at h2]⟩)
      rw [if_neg nm]
      exact Ev.neg (by omega) (ih (i + 1) _ (by omega) (by omega))
include hb ho hbl hol fb fo hX hY in
theorem rl0 (R : List S48 × Int) : ∀ d i (out : List S48), i + d = X.length → out.length ≤ 4 * i → Ev (fun k => treemergeref31_List.l1 k b o Y (insAll ((b.drop i).flatMap (chg (factsTo X b b.length) (factsTo Y o o.length))) out) 0) R → Ev (fun k => treemergeref31_List.l0 k b o X Y out (i : Int)) R := by
  intro d
  induction d with
  | zero =>
    intro i out hi hn hR
    rw [List.drop_of_length_le (by omega)] at hR
    refine Ev.step (fun k => by rw [treemergeref31_List.l0]) ?_
    exact Ev.neg (by omega) hR
  | succ d ih =>
    intro i out hi hn hR
    have h : i < X.length := by omega
    have h2 : i < b.length := by omega
    obtain ⟨r, er, q⟩ := find_ev o (b.getD i 0) (by omega)
    have g1 := factsTo_at X fb b.length i (Nat.le_refl _) h2
    refine Ev.step (fun k => by rw [treemergeref31_List.l0]) ?_
    refine Ev.pos (by omega) (Ev.pos (by omega) (Ev.pos (by omega) (er.bind ?_)))
    rw [wrap_up h (by omega)]
    rw [List.drop_eq_getElem_cons h2, List.flatMap_cons, ← getD_at h2, insAll_append] at hR
    rcases q with ⟨q, q2⟩ | ⟨j, q, q1, q2, _⟩
    · have c : chg (factsTo X b b.length) (factsTo Y o o.length) (b.getD i 0) = [⟨b.getD i 0, 2⟩] := by
        have g2 : glook (factsTo Y o o.length) (b.getD i 0) = none := (factsTo_none Y o _ o.length).2 q2
        unfold chg
        rw [g1, g2]
      rw [c] at hR
      exact Ev.pos (by omega) ((Insert_ev out (b.getD i 0) 2 (by omega)).bind (ih (i + 1) _ (by omega) (by rw [insC_len]; omega) hR))
    · have g2 := factsTo_at Y fo o.length j (Nat.le_refl _) q1
      rw [q2] at g2
      have c : chg (factsTo X b b.length) (factsTo Y o o.length) (b.getD i 0) = e3 (factRow b (X.getD i z70)) (factRow o (Y.getD j z70)) (b.getD i 0) ++ (e4 (factRow b (X.getD i z70)) (factRow o (Y.getD j z70)) (b.getD i 0) ++ (e5 (factRow b (X.getD i z70)) (factRow o (Y.getD j z70)) (b.getD i 0) ++ e6 (factRow b (X.getD i z70)) (factRow o (Y.getD j z70)) (b.getD i 0))) := by
        unfold chg
        rw [g1, g2]
        rfl
      rw [c] at hR
      have el := e_len (factRow b (X.getD i z70)) (factRow o (Y.getD j z70)) (b.getD i 0)
      refine Ev.neg (by omega) ?_
      subst q
      have hk : j < Y.length := by omega
      refine rj1 X Y b o i j hb ho hbl hX hY h hk R out (by omega) ?_
      exact ih (i + 1) _ (by omega) (by rw [insAll_len]; simp only [List.length_append]; omega) hR
end
theorem rows_fine (x : S25) (hx : LightT x) : ∀ r ∈ rowsT x (-1) 0, (r.f0 = -1 ∨ (0 ≤ r.f0 ∧ r.f0 < ((rowsT x (-1) 0).length : Int))) ∧ (∀ k ∈ r.f4, 0 ≤ k ∧ k < ((rowsT x (-1) 0).length : Int)) ∧ r.f3.length ≤ 1000000 ∧ r.f4.length ≤ 1000000 := fun r hr =>
  ⟨(rows_bd x r hr).1, (rows_bd x r hr).2, rows_gaps x (lightOk hx) r hr, rows_kids x (lightOk hx) r hr⟩
theorem r06_rows_f {x : S25} (hx : LightT x) : treemergeref06_Rows.f x.f0 x.f1 x.f2 x.f3 = some (rowsT x (-1) 0) := by
  have h := hx.1
  cases x
  unfold treemergeref06_Rows.f
  rw [if_pos (Nat.le_trans h (by decide))]
theorem nodup_perm {b o : List Int} (fb : FitsP b) (fo : FitsP o) : (b ++ o.filter (fun a => decide (¬ a ∈ b))).Perm (ascL (b ++ o)) := by
  refine (List.perm_ext_iff_of_nodup ?_ ((ascL_asc (b ++ o)).imp (fun h => Int.ne_of_lt h))).2 (fun a => ?_)
  · rw [List.nodup_append]
    refine ⟨fitsP_nodup fb, List.Pairwise.filter _ (fitsP_nodup fo), fun x hx y hy e => ?_⟩
    rw [List.mem_filter] at hy
    exact of_decide_eq_true hy.2 (by rw [← e]; exact hx)
  · rw [ascL_mem, List.mem_append, List.mem_append, List.mem_filter, decide_eq_true_eq]
    by_cases h : a ∈ b
    · exact ⟨fun _ => .inl h, fun _ => .inl h⟩
    · exact ⟨fun z => z.elim .inl (fun w => .inr w.1), fun z => z.elim .inl (fun w => .inr ⟨w, h⟩)⟩
/-- The reference's list is the program's. -/
theorem rlist_ev {x y : S25} {b o : List Int} (hx : LightT x) (hy : LightT y) (hb : b.length ≤ 60) (ho : o.length ≤ 60) :
    Ev (fun k => treemergeref31_List.f k x.f0 x.f1 x.f2 x.f3 y.f0 y.f1 y.f2 y.f3 b o) (if lstB x y b o = true then (lstL x y b o, 0) else ([], 15)) := by
  unfold treemergeref31_List.f
  refine Ev.known (r06_rows_f hx) (Ev.known (r06_rows_f hy) ?_)
  obtain ⟨t, et, qt⟩ := rfits_ev b (rowsT x (-1) 0).length (by omega)
  obtain ⟨u, eu, qu⟩ := rfits_ev o (rowsT y (-1) 0).length (by omega)
  have fx : factsOk (rowsT x (-1) 0) b = t := by rw [Bool.eq_iff_iff, factsOk_iff, qt]
  have fy : factsOk (rowsT y (-1) 0) o = u := by rw [Bool.eq_iff_iff, factsOk_iff, qu]
  have bad : Ev (fun k => treemergeref31_List.j0 k b o (rowsT x (-1) 0) (rowsT y (-1) 0) true) ([], 15) := Ev.step (fun k => by rw [treemergeref31_List.j0]) (Ev.pos rfl (Ev.now _))
  refine et.bind ?_
  unfold lstB
  rw [fx, fy]
  cases t with
  | false => exact Ev.neg (by decide) bad
  | true =>
    refine Ev.pos rfl (eu.bind ?_)
    cases u with
    | false => exact bad
    | true =>
      obtain ⟨hlx, fb⟩ := qt.1 rfl
      obtain ⟨hly, fo⟩ := qu.1 rfl
      refine Ev.step (fun k => by rw [treemergeref31_List.j0]) (Ev.neg (by decide) ?_)
      refine rl0 (rowsT x (-1) 0) (rowsT y (-1) 0) b o hlx.symm hly.symm hb ho fb fo (rows_fine x hx) (rows_fine y hy) _ (rowsT x (-1) 0).length 0 [] (by omega) (by simp) ?_
      refine Ev.cast ?_ (rl1 (rowsT x (-1) 0) (rowsT y (-1) 0) b o hly.symm hb ho fo (rowsT y (-1) 0).length 0 _ (by omega) ?_)
      · rw [← insAll_append, List.drop_zero, List.drop_zero, ← List.flatMap_append, insAll_listF _ _ (ascL_asc (b ++ o)) (nodup_perm fb fo)]
        rfl
      · have h1 := listF_len (factsTo (rowsT x (-1) 0) b b.length) (factsTo (rowsT y (-1) 0) o o.length) b
        rw [insAll_len, List.drop_zero]
        unfold listF at h1
        simp only [List.length_nil]
        omega
theorem fits_ev (x : S25) (l : List Int) : ∃ t, Ev (fun k => treemergelaw31_fits.f k x.f0 x.f1 x.f2 x.f3 l) t ∧ (t = true → LightT x ∧ l.length ≤ 60) := by
  unfold treemergelaw31_fits.f
  obtain ⟨t, e, q⟩ := small_ev x
  by_cases h : t = true
  · exact ⟨_, e.bind (Ev.pos h (Ev.now _)), fun z => ⟨q h, by have := of_decide_eq_true z; omega⟩⟩
  · exact ⟨false, e.bind (Ev.neg h (Ev.now _)), fun z => by cases z⟩

theorem ChangeLists_ev (x y : S25) (b o : List Int) : Ev (fun k => treemergelaw31_ChangeLists.f k x.f0 x.f1 x.f2 x.f3 b y.f0 y.f1 y.f2 y.f3 o) true := by
  unfold treemergelaw31_ChangeLists.f
  have aw : Ev (fun k => treemergelaw31_ChangeLists.j0 k true x.f0 x.f1 x.f2 x.f3 b y.f0 y.f1 y.f2 y.f3 o) true := Ev.step (fun k => by rw [treemergelaw31_ChangeLists.j0]) (Ev.pos rfl awake_ev)
  obtain ⟨t, e, q⟩ := fits_ev x b
  refine e.bind ?_
  cases t with
  | false => exact Ev.neg (by decide) aw
  | true =>
    obtain ⟨hx, hb⟩ := q rfl
    refine Ev.pos rfl ?_
    obtain ⟨t, e, q⟩ := fits_ev y o
    refine e.bind ?_
    cases t with
    | false => exact aw
    | true =>
      obtain ⟨hy, ho⟩ := q rfl
      refine Ev.step (fun k => by rw [treemergelaw31_ChangeLists.j0]) (Ev.neg (by decide) ?_)
      have hl : (if lstB x y b o = true then (lstL x y b o, 0) else (([], 15) : List S48 × Int)).1.length ≤ 1000000 := by
        have := lstL_len x y b o hb ho
        split
        · exact Nat.le_trans this (by decide)
        · exact Nat.zero_le _
      exact Ev.known (change_list_f hx hy hb ho) ((rlist_ev hx hy hb ho).bind ((rSame_ev _ hl).bind (Ev.pos rfl (Ev.pos rfl awake_ev))))

structure S28 where
  f0 : S25
  f1 : List Int
def k28 : Kd S28 := Kd.iso (Kd.pair k25 (Kd.slice 3 (Kd.int .i64))) (fun x : S28 => (x.f0, x.f1))
theorem k28_open {w : World} {x : S28} {cs : List Value} (h : k28.K w x cs) : ∃ A2 c2 A3 c3 A4 c4, cs = [.int .i64 x.f0.f0, .string x.f0.f1, .slice A2 x.f0.f2.length c2, .slice A3 x.f0.f3.length c3, .slice A4 x.f1.length c4] ∧ x.f0.f2.length ≤ c2 ∧ Kd.string.C w A2 x.f0.f2.length x.f0.f2 ∧ x.f0.f3.length ≤ c3 ∧ k25.C w A3 x.f0.f3.length x.f0.f3 ∧ x.f1.length ≤ c4 ∧ (Kd.int .i64).C w A4 x.f1.length x.f1 := by
  obtain ⟨_, _, rfl, h0, ⟨A4, c4, rfl, l4, g4⟩⟩ := h
  obtain ⟨A2, c2, A3, c3, rfl, l2, g2, l3, g3⟩ := k25_open h0
  exact ⟨A2, c2, A3, c3, A4, c4, rfl, l2, g2, l3, g3, l4, g4⟩
theorem ChangeLists_row {w : World} (a0 : S28) (A0_2 : Option Addr) (c0_2 : Nat) (A0_3 : Option Addr) (c0_3 : Nat) (A0_4 : Option Addr) (c0_4 : Nat) (l0_2 : a0.f0.f2.length ≤ c0_2) (g0_2 : Kd.string.C w A0_2 a0.f0.f2.length a0.f0.f2) (l0_3 : a0.f0.f3.length ≤ c0_3) (g0_3 : k25.C w A0_3 a0.f0.f3.length a0.f0.f3) (l0_4 : a0.f1.length ≤ c0_4) (g0_4 : (Kd.int .i64).C w A0_4 a0.f1.length a0.f1) (w0 : True) (a1 : S28) (A1_2 : Option Addr) (c1_2 : Nat) (A1_3 : Option Addr) (c1_3 : Nat) (A1_4 : Option Addr) (c1_4 : Nat) (l1_2 : a1.f0.f2.length ≤ c1_2) (g1_2 : Kd.string.C w A1_2 a1.f0.f2.length a1.f0.f2) (l1_3 : a1.f0.f3.length ≤ c1_3) (g1_3 : k25.C w A1_3 a1.f0.f3.length a1.f0.f3) (l1_4 : a1.f1.length ≤ c1_4) (g1_4 : (Kd.int .i64).C w A1_4 a1.f1.length a1.f1) (w1 : True) : Calls Try.prog 3 #[.agg #[.int .i64 a0.f0.f0, .string a0.f0.f1, .slice A0_2 a0.f0.f2.length c0_2, .slice A0_3 a0.f0.f3.length c0_3, .slice A0_4 a0.f1.length c0_4], .agg #[.int .i64 a1.f0.f0, .string a1.f0.f1, .slice A1_2 a1.f0.f2.length c1_2, .slice A1_3 a1.f0.f3.length c1_3, .slice A1_4 a1.f1.length c1_4]] w fun e w' => e = .returned (.bool true) ∧ Below w.heap.size w w' := by
  obtain ⟨k, hk⟩ := (ChangeLists_ev a0.f0 a1.f0 a0.f1 a1.f1).rounds
  exact treemergelaw31_ChangeLists.calls k a0.f0.f0 a0.f0.f1 A0_2 c0_2 _ A0_3 c0_3 _ A0_4 c0_4 _ a1.f0.f0 a1.f0.f1 A1_2 c1_2 _ A1_3 c1_3 _ A1_4 c1_4 _ true w g0_2 l0_2 g0_3 l0_3 g0_4 l0_4 g1_2 l1_2 g1_3 l1_3 g1_4 l1_4 hk

end Go.Proofs.Ytcfjdehpbckomaa.Scratch
