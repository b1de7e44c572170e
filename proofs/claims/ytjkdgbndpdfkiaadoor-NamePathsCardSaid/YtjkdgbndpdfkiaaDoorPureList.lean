/- Sorted lists of names as plain functions, and what the printed functions answer. -/
import Derived.Test.YtjkdgbndpdfkiaaDoorPureBase
namespace Go.Proofs.YtjkdgbndpdfkiaaDoor.Pure
open Go.RowKit Go.Proofs.YtjkdgbndpdfkiaaDoor.Q Go.Proofs.YtjkdgbndpdfkiaaDoorW.PrintWords Go.Proofs.YtjkdgbndpdfkiaaDoorW.PrintLast

theorem less_iff : ∀ x y : List UInt8, Op.bytesLess x y = true ↔ x < y
  | [], [] => by simp [Op.bytesLess]
  | [], _ :: _ => by simp [Op.bytesLess]
  | _ :: _, [] => by simp [Op.bytesLess]
  | a :: x, b :: y => by
    simp only [Op.bytesLess, Bool.or_eq_true, decide_eq_true_eq, Bool.and_eq_true, beq_iff_eq, less_iff x y, List.cons_lt_cons_iff]
theorem lt_trans' {x y z : List UInt8} (h : x < y) (k : y < z) : x < z := List.lt_trans h k
theorem lt_irr (x : List UInt8) : ¬ x < x := List.lt_irrefl x
theorem lt_tri (x y : List UInt8) (h : ¬ x = y) (k : ¬ x < y) : y < x := by
  rcases Std.lt_trichotomy x y with h1 | h1 | h1
  · exact absurd h1 k
  · exact absurd h1 h
  · exact h1
abbrev D (s : ByteArray) : List UInt8 := s.data.toList
theorem D_inj {s t : ByteArray} : D s = D t ↔ s = t := by rw [← toList_inj, toList_eq, toList_eq]
/-- Strictly ascending. -/
def SS (l : List ByteArray) : Prop := l.Pairwise fun x y => D x < D y
theorem ss_ext : ∀ (l m : List ByteArray), SS l → SS m → (∀ x, x ∈ l ↔ x ∈ m) → l = m
  | [], [], _, _, _ => rfl
  | [], y :: m, _, _, h => by have := (h y).2 (by simp); simp at this
  | x :: l, [], _, _, h => by have := (h x).1 (by simp); simp at this
  | x :: l, y :: m, hl, hm, h => by
    have hl' := List.pairwise_cons.1 hl
    have hm' := List.pairwise_cons.1 hm
    have e : x = y := by
      rcases List.mem_cons.1 ((h x).1 (by simp)) with e | h1
      · exact e
      · rcases List.mem_cons.1 ((h y).2 (by simp)) with e | h2
        · exact e.symm
        · exact absurd (lt_trans' (hl'.1 y h2) (hm'.1 x h1)) (lt_irr _)
    subst e
    rw [ss_ext l m hl'.2 hm'.2 (fun z => ?_)]
    constructor
    · intro hz
      rcases List.mem_cons.1 ((h z).1 (List.mem_cons_of_mem _ hz)) with e | h1
      · exact absurd (e ▸ hl'.1 z hz) (lt_irr _)
      · exact h1
    · intro hz
      rcases List.mem_cons.1 ((h z).2 (List.mem_cons_of_mem _ hz)) with e | h1
      · exact absurd (e ▸ hm'.1 z hz) (lt_irr _)
      · exact h1

/-! name.Insert -/
theorem sq_inv (L : List (List UInt8)) : ∀ (l acc : List (List UInt8)), (acc ++ l).Pairwise (fun x y => x ≤ y) → acc.Pairwise (fun x y => x < y) →
    (l.foldl sqStep acc).Pairwise (fun x y => x < y) ∧ ∀ z, z ∈ l.foldl sqStep acc ↔ z ∈ acc ∨ z ∈ l
  | [], acc, _, h => ⟨h, fun z => by simp⟩
  | x :: l, acc, hp, h => by
    rw [List.foldl_cons]
    by_cases hx : acc.getLast? = some x
    · have e : sqStep acc x = acc := by unfold sqStep; rw [if_pos hx]
      rw [e]
      have hp' : (acc ++ l).Pairwise (fun x y => x ≤ y) := by
        refine hp.sublist ?_
        exact List.Sublist.append (List.Sublist.refl _) (List.sublist_cons_self _ _)
      obtain ⟨a, b⟩ := sq_inv L l acc hp' h
      refine ⟨a, fun z => ?_⟩
      rw [b z, List.mem_cons]
      have hm : x ∈ acc := List.mem_of_getLast? hx
      constructor
      · rintro (h1 | h1)
        · exact .inl h1
        · exact .inr (.inr h1)
      · rintro (h1 | h1 | h1)
        · exact .inl h1
        · exact .inl (h1 ▸ hm)
        · exact .inr h1
    · have e : sqStep acc x = acc ++ [x] := by unfold sqStep; rw [if_neg hx]
      rw [e]
      have hp' : ((acc ++ [x]) ++ l).Pairwise (fun x y => x ≤ y) := by simpa using hp
      have hq : (acc ++ [x]).Pairwise (fun x y => x < y) := by
        rw [List.pairwise_append]
        refine ⟨h, List.pairwise_singleton _ _, fun y hy z hz => ?_⟩
        rw [List.mem_singleton] at hz
        subst hz
        have hle : ∀ y ∈ acc, y ≤ z := fun y hy => (List.pairwise_append.1 hp).2.2 y hy z (by simp)
        rcases List.eq_nil_or_concat acc with h0 | ⟨a', w, h0⟩
        · rw [h0] at hy; simp at hy
        · rw [List.concat_eq_append] at h0
          have hw : w ≠ z := by
            intro e
            apply hx
            rw [h0, e]
            simp
          have hwz : w < z := by
            rcases Std.lt_trichotomy w z with h1 | h1 | h1
            · exact h1
            · exact absurd h1 hw
            · exact absurd h1 (List.not_lt.2 (hle w (by rw [h0]; simp)))
          rw [h0] at hy h
          rcases List.mem_append.1 hy with h1 | h1
          · exact lt_trans' ((List.pairwise_append.1 h).2.2 y h1 w (by simp)) hwz
          · rw [List.mem_singleton] at h1
            exact h1 ▸ hwz
      obtain ⟨a, b⟩ := sq_inv L l (acc ++ [x]) hp' hq
      refine ⟨a, fun z => ?_⟩
      rw [b z, List.mem_append, List.mem_singleton, List.mem_cons]
      constructor
      · rintro ((h1 | h1) | h1)
        · exact .inl h1
        · exact .inr (.inl h1)
        · exact .inr (.inr h1)
      · rintro (h1 | h1 | h1)
        · exact .inl (.inl h1)
        · exact .inl (.inr h1)
        · exact .inr h1
theorem insertS_spec (l : List ByteArray) (s : ByteArray) : SS (insertS l s) ∧ ∀ z, z ∈ insertS l s ↔ z ∈ l ∨ z = s := by
  have hsorted : (((l ++ [s]).map (fun x => x.data.toList)).mergeSort fun x y => decide (x ≤ y)).Pairwise (fun x y => x ≤ y) := by
    have := List.pairwise_mergeSort (le := fun x y : List UInt8 => decide (x ≤ y)) (fun a b c h k => decide_eq_true (List.le_trans (of_decide_eq_true h) (of_decide_eq_true k))) (fun a b => by
      rcases List.le_total a b with h | h <;> simp [h]) ((l ++ [s]).map (fun x => x.data.toList))
    exact this.imp fun h => of_decide_eq_true h
  obtain ⟨a, b⟩ := sq_inv [] (((l ++ [s]).map (fun x : ByteArray => x.data.toList)).mergeSort fun x y => decide (x ≤ y)) [] hsorted List.Pairwise.nil
  constructor
  · unfold SS insertS squeeze
    rw [List.pairwise_map]
    exact a.imp fun h => by simpa using h
  · intro z
    unfold insertS squeeze
    rw [List.mem_map]
    constructor
    · rintro ⟨y, hy, rfl⟩
      rcases (b y).1 hy with h | h
      · simp at h
      · rw [List.mem_mergeSort, List.mem_map] at h
        obtain ⟨u, hu, rfl⟩ := h
        simpa using hu
    · intro hz
      refine ⟨D z, (b _).2 (.inr ?_), by simp⟩
      rw [List.mem_mergeSort, List.mem_map]
      exact ⟨z, by simpa using hz, rfl⟩
theorem insertS_len (l : List ByteArray) (s : ByteArray) : (insertS l s).length ≤ l.length + 1 := by
  have : ∀ (l acc : List (List UInt8)), (l.foldl sqStep acc).length ≤ acc.length + l.length := by
    intro l
    induction l with
    | nil => intro acc; simp
    | cons x l ih =>
      intro acc
      rw [List.foldl_cons]
      refine Nat.le_trans (ih _) ?_
      unfold sqStep
      split
      · simp
      · simp; omega
  unfold insertS squeeze
  rw [List.length_map]
  refine Nat.le_trans (this _ _) ?_
  simp
theorem insert_of (l : List ByteArray) (s : ByteArray) (h : l.length ≤ 1000000) : name_Insert.f l s = some (insertS l s) := by rw [name_Insert.f, if_pos h]

/-! The reference: a sorted list grown by one. -/
def putS : List ByteArray → ByteArray → Bool → List ByteArray
  | [], s, done => if done = true then [] else [s]
  | y :: r, s, done => if y = s then y :: putS r s true else if done = true then y :: putS r s true else if D s < D y then s :: y :: putS r s true else y :: putS r s false
theorem putS_true : ∀ (l : List ByteArray) (s : ByteArray), putS l s true = l
  | [], _ => rfl
  | y :: r, s => by
    rw [putS, putS_true r s]
    split <;> simp
theorem putS_false : ∀ (l : List ByteArray) (s : ByteArray), SS l → SS (putS l s false) ∧ (∀ z, z ∈ putS l s false ↔ z ∈ l ∨ z = s) ∧ (putS l s false).length ≤ l.length + 1
  | [], s, _ => ⟨List.pairwise_singleton _ _, fun z => by simp [putS], by simp [putS]⟩
  | y :: r, s, h => by
    have h' := List.pairwise_cons.1 h
    rw [putS]
    by_cases h1 : y = s
    · rw [if_pos h1, putS_true]
      refine ⟨h, fun z => ?_, by simp⟩
      subst h1
      simp only [List.mem_cons]
      constructor
      · exact .inl
      · rintro (h | h)
        · exact h
        · exact .inl h
    · rw [if_neg h1, if_neg (by decide)]
      by_cases h2 : D s < D y
      · rw [if_pos h2, putS_true]
        refine ⟨List.pairwise_cons.2 ⟨fun z hz => ?_, h⟩, fun z => ?_, by simp⟩
        · rcases List.mem_cons.1 hz with e | e
          · exact e ▸ h2
          · exact lt_trans' h2 (h'.1 z e)
        · rw [List.mem_cons]
          constructor
          · rintro (h | h)
            · exact .inr h
            · exact .inl h
          · rintro (h | h)
            · exact .inr h
            · exact .inl h
      · rw [if_neg h2]
        obtain ⟨a, b, c⟩ := putS_false r s h'.2
        refine ⟨List.pairwise_cons.2 ⟨fun z hz => ?_, a⟩, fun z => ?_, by simp; omega⟩
        · rcases (b z).1 hz with e | e
          · exact h'.1 z e
          · subst e
            exact lt_tri _ _ (fun e => h1 (D_inj.1 e).symm) h2
        · rw [List.mem_cons, b z, List.mem_cons]
          constructor
          · rintro (h | h | h)
            · exact .inl (.inl h)
            · exact .inl (.inr h)
            · exact .inr h
          · rintro ((h | h) | h)
            · exact .inl h
            · exact .inr (.inl h)
            · exact .inr (.inr h)
theorem put_loop (l : List ByteArray) (s : ByteArray) (hl : l.length ≤ 100000) : ∀ (m i : Nat) (acc : List ByteArray) (d : Bool), i + m = l.length → acc.length ≤ 2 * i →
    Ev (fun k => treemergeref03_put.l0 k l s acc d (i : Int)) (acc ++ putS (l.drop i) s d) := by
  intro m
  induction m with
  | zero =>
    intro i acc d hi ha
    refine Ev.step (fun k => by rw [treemergeref03_put.l0, if_neg (by omega)]) ?_
    rw [List.drop_of_length_le (by omega), putS]
    cases d with
    | true => exact Ev.cast (by simp) (Ev.now _)
    | false => exact Ev.neg (by decide) (Ev.pos (by omega) (Ev.now _))
  | succ m ih =>
    intro i acc d hi ha
    have hlt : i < l.length := by omega
    refine Ev.step (fun k => by rw [treemergeref03_put.l0, if_pos (by omega), if_pos (by omega), wrap_up (n := l.length) (by omega) (by omega) (by omega), rdOf_at l i hlt]) ?_
    rw [List.drop_eq_getElem_cons hlt, putS]
    have next : ∀ (x : List ByteArray) d', x.length ≤ 2 * (i + 1) → ∀ r, acc ++ r = x ++ putS (l.drop (i + 1)) s d' → Ev (fun k => treemergeref03_put.l0 k l s x d' (((i + 1 : Nat) : Int))) (acc ++ r) := fun x d' hx r hr => hr ▸ ih (i + 1) x d' (by omega) hx
    by_cases h1 : l[i] = s
    · refine Ev.pos (by rw [h1]) (Ev.pos (by omega) ?_)
      rw [if_pos h1]
      exact next _ true (by simp; omega) _ (by simp)
    · refine Ev.neg (fun e => h1 (toList_inj.1 e)) ?_
      rw [if_neg h1]
      cases d with
      | true =>
        refine Ev.pos rfl (Ev.pos (by omega) ?_)
        rw [if_pos rfl]
        exact next _ true (by simp; omega) _ (by simp)
      | false =>
        refine Ev.neg (by decide) ?_
        rw [if_neg (by decide)]
        by_cases h2 : D s < D l[i]
        · refine Ev.pos (by rw [less_iff, toList_eq, toList_eq]; exact h2) (Ev.pos (by omega) (Ev.known rfl (Ev.pos (by simp; omega) ?_)))
          rw [if_pos h2]
          exact next _ true (by simp; omega) _ (by simp)
        · refine Ev.neg (by rw [less_iff, toList_eq, toList_eq]; exact h2) (Ev.pos (by omega) ?_)
          rw [if_neg h2]
          exact next _ false (by simp; omega) _ (by simp)
theorem put_ev (l : List ByteArray) (s : ByteArray) (hl : l.length ≤ 100000) : Ev (fun k => treemergeref03_put.f k l s) (putS l s false) := by
  have := put_loop l s hl l.length 0 [] false (by omega) (by simp)
  simpa [treemergeref03_put.f] using this
theorem rins_loop (l : List ByteArray) (s : ByteArray) (hl : l.length ≤ 10000) : ∀ (m i : Nat) (acc : List ByteArray), i + m = l.length → acc.length ≤ i → SS acc → (∀ z, z ∈ acc ↔ z ∈ l.take i) →
    Ev (fun k => treemergeref03_Insert.l0 k l s acc (i : Int)) (insertS l s) := by
  intro m
  induction m with
  | zero =>
    intro i acc hi ha hs hm
    refine Ev.step (fun k => by rw [treemergeref03_Insert.l0, if_neg (by omega)]) ?_
    refine (put_ev acc s (by omega)).bind (Ev.cast ?_ (Ev.now _))
    obtain ⟨a, b, _⟩ := putS_false acc s hs
    obtain ⟨a', b'⟩ := insertS_spec l s
    refine ss_ext _ _ a a' fun z => ?_
    rw [b, b', hm, List.take_of_length_le (by omega)]
  | succ m ih =>
    intro i acc hi ha hs hm
    have hlt : i < l.length := by omega
    refine Ev.step (fun k => by rw [treemergeref03_Insert.l0, if_pos (by omega), if_pos (by omega), wrap_up (n := l.length) (by omega) (by omega) (by omega), rdOf_at l i hlt]) ?_
    obtain ⟨a, b, c⟩ := putS_false acc l[i] hs
    refine (put_ev acc l[i] (by omega)).bind (ih (i + 1) _ (by omega) (by omega) a fun z => ?_)
    rw [b, hm, List.take_succ_eq_append_getElem hlt, List.mem_append, List.mem_singleton]
theorem rinsert_ev (l : List ByteArray) (s : ByteArray) (hl : l.length ≤ 10000) : Ev (fun k => treemergeref03_Insert.f k l s) (insertS l s) := by
  have := rins_loop l s hl l.length 0 [] (by omega) (by simp) List.Pairwise.nil (by simp)
  simpa [treemergeref03_Insert.f] using this
theorem strings_loop (l : List ByteArray) (hl : l.length ≤ 10000000) : ∀ (m i : Nat), i + m = l.length → Ev (fun k => treemergeref03_Strings.l0 k l l (i : Int)) true := by
  intro m
  induction m with
  | zero =>
    intro i hi
    exact Ev.step (fun k => by rw [treemergeref03_Strings.l0, if_neg (by omega)]) (Ev.now _)
  | succ m ih =>
    intro i hi
    refine Ev.step (fun k => by rw [treemergeref03_Strings.l0, if_pos (by omega), if_pos (by omega), if_pos (by omega), if_pos rfl, wrap_up (n := l.length) (by omega) (by omega) (by omega)]) ?_
    exact ih (i + 1) (by omega)
theorem strings_ev (l : List ByteArray) (hl : l.length ≤ 10000000) : Ev (fun k => treemergeref03_Strings.f k l l) true := by
  unfold treemergeref03_Strings.f
  exact Ev.pos rfl (strings_loop l hl l.length 0 (by omega))
theorem short_loop (l : List ByteArray) (n : Nat) (hl : l.length ≤ 10000000) : ∀ (m i : Nat), i + m = l.length → Ev (fun k => treemergeref03_Short.l0 k l (n : Int) (i : Int)) ((l.drop i).all fun s => decide (s.size ≤ n)) := by
  intro m
  induction m with
  | zero =>
    intro i hi
    refine Ev.step (fun k => by rw [treemergeref03_Short.l0, if_neg (by omega)]) ?_
    rw [List.drop_of_length_le (by omega)]
    exact Ev.now _
  | succ m ih =>
    intro i hi
    have hlt : i < l.length := by omega
    rw [List.drop_eq_getElem_cons hlt, List.all_cons]
    refine Ev.step (fun k => by rw [treemergeref03_Short.l0, if_pos (by omega), if_pos (by omega), wrap_up (n := l.length) (by omega) (by omega) (by omega), rdOf_at l i hlt]) ?_
    by_cases h : l[i].size ≤ n
    · refine Ev.neg (by omega) ?_
      rw [decide_eq_true h, Bool.true_and]
      exact ih (i + 1) (by omega)
    · refine Ev.pos (by omega) ?_
      rw [decide_eq_false h, Bool.false_and]
      exact Ev.now _
def shortB (l : List ByteArray) (c n : Nat) : Bool := decide (l.length ≤ c) && l.all fun s => decide (s.size ≤ n)
theorem short_ev (l : List ByteArray) (c n : Nat) (hc : c ≤ 10000000) : Ev (fun k => treemergeref03_Short.f k l (c : Int) (n : Int)) (shortB l c n) := by
  unfold treemergeref03_Short.f shortB
  by_cases h : l.length ≤ c
  · refine Ev.neg (by omega) ?_
    rw [decide_eq_true h, Bool.true_and]
    exact short_loop l n (by omega) l.length 0 (by omega)
  · refine Ev.pos (by omega) ?_
    rw [decide_eq_false h, Bool.false_and]
    exact Ev.now _

/-! The law's own waking call. -/
theorem fresh_at : name_Fresh.f (⟨#[102]⟩ : ByteArray) (([(⟨#[103]⟩ : ByteArray), (⟨#[102, 50]⟩ : ByteArray), (⟨#[102]⟩ : ByteArray)] : List ByteArray)) = some (⟨#[102, 51]⟩, 0) := by decide +kernel
theorem fresh_no : name_Fresh.f (⟨#[49]⟩ : ByteArray) ([] : List ByteArray) = some (⟨#[]⟩, 4) := by decide +kernel
theorem vs_a : vS (⟨#[97, 95, 49]⟩ : ByteArray) = true := by decide +kernel
theorem vs_while : vS (⟨#[119, 104, 105, 108, 101]⟩ : ByteArray) = false := by decide +kernel
theorem kw_while : kw (⟨#[119, 104, 105, 108, 101]⟩ : ByteArray) = true := by decide +kernel
theorem path_lib : pathS (⟨#[108, 105, 98, 47, 120, 45, 49, 46, 116, 109]⟩ : ByteArray) = true := by decide +kernel
theorem path_up : pathS (⟨#[97, 47, 46, 46]⟩ : ByteArray) = false := by decide +kernel
theorem ins_abc : insertS ([(⟨#[98]⟩ : ByteArray), (⟨#[97]⟩ : ByteArray), (⟨#[98]⟩ : ByteArray)] : List ByteArray) (⟨#[99]⟩ : ByteArray) = [(⟨#[97]⟩ : ByteArray), (⟨#[98]⟩ : ByteArray), (⟨#[99]⟩ : ByteArray)] := by
  obtain ⟨a, b⟩ := insertS_spec ([(⟨#[98]⟩ : ByteArray), (⟨#[97]⟩ : ByteArray), (⟨#[98]⟩ : ByteArray)] : List ByteArray) (⟨#[99]⟩ : ByteArray)
  refine ss_ext _ _ a ?_ fun z => ?_
  · simp only [SS, List.pairwise_cons, List.mem_cons, List.not_mem_nil, or_false]
    refine ⟨?_, ?_, ?_, List.Pairwise.nil⟩
    · rintro z (rfl | rfl) <;> decide
    · rintro z rfl
      decide
    · intro z h
      exact h.elim
  · rw [b]
    simp only [List.mem_cons, List.not_mem_nil, or_false]
    constructor
    · rintro ((h | h | h) | h) <;> simp [h]
    · rintro (h | h | h) <;> simp [h]
theorem awake_ev : Ev (fun k => treemergelaw03_awake.f k) true := by
  unfold treemergelaw03_awake.f
  refine Ev.known fresh_at (Ev.known fresh_no (Ev.pos (by decide +kernel) (Ev.pos rfl (Ev.pos rfl ?_))))
  refine Ev.known (valid_of _) (Ev.pos vs_a (Ev.known (valid_of _) (Ev.neg (by rw [vs_while]; decide) (Ev.known (kw_of _) (Ev.pos kw_while ?_)))))
  refine (path_ev _ (by decide)).bind (Ev.pos path_lib ((path_ev _ (by decide)).bind (Ev.neg (by rw [path_up]; decide) ?_)))
  refine (has_ev _ _ (by decide)).bind (Ev.pos (by decide +kernel) (Ev.known (insert_of _ _ (by decide)) ?_))
  rw [ins_abc]
  exact Ev.now _
end Go.Proofs.YtjkdgbndpdfkiaaDoor.Pure
