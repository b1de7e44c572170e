/- The stable sort of the library at a row of structs: it sorts, and equals stay in their order; for every program that bears its texts. -/
import Derived.Test.YtcajhkbobpakaaaDoorProg
import Derived.Test.YtcajhkbobpakaaaDoorWWords
import Derived.Test.YtcajhkbobpakaaaDoorWLast
import Derived.Test.YtcajhkbobpakaaaDoorWMore
import Derived.Sort.Statements
import Derived.Shelf.SlSortCmp.KitK
import Derived.Sort.WalkB2
import Derived.Sort.WalkB12
import Derived.Deep.LoopGhost
namespace Go.Proofs.YtcajhkbobpakaaaDoor.Q
set_option linter.unusedVariables false
open Go.RowKit Go.Proofs.YtcajhkbobpakaaaDoorW.PrintWords Go.Proofs.YtcajhkbobpakaaaDoorW.PrintLast Go.Proofs.YtcajhkbobpakaaaDoorW.PrintMore
/-! The stable sort's plain side: lists. -/
section
variable {α : Type} (lt : α → α → Bool)
/-- Behind those that are not greater. -/
def stIns (c : α) : List α → List α
  | [] => [c]
  | x :: l => if lt c x = true then c :: x :: l else x :: stIns c l
def stSrt (l : List α) : List α := l.foldl (fun a c => stIns lt c a) []
def stMrg : List α → List α → List α
  | [], l => l
  | x :: a, [] => x :: a
  | x :: a, y :: b => if lt y x = true then y :: stMrg (x :: a) b else x :: stMrg a (y :: b)
termination_by a b => a.length + b.length
def StSorted (l : List α) : Prop := l.Pairwise (fun x y => lt y x = false)
theorem stMrg_nil (l : List α) : stMrg lt [] l = l := by rw [stMrg]
theorem stMrg_nil_right (l : List α) : stMrg lt l [] = l := by cases l <;> rw [stMrg]
theorem stMrg_cons (x y : α) (a b : List α) : stMrg lt (x :: a) (y :: b) = if lt y x = true then y :: stMrg lt (x :: a) b else x :: stMrg lt a (y :: b) := by rw [stMrg]
theorem stIns_append (c : α) (A B : List α) (h : ∀ x ∈ A, lt c x = false) : stIns lt c (A ++ B) = A ++ stIns lt c B := by
  induction A with
  | nil => rfl
  | cons x A ih =>
    rw [List.cons_append, stIns, if_neg (by rw [h x (by simp)]; decide), ih (fun y hy => h y (by simp [hy]))]
    rfl
theorem stIns_front (c : α) (B : List α) (h : ∀ x ∈ B, lt c x = true) : stIns lt c B = c :: B := by
  cases B with
  | nil => rfl
  | cons x B => rw [stIns, if_pos (h x (by simp))]
theorem stIns_last (c z : α) (L : List α) (h : lt c z = true) : stIns lt c (L ++ [z]) = stIns lt c L ++ [z] := by
  induction L with
  | nil => simp [stIns, h]
  | cons x L ih =>
    rw [List.cons_append, stIns, stIns]
    split
    · rfl
    · rw [ih]; rfl
theorem stIns_perm (c : α) (L : List α) : (stIns lt c L).Perm (c :: L) := by
  induction L with
  | nil => exact List.Perm.refl _
  | cons x L ih =>
    rw [stIns]
    split
    · exact List.Perm.refl _
    · exact (List.Perm.cons x ih).trans (List.Perm.swap c x L)
theorem stIns_length (c : α) (L : List α) : (stIns lt c L).length = L.length + 1 := (stIns_perm lt c L).length_eq
theorem stSrt_snoc (L : List α) (c : α) : stSrt lt (L ++ [c]) = stIns lt c (stSrt lt L) := by unfold stSrt; rw [List.foldl_append]; rfl
theorem stSrt_perm (L : List α) : (stSrt lt L).Perm L := by
  suffices h : ∀ n (L : List α), L.length = n → (stSrt lt L).Perm L from h _ L rfl
  intro n
  induction n with
  | zero => intro L h; rw [List.length_eq_zero_iff.1 h]; exact List.Perm.refl _
  | succ n ih =>
    intro L h
    obtain ⟨L', c, rfl⟩ : ∃ L' c, L = L' ++ [c] := ⟨L.dropLast, L.getLast (by intro h0; rw [h0] at h; cases h), (List.dropLast_concat_getLast _).symm⟩
    rw [stSrt_snoc]
    refine (stIns_perm lt c _).trans ?_
    refine ((ih L' (by simp at h; omega)).cons c).trans ?_
    exact List.perm_append_comm (l₁ := [c])
theorem stSrt_length (L : List α) : (stSrt lt L).length = L.length := (stSrt_perm lt L).length_eq
theorem stMrg_perm (A B : List α) : (stMrg lt A B).Perm (A ++ B) := by
  fun_induction stMrg lt A B with
  | case1 l => exact List.Perm.refl _
  | case2 x a => rw [List.append_nil]
  | case3 x a y b h ih =>
    refine (ih.cons y).trans ?_
    exact (List.perm_middle (l₁ := x :: a) (l₂ := b) (a := y)).symm
  | case4 x a y b h ih => exact ih.cons x
theorem stMrg_length (A B : List α) : (stMrg lt A B).length = A.length + B.length := by rw [(stMrg_perm lt A B).length_eq, List.length_append]
variable {lt}
theorem stIns_sorted (S : Go.Sort.SWO lt) (c : α) (L : List α) (h : StSorted lt L) : StSorted lt (stIns lt c L) := by
  induction L with
  | nil => exact List.pairwise_singleton _ _
  | cons x L ih =>
    rw [stIns]
    have hx := List.pairwise_cons.1 h
    split
    · rename_i hc
      refine List.pairwise_cons.2 ⟨fun y hy => ?_, h⟩
      have hxc : lt x c = false := by
        cases e : lt x c
        · rfl
        · have := S.trans _ _ _ hc e; rw [S.irrefl] at this; cases this
      rcases List.mem_cons.1 hy with rfl | hy
      · exact hxc
      · exact S.ntrans _ _ _ (hx.1 y hy) hxc
    · rename_i hc
      refine List.pairwise_cons.2 ⟨fun y hy => ?_, ih hx.2⟩
      have hy' := (stIns_perm lt c L).mem_iff.1 hy
      rcases List.mem_cons.1 hy' with rfl | hy'
      · simpa using hc
      · exact hx.1 y hy'
theorem stSrt_sorted (S : Go.Sort.SWO lt) (L : List α) : StSorted lt (stSrt lt L) := by
  suffices h : ∀ n (L : List α), L.length = n → StSorted lt (stSrt lt L) from h _ L rfl
  intro n
  induction n with
  | zero => intro L h; rw [List.length_eq_zero_iff.1 h]; exact List.Pairwise.nil
  | succ n ih =>
    intro L h
    obtain ⟨L', c, rfl⟩ : ∃ L' c, L = L' ++ [c] := ⟨L.dropLast, L.getLast (by intro h0; rw [h0] at h; cases h), (List.dropLast_concat_getLast _).symm⟩
    rw [stSrt_snoc]
    exact stIns_sorted S c _ (ih L' (by simp at h; omega))
theorem stMrg_sorted (S : Go.Sort.SWO lt) (A B : List α) (hA : StSorted lt A) (hB : StSorted lt B) : StSorted lt (stMrg lt A B) := by
  fun_induction stMrg lt A B with
  | case1 l => exact hB
  | case2 x a => exact hA
  | case3 x a y b h ih =>
    have hy := List.pairwise_cons.1 hB
    have hx := List.pairwise_cons.1 hA
    have hxy : lt x y = false := by
      cases e : lt x y
      · rfl
      · have := S.trans _ _ _ h e; rw [S.irrefl] at this; cases this
    refine List.pairwise_cons.2 ⟨fun z hz => ?_, ih hA hy.2⟩
    rcases List.mem_append.1 ((stMrg_perm lt _ _).mem_iff.1 hz) with hz | hz
    · rcases List.mem_cons.1 hz with rfl | hz
      · exact hxy
      · exact S.ntrans _ _ _ (hx.1 z hz) hxy
    · exact hy.1 z hz
  | case4 x a y b h ih =>
    have hy := List.pairwise_cons.1 hB
    have hx := List.pairwise_cons.1 hA
    have hyx : lt y x = false := by simpa using h
    refine List.pairwise_cons.2 ⟨fun z hz => ?_, ih hx.2 hB⟩
    rcases List.mem_append.1 ((stMrg_perm lt _ _).mem_iff.1 hz) with hz | hz
    · exact hx.1 z hz
    · rcases List.mem_cons.1 hz with rfl | hz
      · exact hyx
      · exact S.ntrans _ _ _ (hy.1 z hz) hyx
variable (lt)
theorem stMrg_split (A1 A2 B1 B2 : List α) (h1 : ∀ x ∈ A1, ∀ y ∈ B2, lt y x = false) (h2 : ∀ y ∈ B1, ∀ x ∈ A2, lt y x = true) : stMrg lt (A1 ++ A2) (B1 ++ B2) = stMrg lt A1 B1 ++ stMrg lt A2 B2 := by
  fun_induction stMrg lt A1 B1 with
  | case1 l =>
    rw [List.nil_append]
    induction l with
    | nil => rfl
    | cons y l ih =>
      cases A2 with
      | nil => rw [stMrg_nil, stMrg_nil]
      | cons x a =>
        rw [List.cons_append, stMrg_cons, if_pos (h2 y (by simp) x (by simp)), ih (fun y' hy' => h2 y' (by simp [hy']))]
        rfl
  | case2 x a =>
    rw [List.nil_append]
    have h : ∀ A1 : List α, (∀ x ∈ A1, ∀ y ∈ B2, lt y x = false) → stMrg lt (A1 ++ A2) B2 = A1 ++ stMrg lt A2 B2 := by
      intro A1
      induction A1 with
      | nil => intro _; rfl
      | cons x a ih =>
        intro h1
        cases B2 with
        | nil => rw [stMrg_nil_right, stMrg_nil_right]
        | cons y b =>
          rw [List.cons_append, stMrg_cons, if_neg (by rw [h1 x (by simp) y (by simp)]; decide), ih (fun x' hx' => h1 x' (by simp [hx']))]
          rfl
    exact h _ h1
  | case3 x a y b h ih =>
    rw [List.cons_append, List.cons_append, stMrg_cons, if_pos h]
    show y :: stMrg lt ((x :: a) ++ A2) (b ++ B2) = _
    rw [ih h1 (fun y' hy' => h2 y' (by simp [hy']))]
    rfl
  | case4 x a y b h ih =>
    rw [List.cons_append, List.cons_append, stMrg_cons, if_neg h]
    show x :: stMrg lt (a ++ A2) ((y :: b) ++ B2) = _
    rw [ih (fun x' hx' => h1 x' (by simp [hx'])) h2]
    rfl
variable {lt}
theorem stIns_mrg (S : Go.Sort.SWO lt) (c : α) (A B : List α) : stIns lt c (stMrg lt A B) = stMrg lt A (stIns lt c B) := by
  fun_induction stMrg lt A B with
  | case1 l => rw [stMrg_nil]
  | case2 x a =>
    induction a generalizing x with
    | nil =>
      rw [stIns, stIns, stMrg_cons]
      split
      · rw [stMrg_nil_right]
      · rw [stMrg_nil]; rfl
    | cons z a ih =>
      rw [stIns, stIns, stMrg_cons]
      split
      · rw [stMrg_nil_right]
      · rw [ih z]; rfl
  | case3 x a y b h ih =>
    rw [stIns, stIns]
    by_cases hc : lt c y = true
    · rw [if_pos hc, if_pos hc, stMrg_cons, if_pos (S.trans _ _ _ hc h), stMrg_cons, if_pos h]
    · rw [if_neg hc, if_neg hc, stMrg_cons, if_pos h, ih]
  | case4 x a y b h ih =>
    have hyx : lt y x = false := by simpa using h
    rw [stIns]
    by_cases hc : lt c x = true
    · have hcy : lt c y = true := by
        cases e : lt c y
        · have := S.ntrans _ _ _ e hyx; rw [hc] at this; cases this
        · rfl
      rw [if_pos hc, stIns, if_pos hcy, stMrg_cons, if_pos hc, stMrg_cons, if_neg h]
    · rw [if_neg hc, ih, stIns]
      by_cases hcy : lt c y = true
      · rw [if_pos hcy, stMrg_cons, if_neg hc]
      · rw [if_neg hcy, stMrg_cons, if_neg h]
theorem stSrt_append (S : Go.Sort.SWO lt) (A B : List α) : stSrt lt (A ++ B) = stMrg lt (stSrt lt A) (stSrt lt B) := by
  suffices h : ∀ n (B : List α), B.length = n → stSrt lt (A ++ B) = stMrg lt (stSrt lt A) (stSrt lt B) from h _ B rfl
  intro n
  induction n with
  | zero => intro B h; rw [List.length_eq_zero_iff.1 h, List.append_nil]; exact (stMrg_nil_right lt _).symm
  | succ n ih =>
    intro B h
    obtain ⟨B', c, rfl⟩ : ∃ L' c, B = L' ++ [c] := ⟨B.dropLast, B.getLast (by intro h0; rw [h0] at h; cases h), (List.dropLast_concat_getLast _).symm⟩
    rw [← List.append_assoc, stSrt_snoc, stSrt_snoc, ih B' (by simp at h; omega), stIns_mrg S]
/-- Blocks of bs elements, each sorted. -/
def stChk (lt : α → α → Bool) (bs : Nat) (l : List α) : List α :=
  if h : 0 < bs ∧ bs < l.length then stSrt lt (l.take bs) ++ stChk lt bs (l.drop bs) else stSrt lt l
termination_by l.length
decreasing_by rw [List.length_drop]; omega
theorem stChk_short (bs : Nat) (l : List α) (h : l.length ≤ bs) : stChk lt bs l = stSrt lt l := by rw [stChk, dif_neg (by omega)]
theorem stChk_step (bs : Nat) (l : List α) (h0 : 0 < bs) (h : bs ≤ l.length) : stChk lt bs l = stSrt lt (l.take bs) ++ stChk lt bs (l.drop bs) := by
  by_cases h2 : bs < l.length
  · rw [stChk, dif_pos ⟨h0, h2⟩]
  · rw [stChk_short _ _ (by omega), List.take_of_length_le (by omega), List.drop_of_length_le (by omega), stChk_short _ [] (by simp)]
    simp [stSrt]
theorem stChk_two (S : Go.Sort.SWO lt) (bs : Nat) (l : List α) (h0 : 0 < bs) (h : 2 * bs ≤ l.length) : stChk lt (2 * bs) l = stMrg lt (stSrt lt (l.take bs)) (stSrt lt ((l.drop bs).take bs)) ++ stChk lt (2 * bs) (l.drop (2 * bs)) := by
  rw [stChk_step (2 * bs) l (by omega) h, ← stSrt_append S]
  congr 2
  rw [Nat.two_mul, List.take_add]
theorem stChk_one_two (bs : Nat) (l : List α) (h0 : 0 < bs) (h : 2 * bs ≤ l.length) : stChk lt bs l = stSrt lt (l.take bs) ++ stSrt lt ((l.drop bs).take bs) ++ stChk lt bs (l.drop (2 * bs)) := by
  rw [stChk_step bs l h0 (by omega), stChk_step bs (l.drop bs) h0 (by rw [List.length_drop]; omega), List.drop_drop, List.append_assoc, Nat.two_mul]
theorem stChk_rest (S : Go.Sort.SWO lt) (bs : Nat) (l : List α) (h0 : 0 < bs) (h1 : bs < l.length) (h2 : l.length ≤ 2 * bs) : stChk lt bs l = stSrt lt (l.take bs) ++ stSrt lt (l.drop bs) ∧ stChk lt (2 * bs) l = stMrg lt (stSrt lt (l.take bs)) (stSrt lt (l.drop bs)) := by
  refine ⟨?_, ?_⟩
  · rw [stChk_step bs l h0 (by omega), stChk_short bs (l.drop bs) (by rw [List.length_drop]; omega)]
  · rw [stChk_short _ _ h2, ← stSrt_append S, List.take_append_drop]
/-! arrays -/
variable [Inhabited α]
theorem st_get {d : Array α} {P R : List α} {x : α} (h : d.toList = P ++ x :: R) : d[P.length]! = x := by
  have h1 : d.toList[P.length]? = some x := by rw [h]; simp
  rw [Array.getElem?_toList] at h1
  rw [getElem!_def, h1]
theorem st_get' {d : Array α} {P R : List α} {x : α} (i : Nat) (h : d.toList = P ++ x :: R) (hi : i = P.length) : d[i]! = x := by rw [hi]; exact st_get h
omit [Inhabited α] in
theorem st_size {d : Array α} {L : List α} (h : d.toList = L) : d.size = L.length := by rw [← h, Array.length_toList]
theorem st_swp {d : Array α} {P Q R : List α} {x y : α} (h : d.toList = P ++ x :: Q ++ y :: R) : (Go.Sort.swp d P.length (P.length + 1 + Q.length)).toList = P ++ y :: Q ++ x :: R := by
  unfold Go.Sort.swp
  have e1 : d[P.length]! = x := st_get (R := Q ++ y :: R) (by rw [h]; simp)
  have e2 : d[P.length + 1 + Q.length]! = y := st_get' (P := P ++ x :: Q) (R := R) _ (by rw [h]) (by simp; omega)
  rw [e1, e2, Array.toList_setIfInBounds, Array.toList_setIfInBounds, h]
  rw [List.append_assoc, List.set_append_right _ _ (Nat.le_refl _), Nat.sub_self]
  simp only [List.cons_append, List.set_cons_zero]
  rw [List.set_append_right _ _ (by omega), show P.length + 1 + Q.length - P.length = Q.length + 1 by omega, List.set_cons_succ, List.set_append_right _ _ (Nat.le_refl _), Nat.sub_self]
  simp
theorem st_swp_comm (d : Array α) (i j : Nat) (hi : i < d.size) (hj : j < d.size) (hne : i ≠ j) : Go.Sort.swp d j i = Go.Sort.swp d i j := by
  unfold Go.Sort.swp
  apply Array.ext
  · simp
  · intro k h1 h2
    rw [Array.getElem_setIfInBounds, Array.getElem_setIfInBounds, Array.getElem_setIfInBounds, Array.getElem_setIfInBounds]
    · by_cases a : i = k <;> by_cases b : j = k <;> simp_all
    all_goals simpa using h1
theorem st_swp' {d : Array α} {P Q R : List α} {x y : α} (i j : Nat) (h : d.toList = P ++ x :: Q ++ y :: R) (hi : i = P.length) (hj : j = P.length + 1 + Q.length) : (Go.Sort.swp d i j).toList = P ++ y :: Q ++ x :: R := by rw [hi, hj]; exact st_swp h
theorem st_swp_down {d : Array α} {P R : List α} {x y : α} (i j : Nat) (h : d.toList = P ++ x :: y :: R) (hi : i = P.length + 1) (hj : j = P.length) : (Go.Sort.swp d i j).toList = P ++ y :: x :: R := by
  have hs := st_size h
  simp at hs
  rw [hi, hj, st_swp_comm d P.length (P.length + 1) (by omega) (by omega) (by omega)]
  have := st_swp' (d := d) (P := P) (Q := []) (R := R) (x := x) (y := y) P.length (P.length + 1) (by rw [h]; simp) rfl (by simp)
  rw [this]; simp
/-- The insertion sort is the stable one. -/
theorem st_inner (S : Go.Sort.SWO lt) (a : Nat) (n : Nat) : ∀ (d : Array α) (P L R : List α) (c : α), L.length = n → P.length = a → d.toList = P ++ L ++ c :: R → StSorted lt L → (Go.Sort.insInner lt a (a + n) d).toList = P ++ stIns lt c L ++ R := by
  induction n with
  | zero =>
    intro d P L R c hL hP hd _
    obtain rfl := List.length_eq_zero_iff.1 hL
    have : Go.Sort.insInner lt a (a + 0) d = d := by
      cases a with
      | zero => rfl
      | succ a => rw [show a + 1 + 0 = a + 1 from rfl, Go.Sort.insInner]; simp
    rw [this, hd]; simp [stIns]
  | succ n ih =>
    intro d P L R c hL hP hd hs
    obtain ⟨L', z, rfl⟩ : ∃ L' z, L = L' ++ [z] := ⟨L.dropLast, L.getLast (by intro h0; rw [h0] at hL; cases hL), (List.dropLast_concat_getLast _).symm⟩
    have hL' : L'.length = n := by simp at hL; omega
    have e1 : d[a + n]! = z := st_get' (P := P ++ L') (R := c :: R) _ (by rw [hd]; simp) (by simp; omega)
    have e2 : d[a + n + 1]! = c := st_get' (P := P ++ (L' ++ [z])) (R := R) _ (by rw [hd]) (by simp; omega)
    rw [show a + (n + 1) = a + n + 1 from rfl, Go.Sort.insInner, e1, e2]
    have hs' := List.pairwise_append.1 hs
    by_cases hc : lt c z = true
    · rw [if_pos (by simp [hc]; omega)]
      have h2 := st_swp_down (d := d) (P := P ++ L') (R := R) (x := z) (y := c) (a + n + 1) (a + n) (by rw [hd]; simp) (by simp; omega) (by simp; omega)
      rw [ih _ P L' (z :: R) c hL' hP (by rw [h2]) hs'.1, stIns_last lt c z L' hc]
      simp
    · rw [if_neg (by simp [hc])]
      have hcz : lt c z = false := by simpa using hc
      have : stIns lt c (L' ++ [z]) = (L' ++ [z]) ++ [c] := by
        have := stIns_append lt c (L' ++ [z]) [] (fun x hx => by
          rcases List.mem_append.1 hx with hx | hx
          · exact S.ntrans _ _ _ hcz (hs'.2.2 x hx z (by simp))
          · rw [List.mem_singleton.1 hx]; exact hcz)
        simpa [stIns] using this
      rw [this, hd]; simp
theorem st_outer (S : Go.Sort.SWO lt) (a : Nat) (P R : List α) (hP : P.length = a) (n : Nat) : ∀ (d : Array α) (X Y : List α), Y.length = n → d.toList = P ++ stSrt lt X ++ Y ++ R → (Go.Sort.insOuter lt a (a + X.length + Y.length) (a + X.length) d).toList = P ++ stSrt lt (X ++ Y) ++ R := by
  induction n with
  | zero =>
    intro d X Y hY hd
    obtain rfl := List.length_eq_zero_iff.1 hY
    rw [Go.Sort.insOuter, if_neg (by simp), hd]; simp
  | succ n ih =>
    intro d X Y hY hd
    cases Y with
    | nil => cases hY
    | cons c Y =>
      rw [Go.Sort.insOuter, if_pos (by simp)]
      have h1 := st_inner S a (X.length) d P (stSrt lt X) (Y ++ R) c (stSrt_length lt X) hP (by rw [hd]; simp) (stSrt_sorted S X)
      have h2 := ih (Go.Sort.insInner lt a (a + X.length) d) (X ++ [c]) Y (by simpa using hY) (by rw [h1, stSrt_snoc]; simp)
      rw [List.length_append, List.length_singleton] at h2
      rw [show a + X.length + (c :: Y).length = a + (X.length + 1) + Y.length by simp; omega, show a + X.length + 1 = a + (X.length + 1) from rfl, h2]
      simp
theorem st_insertion (S : Go.Sort.SWO lt) (a b : Nat) (d : Array α) (P X R : List α) (hP : P.length = a) (hb : b = a + X.length) (hd : d.toList = P ++ X ++ R) : (Go.Sort.insertionSort lt d a b).toList = P ++ stSrt lt X ++ R := by
  unfold Go.Sort.insertionSort
  cases X with
  | nil =>
    rw [Go.Sort.insOuter, if_neg (by simp at hb; omega), hd]; rfl
  | cons x X =>
    have h := st_outer S a P R hP X.length d [x] X rfl (by rw [hd]; simp [stSrt, stIns])
    rw [hb, show a + (x :: X).length = a + [x].length + X.length by simp; omega]
    exact h
end
section
variable {α : Type} {lt : α → α → Bool} [Inhabited α]
/-- A binary search between i and j. -/
def StCut (p : Nat → Bool) (lo hi i j : Nat) : Prop := lo ≤ i ∧ i ≤ j ∧ j ≤ hi ∧ (∀ t, lo ≤ t → t < i → p t = true) ∧ (∀ t, j ≤ t → t < hi → p t = false)
theorem StCut.start (p : Nat → Bool) (lo hi : Nat) (h : lo ≤ hi) : StCut p lo hi lo hi := ⟨Nat.le_refl _, h, Nat.le_refl _, fun t h1 h2 => by omega, fun t h1 h2 => by omega⟩
theorem StCut.up {p : Nat → Bool} {lo hi i j h : Nat} (H : StCut p lo hi i j) (hm : ∀ s t, lo ≤ s → s < t → t < hi → p t = true → p s = true) (h1 : i ≤ h) (h2 : h < j) (hp : p h = true) : StCut p lo hi (h + 1) j := by
  obtain ⟨a, b, c, d, e⟩ := H
  refine ⟨by omega, by omega, c, fun t h3 h4 => ?_, e⟩
  rcases Nat.lt_or_ge t h with h5 | h5
  · exact hm t h h3 h5 (by omega) hp
  · rw [show t = h by omega]; exact hp
theorem StCut.down {p : Nat → Bool} {lo hi i j h : Nat} (H : StCut p lo hi i j) (hm : ∀ s t, lo ≤ s → s < t → t < hi → p t = true → p s = true) (h1 : i ≤ h) (h2 : h < j) (hp : p h = false) : StCut p lo hi i h := by
  obtain ⟨a, b, c, d, e⟩ := H
  refine ⟨a, h1, by omega, d, fun t h3 h4 => ?_⟩
  rcases Nat.lt_or_ge h t with h5 | h5
  · cases q : p t
    · rfl
    · have := hm h t (by omega) h5 h4 q; rw [hp] at this; cases this
  · rw [show t = h by omega]; exact hp
theorem st_getA {d : Array α} {P A R : List α} (h : d.toList = P ++ A ++ R) (i : Nat) (hi : i < A.length) (k : Nat) (hk : k = P.length + i) : d[k]! = A[i] := by
  refine st_get' (P := P ++ A.take i) (R := A.drop (i + 1) ++ R) k ?_ (by rw [List.length_append, List.length_take]; omega)
  have e : A.take i ++ A[i] :: A.drop (i + 1) = A := by rw [← List.drop_eq_getElem_cons hi, List.take_append_drop]
  calc d.toList = P ++ (A.take i ++ A[i] :: A.drop (i + 1)) ++ R := by rw [e, h]
    _ = _ := by simp only [List.append_assoc, List.cons_append]
omit [Inhabited α] in
theorem StSorted.at {A : List α} (h : StSorted lt A) {i j : Nat} (hi : i < A.length) (hj : j < A.length) (hij : i < j) : lt A[j] A[i] = false := List.pairwise_iff_getElem.1 h i j hi hj hij
omit [Inhabited α] in
theorem StSorted.le {A : List α} (S : Go.Sort.SWO lt) (h : StSorted lt A) {i j : Nat} (hi : i < A.length) (hj : j < A.length) (hij : i ≤ j) : lt A[j] A[i] = false := by
  rcases Nat.lt_or_ge i j with h2 | h2
  · exact h.at hi hj h2
  · obtain rfl : i = j := by omega
    exact S.irrefl _
omit [Inhabited α] in
theorem mem_take_at {A : List α} {x : α} {k : Nat} (h : x ∈ A.take k) : ∃ i, ∃ hi : i < A.length, i < k ∧ x = A[i] := by
  obtain ⟨i, hi, rfl⟩ := List.mem_iff_getElem.1 h
  rw [List.length_take] at hi
  exact ⟨i, by omega, by omega, by rw [List.getElem_take]⟩
omit [Inhabited α] in
theorem mem_drop_at {A : List α} {x : α} {k : Nat} (h : x ∈ A.drop k) : ∃ i, ∃ hi : i < A.length, k ≤ i ∧ x = A[i] := by
  obtain ⟨i, hi, rfl⟩ := List.mem_iff_getElem.1 h
  rw [List.length_drop] at hi
  exact ⟨k + i, by omega, by omega, by rw [List.getElem_drop]⟩
/-- one element at the left -/
theorem st_one_mono (S : Go.Sort.SWO lt) {d : Array α} {P B R : List α} {x : α} (hd : d.toList = P ++ x :: B ++ R) (hB : StSorted lt B) (m b : Nat) (hm : m = P.length + 1) (hb : b = m + B.length) :
    ∀ s t, m ≤ s → s < t → t < b → lt d[t]! x = true → lt d[s]! x = true := by
  intro s t h1 h2 h3 h4
  have es := st_getA (d := d) (P := P ++ [x]) (A := B) (R := R) (by rw [hd]; simp) (s - m) (by omega) s (by simp; omega)
  have et := st_getA (d := d) (P := P ++ [x]) (A := B) (R := R) (by rw [hd]; simp) (t - m) (by omega) t (by simp; omega)
  rw [es]; rw [et] at h4
  have h5 := hB.at (i := s - m) (j := t - m) (by omega) (by omega) (by omega)
  cases e : lt B[s - m] x
  · have := S.ntrans _ _ _ h5 e; rw [h4] at this; cases this
  · rfl
theorem st_one_end {d : Array α} {P B R : List α} {x : α} (hd : d.toList = P ++ x :: B ++ R) (m b i : Nat) (hm : m = P.length + 1) (hb : b = m + B.length) (H : StCut (fun t => lt d[t]! x) m b i i) : stMrg lt [x] B = B.take (i - m) ++ x :: B.drop (i - m) := by
  obtain ⟨h1, _, h2, h3, h4⟩ := H
  have ge : ∀ j (hj : j < B.length), d[m + j]! = B[j] := fun j hj => st_getA (d := d) (P := P ++ [x]) (A := B) (R := R) (by rw [hd]; simp) j hj _ (by simp; omega)
  have h := stMrg_split lt [] [x] (B.take (i - m)) (B.drop (i - m)) (by simp) (fun y hy z hz => by
    rw [List.mem_singleton.1 hz]
    obtain ⟨j, hj, hji, rfl⟩ := mem_take_at hy
    rw [← ge j hj]; exact h3 _ (by omega) (by omega))
  rw [List.nil_append, List.take_append_drop, stMrg_nil] at h
  rw [h]
  congr 1
  have h := stMrg_split lt [x] [] [] (B.drop (i - m)) (fun z hz y hy => by
    rw [List.mem_singleton.1 hz]
    obtain ⟨j, hj, hji, rfl⟩ := mem_drop_at hy
    rw [← ge j hj]; exact h4 _ (by omega) (by omega)) (by simp)
  rw [List.append_nil, List.nil_append, stMrg_nil, stMrg_nil_right] at h
  exact h
/-- one element at the right -/
theorem st_two_mono (S : Go.Sort.SWO lt) {d : Array α} {P A R : List α} {y : α} (hd : d.toList = P ++ A ++ y :: R) (hA : StSorted lt A) (a m : Nat) (ha : a = P.length) (hm : m = a + A.length) :
    ∀ s t, a ≤ s → s < t → t < m → (!lt y d[t]!) = true → (!lt y d[s]!) = true := by
  intro s t h1 h2 h3 h4
  have es := st_getA (d := d) (P := P) (A := A) (R := y :: R) hd (s - a) (by omega) s (by omega)
  have et := st_getA (d := d) (P := P) (A := A) (R := y :: R) hd (t - a) (by omega) t (by omega)
  rw [es]; rw [et] at h4
  have h5 := hA.at (i := s - a) (j := t - a) (by omega) (by omega) (by omega)
  rw [Bool.not_eq_true'] at h4 ⊢
  exact S.ntrans _ _ _ h4 h5
theorem st_two_end {d : Array α} {P A R : List α} {y : α} (hd : d.toList = P ++ A ++ y :: R) (a m i : Nat) (ha : a = P.length) (hm : m = a + A.length) (H : StCut (fun t => !lt y d[t]!) a m i i) : stMrg lt A [y] = A.take (i - a) ++ y :: A.drop (i - a) := by
  obtain ⟨h1, _, h2, h3, h4⟩ := H
  have ge : ∀ j (hj : j < A.length), d[a + j]! = A[j] := fun j hj => st_getA (d := d) (P := P) (A := A) (R := y :: R) hd j hj _ (by omega)
  have h := stMrg_split lt (A.take (i - a)) (A.drop (i - a)) [] [y] (fun z hz w hw => by
    rw [List.mem_singleton.1 hw]
    obtain ⟨j, hj, hji, rfl⟩ := mem_take_at hz
    rw [← ge j hj]; simpa using h3 _ (by omega) (by omega)) (by simp)
  rw [List.take_append_drop, List.nil_append, stMrg_nil_right] at h
  rw [h]
  congr 1
  have h := stMrg_split lt [] (A.drop (i - a)) [y] [] (by simp) (fun w hw z hz => by
    rw [List.mem_singleton.1 hw]
    obtain ⟨j, hj, hji, rfl⟩ := mem_drop_at hz
    rw [← ge j hj]; simpa using h4 _ (by omega) (by omega))
  rw [List.append_nil, List.nil_append, stMrg_nil, stMrg_nil_right] at h
  exact h
/-- the middle -/
theorem st_sym_mono (S : Go.Sort.SWO lt) {d : Array α} {P A B R : List α} (hd : d.toList = P ++ A ++ B ++ R) (hA : StSorted lt A) (hB : StSorted lt B) (a m b n lo hi : Nat) (ha : a = P.length) (hm : m = a + A.length) (hb : b = m + B.length) (hr : ∀ c, lo ≤ c → c < hi → a ≤ c ∧ c < m ∧ m ≤ n - 1 - c ∧ n - 1 - c < b) :
    ∀ s t, lo ≤ s → s < t → t < hi → (!lt d[n - 1 - t]! d[t]!) = true → (!lt d[n - 1 - s]! d[s]!) = true := by
  intro s t h1 h2 h3 h4
  have rs := hr s h1 (by omega)
  have rt := hr t (by omega) h3
  have gA : ∀ c (h1 : a ≤ c) (h2 : c < m), d[c]! = A[c - a]'(by omega) := fun c h1 h2 => st_getA (d := d) (P := P) (A := A) (R := B ++ R) (by rw [hd]; simp) (c - a) (by omega) c (by omega)
  have gB : ∀ c (h1 : m ≤ c) (h2 : c < b), d[c]! = B[c - m]'(by omega) := fun c h1 h2 => st_getA (d := d) (P := P ++ A) (A := B) (R := R) hd (c - m) (by omega) c (by simp; omega)
  rw [Bool.not_eq_true'] at h4 ⊢
  rw [gA t rt.1 rt.2.1, gB _ rt.2.2.1 rt.2.2.2] at h4
  rw [gA s rs.1 rs.2.1, gB _ rs.2.2.1 rs.2.2.2]
  refine S.ntrans _ _ _ (hB.le S (i := n - 1 - t - m) (j := n - 1 - s - m) (by omega) (by omega) (by omega)) (S.ntrans _ _ _ h4 (hA.le S (by omega) (by omega) (by omega)))
theorem st_sym_end (S : Go.Sort.SWO lt) {d : Array α} {P A B R : List α} (hd : d.toList = P ++ A ++ B ++ R) (hA : StSorted lt A) (hB : StSorted lt B) (a m b mid lo hi i : Nat) (ha : a = P.length) (hm : m = a + A.length) (hb : b = m + B.length) (hmid : mid = (a + b) / 2) (hA0 : 0 < A.length) (hB0 : 0 < B.length)
    (hlh : m > mid ∧ lo = mid + m - b ∧ hi = mid ∨ m ≤ mid ∧ lo = a ∧ hi = m) (H : StCut (fun c => !lt d[mid + m - 1 - c]! d[c]!) lo hi i i) :
    a ≤ i ∧ i ≤ mid ∧ i ≤ m ∧ m ≤ mid + m - i ∧ mid + m - i ≤ b ∧ stMrg lt A B = stMrg lt (A.take (i - a)) (B.take (mid - i)) ++ stMrg lt (A.drop (i - a)) (B.drop (mid - i)) := by
  obtain ⟨h1, _, h2, h3, h4⟩ := H
  have gA : ∀ c (h1 : a ≤ c) (h2 : c < m), d[c]! = A[c - a]'(by omega) := fun c h1 h2 => st_getA (d := d) (P := P) (A := A) (R := B ++ R) (by rw [hd]; simp) (c - a) (by omega) c (by omega)
  have gB : ∀ c (h1 : m ≤ c) (h2 : c < b), d[c]! = B[c - m]'(by omega) := fun c h1 h2 => st_getA (d := d) (P := P ++ A) (A := B) (R := R) hd (c - m) (by omega) c (by simp; omega)
  have hr : a ≤ i ∧ i ≤ mid ∧ i ≤ m ∧ m ≤ mid + m - i ∧ mid + m - i ≤ b := by omega
  refine ⟨hr.1, hr.2.1, hr.2.2.1, hr.2.2.2.1, hr.2.2.2.2, ?_⟩
  have h := stMrg_split lt (A.take (i - a)) (A.drop (i - a)) (B.take (mid - i)) (B.drop (mid - i)) (fun x hx y hy => by
    obtain ⟨u, hu, hui, rfl⟩ := mem_take_at hx
    obtain ⟨v, hv, hvi, rfl⟩ := mem_drop_at hy
    have h5 := h3 (i - 1) (by omega) (by omega)
    rw [Bool.not_eq_true', gA (i - 1) (by omega) (by omega), gB (mid + m - 1 - (i - 1)) (by omega) (by omega)] at h5
    refine S.ntrans _ _ _ (hB.le S (i := mid + m - 1 - (i - 1) - m) (j := v) (by omega) (by omega) (by omega)) (S.ntrans _ _ _ h5 (hA.le S (by omega) (by omega) (by omega)))) (fun y hy x hx => by
    obtain ⟨u, hu, hui, rfl⟩ := mem_drop_at hx
    obtain ⟨v, hv, hvi, rfl⟩ := mem_take_at hy
    have h5 := h4 i (by omega) (by omega)
    rw [Bool.not_eq_false', gA i (by omega) (by omega), gB (mid + m - 1 - i) (by omega) (by omega)] at h5
    have h6 := hB.le S (i := v) (j := mid + m - 1 - i - m) (by omega) (by omega) (by omega)
    have h7 := hA.le S (i := i - a) (j := u) (by omega) (by omega) (by omega)
    -- y ≤ b' < a' ≤ x
    cases e : lt B[v] A[u]
    · have := S.ntrans _ _ _ h6 (S.ntrans _ _ _ e h7); rw [h5] at this; cases this
    · rfl)
  rw [List.take_append_drop, List.take_append_drop] at h
  exact h
end

/-- What the walks of the stable sort ask of the program. -/
structure StP (P : Program) (k : Nat) : Prop where
  mixed : P.follows .mixedOrders = true
  f62 : P.funcs[62]? = some Tryd.f62
  f74 : P.funcs[74]? = some Tryd.f74
  f82 : P.funcs[82]? = some Tryd.f82
  f88 : P.funcs[88]? = some Tryd.f88
  t0 : P.underlying 0 = some (TypeDesc.tuple #[])
  a0 : ∀ w, (isAgg 0).run P w = .ok false w
  z0 : ∀ w, (Go.sizeOf 0).run P w = .ok 1 w
  v0 : ∀ w, (zeroValue 0).run P w = .ok (Value.tuple #[]) w
  t3 : P.underlying 3 = some (TypeDesc.int IntKind.i64)
  a3 : ∀ w, (isAgg 3).run P w = .ok false w
  z3 : ∀ w, (Go.sizeOf 3).run P w = .ok 1 w
  v3 : ∀ w, (zeroValue 3).run P w = .ok (Value.int IntKind.i64 0) w
  t4 : P.underlying 4 = some (TypeDesc.bool)
  a4 : ∀ w, (isAgg 4).run P w = .ok false w
  z4 : ∀ w, (Go.sizeOf 4).run P w = .ok 1 w
  v4 : ∀ w, (zeroValue 4).run P w = .ok (Value.bool false) w
  t36 : P.underlying 36 = some (TypeDesc.slice 23)
  a36 : ∀ w, (isAgg 36).run P w = .ok false w
  z36 : ∀ w, (Go.sizeOf 36).run P w = .ok 1 w
  v36 : ∀ w, (zeroValue 36).run P w = .ok (Value.slice none 0 0) w
  t64 : P.underlying 64 = some (TypeDesc.func #[23, 23] #[3] false)
  a64 : ∀ w, (isAgg 64).run P w = .ok false w
  z64 : ∀ w, (Go.sizeOf 64).run P w = .ok 1 w
  v64 : ∀ w, (zeroValue 64).run P w = .ok (Value.nilFunc) w
  t92 : P.underlying 92 = some (TypeDesc.int IntKind.u64)
  a92 : ∀ w, (isAgg 92).run P w = .ok false w
  z92 : ∀ w, (Go.sizeOf 92).run P w = .ok 1 w
  v92 : ∀ w, (zeroValue 92).run P w = .ok (Value.int IntKind.u64 0) w
  aE : ∀ w, (isAgg 23).run P w = .ok true w
  zE : ∀ w, (Go.sizeOf 23).run P w = .ok k w
section
variable {P : Program} {α : Type} [Inhabited α]
set_option maxHeartbeats 4000000 in
set_option maxRecDepth 1000000 in
/-- swapRange: two rows of n elements change places. -/
theorem st_swapRange {k : Nat} (L : StP P k) (enc : α → List Value) (g : Nat) (cb : Array Value) (blk off cap a b n : Nat) (d0 d : Array α) (w0 w : World)
    (R : RowK enc k w0 blk off d0) (hs : d0.size = d.size) (S : SWK enc k w0 blk off d w) (Pr A M B Sf : List α) (hd : d.toList = Pr ++ A ++ M ++ B ++ Sf) (ha : a = Pr.length) (hb : b = a + A.length + M.length) (hA : A.length = n) (hB : B.length = n) (hsz : d.size < 4611686018427387904) :
    Calls P 88 #[.slice (some ⟨blk, off, none⟩) d.size cap, .int .i64 a, .int .i64 b, .int .i64 n, .func (.func g) #[] cb] w fun e w' => e = .returned (.tuple #[]) ∧ ∃ d' : Array α, d'.size = d.size ∧ d'.toList = Pr ++ B ++ M ++ A ++ Sf ∧ SWK enc k w0 blk off d' w' := by
  have mixed := L.mixed; have t0 := L.t0; have a0 := L.a0; have z0 := L.z0; have v0 := L.v0; have t3 := L.t3; have a3 := L.a3; have z3 := L.z3; have v3 := L.v3; have t4 := L.t4; have a4 := L.a4; have z4 := L.z4; have v4 := L.v4; have t36 := L.t36; have a36 := L.a36; have z36 := L.z36; have v36 := L.v36; have t64 := L.t64; have a64 := L.a64; have z64 := L.z64; have v64 := L.v64; have aE := L.aE; have zE := L.zE
  have FG := L.f88
  have S0 : Aside (SWK enc k w0 blk off d w) := S
  have HD : Aside0 (d.toList = Pr ++ A ++ M ++ B ++ Sf) := ⟨hd⟩
  have hsz2 := st_size hd
  simp only [List.length_append] at hsz2
  have HZ : Aside0 (d.size = Pr.length + A.length + M.length + B.length + Sf.length ∧ a = Pr.length ∧ b = a + A.length + M.length ∧ A.length = n ∧ B.length = n) := ⟨hsz2, ha, hb, hA, hB⟩
  have hbn : a + n ≤ b ∧ b + n ≤ d.size := by omega
  clear S hd hsz2 ha hb hA hB
  go_enter FG, Tryd.ntmps88
  go_wp2
  go_loopg [10] n (fun kx s10 wr => ∃ (i : Nat) (dk : Array α), s10 = .int .i64 i ∧ i + kx = n ∧ dk.size = d.size ∧ Aside0 (dk.toList = Pr ++ B.take i ++ A.drop i ++ M ++ A.take i ++ B.drop i ++ Sf) ∧ Aside (SWK enc k w0 blk off dk wr))
  case atStart => exact ⟨0, d, rfl, by omega, rfl, ⟨by rw [HD.out]; simp⟩, S0⟩
  case round =>
    clear S0
    obtain ⟨i, dk, rfl, hi, hds, HL, S1⟩ := hrel
    obtain ⟨kx, rfl⟩ : ∃ kx, kx = gk := ⟨gk, rfl⟩
    cases kx with
    | zero =>
      have hlt : ¬ (i : Int) < (n : Int) := by omega
      go_wp2
      go_end0
      refine ⟨rfl, dk, hds, ?_, S1.out⟩
      have h := HL.out
      have hz := HZ.out
      rw [List.take_of_length_le (by omega), List.drop_of_length_le (by omega), List.take_of_length_le (by omega), List.drop_of_length_le (by omega)] at h
      simpa using h
    | succ kx =>
      have hlt : (i : Int) < (n : Int) := by omega
      go_wp2_with fail
      have ea44 : ((a : Int) + (i : Int)).toNat = a + i := by omega
      have pa44 : (0 : Int) ≤ (a : Int) + (i : Int) := by omega
      have ba44 : (a : Int) + (i : Int) < (d.size : Int) := by omega
      have ra44 : IntKind.i64.wrap ((a : Int) + (i : Int)) = (a : Int) + (i : Int) := by rw [IntKind.wrap_i64]; omega
      have ec44 : ((b : Int) + (i : Int)).toNat = b + i := by omega
      have pc44 : (0 : Int) ≤ (b : Int) + (i : Int) := by omega
      have bc44 : (b : Int) + (i : Int) < (d.size : Int) := by omega
      have rc44 : IntKind.i64.wrap ((b : Int) + (i : Int)) = (b : Int) + (i : Int) := by rw [IntKind.wrap_i64]; omega
      have S2 : Aside (SWK enc k w0 blk off (Go.Sort.swp dk (a + i) (b + i)) ((wr.drew.setCells blk (off + (a + i) * k) (enc dk[b + i]!)).setCells blk (off + (b + i) * k) (enc dk[a + i]!))) := S1.out.swapped R (a + i) (b + i) (by omega) (by omega)
      have l44a := S1.out.ld1 R (by omega) P (a + i) (by omega)
      have l44b := S1.out.ld1 R (by omega) P (b + i) (by omega)
      have s44a := S1.out.st1 R (by omega) P (a + i) (by omega) dk[b + i]!
      have s44b := S1.out.st2 R (by omega) P (a + i) (b + i) (by omega) (by omega) dk[b + i]! dk[a + i]!
      have n44a : (enc dk[a + i]!).length = k := R.hk _
      have n44b : (enc dk[b + i]!).length = k := R.hk _
      generalize enc dk[a + i]! = cI44 at S2 l44a s44b n44a
      generalize enc dk[b + i]! = cJ44 at S2 l44b s44a s44b n44b
      clear S1
      go_wp2_with fail
      go_big_region_o
      clear l44a l44b s44a s44b
      generalize (wr.drew.setCells blk (off + (a + i) * k) cJ44).setCells blk (off + (b + i) * k) cI44 = w2 at S2 ⊢
      go_wp2
      go_roundg kx
      case measure => omega
      case rel =>
        refine ⟨i + 1, Go.Sort.swp dk (a + i) (b + i), by first | rfl | simp, by omega, by rw [Go.Sort.size_swp]; exact hds, ⟨?_⟩, S2⟩
        have hz := HZ.out
        have hiA : i < A.length := by omega
        have hiB : i < B.length := by omega
        have h := HL.out
        rw [List.drop_eq_getElem_cons hiA, List.drop_eq_getElem_cons hiB] at h
        have h2 := st_swp' (d := dk) (P := Pr ++ B.take i) (Q := A.drop (i + 1) ++ M ++ A.take i) (R := B.drop (i + 1) ++ Sf) (x := A[i]) (y := B[i]) (a + i) (b + i) (by rw [h]; simp only [List.append_assoc, List.cons_append]) (by simp; omega) (by simp; omega)
        rw [h2, List.take_add_one, List.take_add_one, List.getElem?_eq_getElem hiA, List.getElem?_eq_getElem hiB]
        simp only [List.append_assoc, List.cons_append, List.nil_append, Option.toList_some]
end

section
variable {P : Program} {α : Type} [Inhabited α]
theorem StP.enter88 {k : Nat} (L : StP P k) : ∀ args w, (callFunc 88 args).run P w = .ok (.enter 88 args) w := enters_of L.f88 (by kernel_rfl) rfl
theorem StP.enter82 {k : Nat} (L : StP P k) : ∀ args w, (callFunc 82 args).run P w = .ok (.enter 82 args) w := enters_of L.f82 (by kernel_rfl) rfl
theorem StP.enter74 {k : Nat} (L : StP P k) : ∀ args w, (callFunc 74 args).run P w = .ok (.enter 74 args) w := enters_of L.f74 (by kernel_rfl) rfl
set_option maxHeartbeats 4000000 in
set_option maxRecDepth 1000000 in
/-- rotate: two neighbours change places. -/
theorem st_rotate {k : Nat} (L : StP P k) (enc : α → List Value) (g : Nat) (cb : Array Value) (blk off cap a m b : Nat) (d0 d : Array α) (w0 w : World)
    (R : RowK enc k w0 blk off d0) (hs : d0.size = d.size) (S : SWK enc k w0 blk off d w) (Pr A B Sf : List α) (hd : d.toList = Pr ++ A ++ B ++ Sf) (ha : a = Pr.length) (hm : m = a + A.length) (hb : b = m + B.length) (hA : 0 < A.length) (hB : 0 < B.length) (hsz : d.size < 4611686018427387904) :
    Calls P 82 #[.slice (some ⟨blk, off, none⟩) d.size cap, .int .i64 a, .int .i64 m, .int .i64 b, .func (.func g) #[] cb] w fun e w' => e = .returned (.tuple #[]) ∧ ∃ d' : Array α, d'.size = d.size ∧ d'.toList = Pr ++ B ++ A ++ Sf ∧ SWK enc k w0 blk off d' w' := by
  have mixed := L.mixed; have t0 := L.t0; have a0 := L.a0; have z0 := L.z0; have v0 := L.v0; have t3 := L.t3; have a3 := L.a3; have z3 := L.z3; have v3 := L.v3; have t4 := L.t4; have a4 := L.a4; have z4 := L.z4; have v4 := L.v4; have t36 := L.t36; have a36 := L.a36; have z36 := L.z36; have v36 := L.v36; have t64 := L.t64; have a64 := L.a64; have z64 := L.z64; have v64 := L.v64; have aE := L.aE; have zE := L.zE
  have FG := L.f82
  have S0 : Aside (SWK enc k w0 blk off d w) := S
  have HD : Aside0 (d.toList = Pr ++ A ++ B ++ Sf) := ⟨hd⟩
  have hsz2 := st_size hd
  simp only [List.length_append] at hsz2
  have HZ : Aside0 (d.size = Pr.length + A.length + B.length + Sf.length ∧ a = Pr.length ∧ m = a + A.length ∧ b = m + B.length ∧ 0 < A.length ∧ 0 < B.length) := ⟨hsz2, ha, hm, hb, hA, hB⟩
  have hbn : a ≤ m ∧ m ≤ b ∧ b ≤ d.size := by omega
  have e1 : IntKind.i64.wrap ((m : Int) - (a : Int)) = ((m - a : Nat) : Int) := by rw [IntKind.wrap_i64]; omega
  have e2 : IntKind.i64.wrap ((b : Int) - (m : Int)) = ((b - m : Nat) : Int) := by rw [IntKind.wrap_i64]; omega
  have cast1 : (m : Int) - (a : Int) = ((m - a : Nat) : Int) := by omega
  have cast2 : (b : Int) - (m : Int) = ((b - m : Nat) : Int) := by omega
  have E88 := L.enter88
  clear S hd hsz2 ha hm hb hA hB
  go_enter FG, Tryd.ntmps82
  go_wp2
  go_loopg [10, 11] (A.length + B.length) (fun kx s10 s11 wr => ∃ (i j : Nat) (dk : Array α) (P1 X Y S1 : List α), s10 = .int .i64 i ∧ s11 = .int .i64 j ∧ i + j ≤ kx ∧ dk.size = d.size ∧ Aside0 (dk.toList = P1 ++ X ++ Y ++ S1 ∧ P1 ++ Y ++ X ++ S1 = Pr ++ B ++ A ++ Sf ∧ X.length = i ∧ Y.length = j ∧ P1.length + i = m ∧ 0 < i ∧ 0 < j) ∧ Aside (SWK enc k w0 blk off dk wr))
  case atStart =>
    have hz := HZ.out
    exact ⟨A.length, B.length, d, Pr, A, B, Sf, by rw [show A.length = m - a by omega, ← cast1], by rw [show B.length = b - m by omega, ← cast2], Nat.le_refl _, rfl, ⟨HD.out, rfl, rfl, rfl, by omega, by omega, by omega⟩, S0⟩
  case round =>
    clear S0
    obtain ⟨i, j, dk, P1, X, Y, Z1, rfl, rfl, hk, hds, HL, S1⟩ := hrel
    have hl := HL.out
    have hl3 := st_size hl.1
    simp only [List.length_append] at hl3
    have hbnd : i ≤ m ∧ m + j ≤ d.size ∧ 0 < i ∧ 0 < j := by omega
    have c1 : (m : Int) - (i : Int) = ((m - i : Nat) : Int) := by omega
    by_cases heq : i = j
    · subst heq
      have hc := fun W (S1 : SWK enc k w0 blk off dk W) => st_swapRange L enc g cb blk off cap (m - i) m i d0 dk w0 W R (by omega) S1 P1 X [] Y Z1 (by rw [hl.1]; simp) (by omega) (by simp; omega) hl.2.2.1 hl.2.2.2.1 (by omega)
      rw [hds] at hc
      clear hl hl3
      have HC := Aside0.mk hc
      clear hc
      go_wp2_with (go_at_fn 88; refine (HC.out _ S1.out).mono ?_; rintro e w1 ⟨rfl, d1, hd1, hl1, S2⟩)
      go_end0
      refine ⟨rfl, d1, by omega, ?_, S2⟩
      rw [hl1, ← HL.out.2.1]
      simp
    · have hne : ((i : Int) != (j : Int)) = true := bne_iff_ne.mpr (by omega)
      have hne2 : ((i : Int) == (j : Int)) = false := beq_eq_false_iff_ne.mpr (by omega)
      have hne3 : ¬ (i : Int) = (j : Int) := by omega
      by_cases hgt : j < i
      · have hgz : (j : Int) < (i : Int) := by omega
        have hgz2 : (i : Int) > (j : Int) := by omega
        have c2 : (i : Int) - (j : Int) = ((i - j : Nat) : Int) := by omega
        have hX : X = X.take j ++ X.drop j := (List.take_append_drop _ _).symm
        have hc := fun W (S1 : SWK enc k w0 blk off dk W) => st_swapRange L enc g cb blk off cap (m - i) m j d0 dk w0 W R (by omega) S1 P1 (X.take j) (X.drop j) Y Z1 (by rw [hl.1]; simp) (by omega) (by simp; omega) (by simp; omega) hl.2.2.2.1 (by omega)
        rw [hds] at hc
        have HC := Aside0.mk hc
        clear hc hl hl3 hX
        go_wp2_with (go_at_fn 88; refine (HC.out _ S1.out).mono ?_; rintro e w1 ⟨rfl, d1, hd1, hl1, S2⟩)
        go_roundg (i - j + j)
        case measure => omega
        case rel =>
          have hl := HL.out
          refine ⟨i - j, j, d1, P1 ++ Y, X.drop j, X.take j, Z1, by first | rfl | (congr 1), rfl, by omega, by omega, ⟨by rw [hl1], ?_, by simp; omega, by simp; omega, by simp; omega, by omega, by omega⟩, S2⟩
          rw [← hl.2.1]
          conv => rhs; rw [← List.take_append_drop j X]
          simp only [List.append_assoc]
      · have hgz : ¬ (j : Int) < (i : Int) := by omega
        have hgz2 : ¬ (i : Int) > (j : Int) := by omega
        have c2 : (j : Int) - (i : Int) = ((j - i : Nat) : Int) := by omega
        have c3 : (m : Int) + (j : Int) - (i : Int) = ((m + j - i : Nat) : Int) := by omega
        have hc := fun W (S1 : SWK enc k w0 blk off dk W) => st_swapRange L enc g cb blk off cap (m - i) (m + j - i) i d0 dk w0 W R (by omega) S1 P1 X (Y.take (j - i)) (Y.drop (j - i)) Z1 (by rw [hl.1]; simp) (by omega) (by simp; omega) hl.2.2.1 (by simp; omega) (by omega)
        rw [hds] at hc
        have HC := Aside0.mk hc
        clear hc hl hl3
        go_wp2_with (go_at_fn 88; refine (HC.out _ S1.out).mono ?_; rintro e w1 ⟨rfl, d1, hd1, hl1, S2⟩)
        go_roundg (i + (j - i))
        case measure => omega
        case rel =>
          have hl := HL.out
          refine ⟨i, j - i, d1, P1, Y.drop (j - i), Y.take (j - i), X ++ Z1, rfl, by first | rfl | (congr 1), by omega, by omega, ⟨by rw [hl1]; simp only [List.append_assoc], ?_, by simp; omega, by simp; omega, by omega, by omega, by omega⟩, S2⟩
          rw [← hl.2.1]
          conv => rhs; rw [← List.take_append_drop (j - i) Y]
          simp only [List.append_assoc]
end

section
variable {P : Program} {α : Type} [Inhabited α]
set_option maxHeartbeats 8000000 in
set_option maxRecDepth 1000000 in
/-- symMerge, one element at the left. -/
theorem st_sym_one {k : Nat} (L : StP P k) (enc : α → List Value) (cf : α → α → Int) (g : Nat) (cb : Array Value) (blk off cap a m b : Nat) (d0 d : Array α) (w0 w : World)
    (eg : ∀ args w, (callFunc g args).run P w = .ok (.enter g args) w) (hcmp : CmpLays P g cb enc k cf blk off d0.size w0) (O : Go.Sort.SWO (ltOf cf))
    (R : RowK enc k w0 blk off d0) (hs : d0.size = d.size) (S : SWK enc k w0 blk off d w) (Pr B Sf : List α) (x : α) (hd : d.toList = Pr ++ x :: B ++ Sf) (sB : StSorted (ltOf cf) B) (ha : a = Pr.length) (hm : m = a + 1) (hb : b = m + B.length) (hsz : d.size < 4611686018427387904) :
    Calls P 74 #[.slice (some ⟨blk, off, none⟩) d.size cap, .int .i64 a, .int .i64 m, .int .i64 b, .func (.func g) #[] cb] w fun e w' => e = .returned (.tuple #[]) ∧ ∃ d' : Array α, d'.size = d.size ∧ d'.toList = Pr ++ stMrg (ltOf cf) [x] B ++ Sf ∧ SWK enc k w0 blk off d' w' := by
  have mixed := L.mixed; have t0 := L.t0; have a0 := L.a0; have z0 := L.z0; have v0 := L.v0; have t3 := L.t3; have a3 := L.a3; have z3 := L.z3; have v3 := L.v3; have t4 := L.t4; have a4 := L.a4; have z4 := L.z4; have v4 := L.v4; have t36 := L.t36; have a36 := L.a36; have z36 := L.z36; have v36 := L.v36; have t64 := L.t64; have a64 := L.a64; have z64 := L.z64; have v64 := L.v64; have t92 := L.t92; have a92 := L.a92; have z92 := L.z92; have v92 := L.v92; have aE := L.aE; have zE := L.zE
  have FG := L.f74
  have HC : Aside _ := hcmp
  have S0 : Aside (SWK enc k w0 blk off d w) := S
  have HD : Aside0 (d.toList = Pr ++ x :: B ++ Sf) := ⟨hd⟩
  have hsz2 := st_size hd
  simp only [List.length_append, List.length_cons] at hsz2
  have HZ : Aside0 (d.size = Pr.length + (B.length + 1) + Sf.length ∧ a = Pr.length ∧ m = a + 1 ∧ b = m + B.length) := ⟨hsz2, ha, hm, hb⟩
  have HM := Aside0.mk (st_one_mono (lt := ltOf cf) O hd sB m b (by omega) hb)
  have hx : d[a]! = x := st_get' (P := Pr) (R := B ++ Sf) a (by rw [hd]; simp) ha
  have HX := Aside0.mk hx
  have hbn : m ≤ b ∧ b ≤ d.size := by omega
  have e0 : a < d.size := by omega
  have e1 : IntKind.i64.wrap ((m : Int) - (a : Int)) = 1 := by rw [IntKind.wrap_i64]; omega
  have c1 : (m : Int) - (a : Int) = 1 := by omega
  have SB := Aside0.mk sB
  clear S hd hsz2 ha hm hb hx sB
  go_enter FG, Tryd.ntmps74
  go_wp2
  go_loopg [10, 11, 12] (b - m) (fun kx s10 s11 s12 wr => ∃ (i j : Nat), s10 = .int .i64 i ∧ s11 = .int .i64 j ∧ j - i ≤ kx ∧ m ≤ i ∧ i ≤ j ∧ j ≤ b ∧ Aside0 (StCut (fun t => ltOf cf d[t]! x) m b i j) ∧ Aside (SWK enc k w0 blk off d wr))
  case atStart => exact ⟨m, b, rfl, rfl, Nat.le_refl _, Nat.le_refl _, hbn.1, Nat.le_refl _, ⟨StCut.start _ _ _ hbn.1⟩, S0⟩
  case round =>
    clear S0
    obtain ⟨i, j, rfl, rfl, hk, h1, h2, h3, HT, S1⟩ := hrel
    by_cases hlt : i < j
    · have hltz : (i : Int) < (j : Int) := by omega
      obtain ⟨h, hh⟩ : ∃ h, h = (i + j) / 2 := ⟨_, rfl⟩
      have ch : ((i : Int) + (j : Int)) / 2 = (h : Int) := by omega
      have h4 : i ≤ h ∧ h < j := by omega
      clear hh
      have ea24 : ((h : Int)).toNat = h := by omega
      have pa24 : (0 : Int) ≤ (h : Int) := by omega
      have ba24 : (h : Int) < (d.size : Int) := by omega
      have ra24 : IntKind.i64.wrap ((h : Int)) = (h : Int) := by rw [IntKind.wrap_i64]; omega
      have ec24 : ((a : Int)).toNat = a := by omega
      have pc24 : (0 : Int) ≤ (a : Int) := by omega
      have bc24 : (a : Int) < (d.size : Int) := by omega
      have rc24 : IntKind.i64.wrap ((a : Int)) = (a : Int) := by rw [IntKind.wrap_i64]; omega
      obtain ⟨x24, hx24⟩ : ∃ y, y = d[h]! := ⟨_, rfl⟩
      have l24a := S1.out.ld R (by omega) P h (by omega)
      have l24b := S1.out.ld R (by omega) P a (by omega)
      rw [← hx24] at l24a
      rw [HX.out] at l24b
      have hc24 := S1.out.cmp HC.out (by omega) x24 x
      have HX24 := Aside0.mk hx24
      clear hx24
      cases hL : ltOf cf x24 x with
      | true =>
        have hv24 : cf x24 x < 0 := of_decide_eq_true hL
        have hd24 : decide (cf x24 x < 0) = true := decide_eq_true hv24
        have HT2 := Aside0.mk (HT.out.up HM.out h4.1 h4.2 (by rw [← HX24.out]; exact hL))
        clear hL
        go_wp2_with fail
        go_quiet_grown (first | (go_at_fn g; refine Calls.grown_of (hc24 _ _)))
        have S2 : Aside (SWK enc k w0 blk off d (Go.Sort.grow (wr.drewN nq) osq)) := S1.out.grown nq osq
        clear l24a l24b hc24 S1
        generalize Go.Sort.grow (wr.drewN nq) osq = w2 at S2 ⊢
        clear nq osq
        go_wp2
        go_roundg (j - (h + 1))
        case measure => omega
        case rel => exact ⟨h + 1, j, by first | rfl | go_num, rfl, Nat.le_refl _, by omega, by omega, by omega, HT2, S2⟩
      | false =>
        have hv24 : ¬ cf x24 x < 0 := of_decide_eq_false hL
        have hd24 : decide (cf x24 x < 0) = false := decide_eq_false hv24
        have HT2 := Aside0.mk (HT.out.down HM.out h4.1 h4.2 (by rw [← HX24.out]; exact hL))
        clear hL
        go_wp2_with fail
        go_quiet_grown (first | (go_at_fn g; refine Calls.grown_of (hc24 _ _)))
        have S2 : Aside (SWK enc k w0 blk off d (Go.Sort.grow (wr.drewN nq) osq)) := S1.out.grown nq osq
        clear l24a l24b hc24 S1
        generalize Go.Sort.grow (wr.drewN nq) osq = w2 at S2 ⊢
        clear nq osq
        go_wp2
        go_roundg (h - i)
        case measure => omega
        case rel => exact ⟨i, h, rfl, rfl, Nat.le_refl _, by omega, by omega, by omega, HT2, S2⟩
    · have hltz : ¬ (i : Int) < (j : Int) := by omega
      obtain rfl : i = j := by omega
      have hz := HZ.out
      have HE := Aside0.mk (st_one_end (lt := ltOf cf) HD.out m b i (by omega) (by omega) HT.out)
      obtain ⟨i', rfl⟩ : ∃ i', i = i' + 1 := ⟨i - 1, by omega⟩
      have c5 : (((i' + 1 : Nat) : Int)) - 1 = (i' : Int) := by omega
      have c6 : ((i' : Int) + 1) - 1 = (i' : Int) := by omega
      have hmi : m ≤ i' + 1 ∧ i' + 1 ≤ b := ⟨h1, h3⟩
      have hm0 : 0 < m ∧ m = a + 1 := by omega
      have HI := Aside0.mk hm0.2
      clear hz
      have ha' : a ≤ i' := by omega
      clear hm0
      go_wp2
      go_loopg [13] (i' - a) (fun kx s13 wr => ∃ (q : Nat) (dk : Array α), s13 = .int .i64 q ∧ i' - q ≤ kx ∧ a ≤ q ∧ q ≤ i' ∧ dk.size = d.size ∧ Aside0 (dk.toList = Pr ++ B.take (q - a) ++ x :: B.drop (q - a) ++ Sf) ∧ Aside (SWK enc k w0 blk off dk wr))
      case atStart => exact ⟨a, d, rfl, Nat.le_refl _, Nat.le_refl _, ha', rfl, ⟨by rw [HD.out]; simp⟩, S1⟩
      case round =>
        clear S1
        obtain ⟨q, dk, rfl, hq, hq1, hq2, hds, HL, S1⟩ := hrel
        by_cases hlt2 : q < i'
        · have hltz2 : (q : Int) < (i' : Int) := by omega
          have hbd : i' < d.size := by omega
          have ea44 : ((q : Int)).toNat = q := by omega
          have pa44 : (0 : Int) ≤ (q : Int) := by omega
          have ba44 : (q : Int) < (d.size : Int) := by omega
          have ra44 : IntKind.i64.wrap ((q : Int)) = (q : Int) := by rw [IntKind.wrap_i64]; omega
          have ec44 : ((q : Int) + 1).toNat = q + 1 := by omega
          have pc44 : (0 : Int) ≤ (q : Int) + 1 := by omega
          have bc44 : (q : Int) + 1 < (d.size : Int) := by omega
          have rc44 : IntKind.i64.wrap ((q : Int) + 1) = (q : Int) + 1 := by rw [IntKind.wrap_i64]; omega
          have S2 : Aside (SWK enc k w0 blk off (Go.Sort.swp dk q (q + 1)) ((wr.drew.setCells blk (off + q * k) (enc dk[q + 1]!)).setCells blk (off + (q + 1) * k) (enc dk[q]!))) := S1.out.swapped R q (q + 1) (by omega) (by omega)
          have l44a := S1.out.ld1 R (by omega) P q (by omega)
          have l44b := S1.out.ld1 R (by omega) P (q + 1) (by omega)
          have s44a := S1.out.st1 R (by omega) P q (by omega) dk[q + 1]!
          have s44b := S1.out.st2 R (by omega) P q (q + 1) (by omega) (by omega) dk[q + 1]! dk[q]!
          have n44a : (enc dk[q]!).length = k := R.hk _
          have n44b : (enc dk[q + 1]!).length = k := R.hk _
          generalize enc dk[q]! = cI44 at S2 l44a s44b n44a
          generalize enc dk[q + 1]! = cJ44 at S2 l44b s44a s44b n44b
          clear S1
          go_wp2_with fail
          go_big_region_o
          clear l44a l44b s44a s44b
          generalize (wr.drew.setCells blk (off + q * k) cJ44).setCells blk (off + (q + 1) * k) cI44 = w2 at S2 ⊢
          go_wp2
          go_roundg (i' - (q + 1))
          case measure => omega
          case rel =>
            refine ⟨q + 1, Go.Sort.swp dk q (q + 1), by first | rfl | simp, by omega, by omega, by omega, by rw [Go.Sort.size_swp]; exact hds, ⟨?_⟩, S2⟩
            have hz := HZ.out
            have hiB : q - a < B.length := by omega
            have h := HL.out
            rw [List.drop_eq_getElem_cons hiB] at h
            have h2 := st_swp' (d := dk) (P := Pr ++ B.take (q - a)) (Q := []) (R := B.drop (q - a + 1) ++ Sf) (x := x) (y := B[q - a]) q (q + 1) (by rw [h]; simp only [List.append_assoc, List.cons_append, List.nil_append]) (by simp; omega) (by simp; omega)
            rw [h2, show q + 1 - a = q - a + 1 by omega, List.take_add_one, List.getElem?_eq_getElem hiB]
            simp only [List.append_assoc, List.cons_append, List.nil_append, Option.toList_some]
        · have hltz2 : ¬ (q : Int) < (i' : Int) := by omega
          obtain rfl : q = i' := by omega
          go_wp2
          (try simp only [Exit.inBlock, Exit.then]); refine bodyPost_ret (results_none rfl _ _ _) rfl ?_
          refine ⟨rfl, dk, hds, ?_, S1.out⟩
          rw [HL.out, HE.out, HI.out]
          simp
end

section
variable {P : Program} {α : Type} [Inhabited α]
set_option maxHeartbeats 8000000 in
set_option maxRecDepth 1000000 in
/-- symMerge, one element at the right, more at the left. -/
theorem st_sym_two {k : Nat} (L : StP P k) (enc : α → List Value) (cf : α → α → Int) (g : Nat) (cb : Array Value) (blk off cap a m b : Nat) (d0 d : Array α) (w0 w : World)
    (eg : ∀ args w, (callFunc g args).run P w = .ok (.enter g args) w) (hcmp : CmpLays P g cb enc k cf blk off d0.size w0) (O : Go.Sort.SWO (ltOf cf))
    (R : RowK enc k w0 blk off d0) (hs : d0.size = d.size) (S : SWK enc k w0 blk off d w) (Pr A Sf : List α) (y : α) (hd : d.toList = Pr ++ A ++ y :: Sf) (sA : StSorted (ltOf cf) A) (ha : a = Pr.length) (hm : m = a + A.length) (hb : b = m + 1) (h1A : A.length ≠ 1) (hsz : d.size < 4611686018427387904) :
    Calls P 74 #[.slice (some ⟨blk, off, none⟩) d.size cap, .int .i64 a, .int .i64 m, .int .i64 b, .func (.func g) #[] cb] w fun e w' => e = .returned (.tuple #[]) ∧ ∃ d' : Array α, d'.size = d.size ∧ d'.toList = Pr ++ stMrg (ltOf cf) A [y] ++ Sf ∧ SWK enc k w0 blk off d' w' := by
  have mixed := L.mixed; have t0 := L.t0; have a0 := L.a0; have z0 := L.z0; have v0 := L.v0; have t3 := L.t3; have a3 := L.a3; have z3 := L.z3; have v3 := L.v3; have t4 := L.t4; have a4 := L.a4; have z4 := L.z4; have v4 := L.v4; have t36 := L.t36; have a36 := L.a36; have z36 := L.z36; have v36 := L.v36; have t64 := L.t64; have a64 := L.a64; have z64 := L.z64; have v64 := L.v64; have t92 := L.t92; have a92 := L.a92; have z92 := L.z92; have v92 := L.v92; have aE := L.aE; have zE := L.zE
  have FG := L.f74
  have HC : Aside _ := hcmp
  have S0 : Aside (SWK enc k w0 blk off d w) := S
  have HD : Aside0 (d.toList = Pr ++ A ++ y :: Sf) := ⟨hd⟩
  have hsz2 := st_size hd
  simp only [List.length_append, List.length_cons] at hsz2
  have HZ : Aside0 (d.size = Pr.length + A.length + (Sf.length + 1) ∧ a = Pr.length ∧ m = a + A.length ∧ b = m + 1) := ⟨hsz2, ha, hm, hb⟩
  have HM := Aside0.mk (st_two_mono (lt := ltOf cf) O hd sA a m ha hm)
  have hx : d[m]! = y := st_get' (P := Pr ++ A) (R := Sf) m hd (by simp; omega)
  have HX := Aside0.mk hx
  have hbn : a ≤ m ∧ m < b ∧ b ≤ d.size := by omega
  have e1 : IntKind.i64.wrap ((b : Int) - (m : Int)) = 1 := by rw [IntKind.wrap_i64]; omega
  have c1 : (b : Int) - (m : Int) = 1 := by omega
  have n1 : ¬ (m : Int) - (a : Int) = 1 := by omega
  have n2 : ((m : Int) - (a : Int) == 1) = false := beq_eq_false_iff_ne.mpr n1
  have SA := Aside0.mk sA
  clear S hd hsz2 ha hm hb hx sA
  go_enter FG, Tryd.ntmps74
  go_wp2
  go_loopg [14, 15, 16] (m - a) (fun kx s10 s11 s12 wr => ∃ (i j : Nat), s10 = .int .i64 i ∧ s11 = .int .i64 j ∧ j - i ≤ kx ∧ a ≤ i ∧ i ≤ j ∧ j ≤ m ∧ Aside0 (StCut (fun t => !ltOf cf y d[t]!) a m i j) ∧ Aside (SWK enc k w0 blk off d wr))
  case atStart => exact ⟨a, m, rfl, rfl, Nat.le_refl _, Nat.le_refl _, hbn.1, Nat.le_refl _, ⟨StCut.start _ _ _ hbn.1⟩, S0⟩
  case round =>
    clear S0
    obtain ⟨i, j, rfl, rfl, hk, h1, h2, h3, HT, S1⟩ := hrel
    by_cases hlt : i < j
    · have hltz : (i : Int) < (j : Int) := by omega
      obtain ⟨h, hh⟩ : ∃ h, h = (i + j) / 2 := ⟨_, rfl⟩
      have ch : ((i : Int) + (j : Int)) / 2 = (h : Int) := by omega
      have h4 : i ≤ h ∧ h < j := by omega
      clear hh
      have ea24 : ((h : Int)).toNat = h := by omega
      have pa24 : (0 : Int) ≤ (h : Int) := by omega
      have ba24 : (h : Int) < (d.size : Int) := by omega
      have ra24 : IntKind.i64.wrap ((h : Int)) = (h : Int) := by rw [IntKind.wrap_i64]; omega
      have ec24 : ((m : Int)).toNat = m := by omega
      have pc24 : (0 : Int) ≤ (m : Int) := by omega
      have bc24 : (m : Int) < (d.size : Int) := by omega
      have rc24 : IntKind.i64.wrap ((m : Int)) = (m : Int) := by rw [IntKind.wrap_i64]; omega
      obtain ⟨x24, hx24⟩ : ∃ y, y = d[h]! := ⟨_, rfl⟩
      have l24a := S1.out.ld R (by omega) P h (by omega)
      have l24b := S1.out.ld R (by omega) P m (by omega)
      rw [← hx24] at l24a
      rw [HX.out] at l24b
      have hc24 := S1.out.cmp HC.out (by omega) y x24
      have HX24 := Aside0.mk hx24
      clear hx24
      cases hL : ltOf cf y x24 with
      | true =>
        have hv24 : cf y x24 < 0 := of_decide_eq_true hL
        have hd24 : decide (cf y x24 < 0) = true := decide_eq_true hv24
        have HT2 := Aside0.mk (HT.out.down HM.out h4.1 h4.2 (by rw [← HX24.out, hL]; rfl))
        clear hL
        go_wp2_with fail
        go_quiet_grown (first | (go_at_fn g; refine Calls.grown_of (hc24 _ _)))
        have S2 : Aside (SWK enc k w0 blk off d (Go.Sort.grow (wr.drewN nq) osq)) := S1.out.grown nq osq
        clear l24a l24b hc24 S1
        generalize Go.Sort.grow (wr.drewN nq) osq = w2 at S2 ⊢
        clear nq osq
        go_wp2
        go_roundg (h - i)
        case measure => omega
        case rel => exact ⟨i, h, rfl, rfl, Nat.le_refl _, by omega, by omega, by omega, HT2, S2⟩
      | false =>
        have hv24 : ¬ cf y x24 < 0 := of_decide_eq_false hL
        have hd24 : decide (cf y x24 < 0) = false := decide_eq_false hv24
        have HT2 := Aside0.mk (HT.out.up HM.out h4.1 h4.2 (by rw [← HX24.out, hL]; rfl))
        clear hL
        go_wp2_with fail
        go_quiet_grown (first | (go_at_fn g; refine Calls.grown_of (hc24 _ _)))
        have S2 : Aside (SWK enc k w0 blk off d (Go.Sort.grow (wr.drewN nq) osq)) := S1.out.grown nq osq
        clear l24a l24b hc24 S1
        generalize Go.Sort.grow (wr.drewN nq) osq = w2 at S2 ⊢
        clear nq osq
        go_wp2
        go_roundg (j - (h + 1))
        case measure => omega
        case rel => exact ⟨h + 1, j, by first | rfl | go_num, rfl, Nat.le_refl _, by omega, by omega, by omega, HT2, S2⟩
    · have hltz : ¬ (i : Int) < (j : Int) := by omega
      obtain rfl : i = j := by omega
      have hz := HZ.out
      have HE := Aside0.mk (st_two_end (lt := ltOf cf) HD.out a m i (by omega) (by omega) HT.out)
      have hai : a ≤ i ∧ i ≤ m := ⟨h1, h3⟩
      clear hz
      go_wp2
      go_loopg [17] (m - i) (fun kx s13 wr => ∃ (q : Nat) (dk : Array α), s13 = .int .i64 q ∧ q - i ≤ kx ∧ i ≤ q ∧ q ≤ m ∧ dk.size = d.size ∧ Aside0 (dk.toList = Pr ++ A.take (q - a) ++ y :: A.drop (q - a) ++ Sf) ∧ Aside (SWK enc k w0 blk off dk wr))
      case atStart => exact ⟨m, d, rfl, Nat.le_refl _, hai.2, Nat.le_refl _, rfl, ⟨by have hz := HZ.out; rw [HD.out, List.take_of_length_le (by omega), List.drop_of_length_le (by omega)]; simp⟩, S1⟩
      case round =>
        clear S1
        obtain ⟨q, dk, rfl, hq, hq1, hq2, hds, HL, S1⟩ := hrel
        by_cases hlt2 : i < q
        · have hltz2 : (i : Int) < (q : Int) := by omega
          obtain ⟨p, rfl⟩ : ∃ p, q = p + 1 := ⟨q - 1, by omega⟩
          have hbd : p + 1 < d.size := by omega
          have cp : (((p + 1 : Nat) : Int)) - 1 = (p : Int) := by omega
          have cp2 : ((p : Int) + 1) - 1 = (p : Int) := by omega
          have ea44 : ((p : Int) + 1).toNat = p + 1 := by omega
          have pa44 : (0 : Int) ≤ (p : Int) + 1 := by omega
          have ba44 : (p : Int) + 1 < (d.size : Int) := by omega
          have ra44 : IntKind.i64.wrap ((p : Int) + 1) = (p : Int) + 1 := by rw [IntKind.wrap_i64]; omega
          have ec44 : ((p : Int)).toNat = p := by omega
          have pc44 : (0 : Int) ≤ (p : Int) := by omega
          have bc44 : (p : Int) < (d.size : Int) := by omega
          have rc44 : IntKind.i64.wrap ((p : Int)) = (p : Int) := by rw [IntKind.wrap_i64]; omega
          have S2 : Aside (SWK enc k w0 blk off (Go.Sort.swp dk (p + 1) p) ((wr.drew.setCells blk (off + (p + 1) * k) (enc dk[p]!)).setCells blk (off + p * k) (enc dk[p + 1]!))) := S1.out.swapped R (p + 1) p (by omega) (by omega)
          have l44a := S1.out.ld1 R (by omega) P (p + 1) (by omega)
          have l44b := S1.out.ld1 R (by omega) P p (by omega)
          have s44a := S1.out.st1 R (by omega) P (p + 1) (by omega) dk[p]!
          have s44b := S1.out.st2 R (by omega) P (p + 1) p (by omega) (by omega) dk[p]! dk[p + 1]!
          have n44a : (enc dk[p + 1]!).length = k := R.hk _
          have n44b : (enc dk[p]!).length = k := R.hk _
          generalize enc dk[p + 1]! = cI44 at S2 l44a s44b n44a
          generalize enc dk[p]! = cJ44 at S2 l44b s44a s44b n44b
          clear S1
          go_wp2_with fail
          go_big_region_o
          clear l44a l44b s44a s44b
          generalize (wr.drew.setCells blk (off + (p + 1) * k) cJ44).setCells blk (off + p * k) cI44 = w2 at S2 ⊢
          go_wp2
          go_roundg (p - i)
          case measure => omega
          case rel =>
            refine ⟨p, Go.Sort.swp dk (p + 1) p, by first | rfl | simp | (congr 1; omega), Nat.le_refl _, by omega, by omega, by rw [Go.Sort.size_swp]; exact hds, ⟨?_⟩, S2⟩
            have hz := HZ.out
            have hiA : p - a < A.length := by omega
            have h := HL.out
            rw [show p + 1 - a = p - a + 1 by omega, List.take_add_one, List.getElem?_eq_getElem hiA] at h
            have h2 := st_swp_down (d := dk) (P := Pr ++ A.take (p - a)) (R := A.drop (p - a + 1) ++ Sf) (x := A[p - a]) (y := y) (p + 1) p (by rw [h]; simp only [List.append_assoc, List.cons_append, List.nil_append, Option.toList_some]) (by simp; omega) (by simp; omega)
            rw [h2, List.drop_eq_getElem_cons hiA]
            simp only [List.append_assoc, List.cons_append]
        · have hltz2 : ¬ (i : Int) < (q : Int) := by omega
          obtain rfl : q = i := by omega
          go_wp2
          (try simp only [Exit.inBlock, Exit.then]); refine bodyPost_ret (results_none rfl _ _ _) rfl ?_
          refine ⟨rfl, dk, hds, ?_, S1.out⟩
          rw [HL.out, HE.out]
          simp only [List.append_assoc, List.cons_append]
end

/-- A world of the sort's in which the row holds l. -/
def StAt {α : Type} [Inhabited α] (enc : α → List Value) (k : Nat) (w0 : World) (blk off n : Nat) (l : List α) (W : World) : Prop := ∃ dk : Array α, dk.size = n ∧ dk.toList = l ∧ SWK enc k w0 blk off dk W
theorem st_nil2 {α : Type} {lt : α → α → Bool} (A B : List α) (h : A = [] ∨ B = []) : stMrg lt A B = A ++ B := by
  rcases h with rfl | rfl
  · rw [stMrg_nil]; rfl
  · rw [stMrg_nil_right, List.append_nil]
section
variable {P : Program} {α : Type} [Inhabited α]
set_option maxHeartbeats 16000000 in
set_option maxRecDepth 1000000 in
/-- symMerge: two sorted neighbours are merged. -/
theorem st_sym {k : Nat} (L : StP P k) (enc : α → List Value) (cf : α → α → Int) (g : Nat) (cb : Array Value) (blk off cap : Nat) (d0 : Array α) (w0 : World)
    (eg : ∀ args w, (callFunc g args).run P w = .ok (.enter g args) w) (hcmp : CmpLays P g cb enc k cf blk off d0.size w0) (O : Go.Sort.SWO (ltOf cf))
    (R : RowK enc k w0 blk off d0) (hsz : d0.size < 4611686018427387904) (N : Nat) : ∀ (a m b : Nat) (w : World) (Pr A B Sf : List α), b - a ≤ N → StAt enc k w0 blk off d0.size (Pr ++ A ++ B ++ Sf) w → StSorted (ltOf cf) A → StSorted (ltOf cf) B → a = Pr.length → m = a + A.length → b = m + B.length → 0 < A.length → 0 < B.length →
    Calls P 74 #[.slice (some ⟨blk, off, none⟩) d0.size cap, .int .i64 a, .int .i64 m, .int .i64 b, .func (.func g) #[] cb] w fun e w' => e = .returned (.tuple #[]) ∧ StAt enc k w0 blk off d0.size (Pr ++ stMrg (ltOf cf) A B ++ Sf) w' := by
  induction N with
  | zero => intro a m b w Pr A B Sf h; intros; omega
  | succ N ih =>
  intro a m b w Pr A B Sf hN hSt sA sB ha hm hb hA hB
  obtain ⟨d, hds, hd, S⟩ := hSt
  have hsz2 := st_size hd
  simp only [List.length_append] at hsz2
  by_cases h1A : A.length = 1
  · obtain ⟨x, rfl⟩ := List.length_eq_one_iff.1 h1A
    have h := st_sym_one L enc cf g cb blk off cap a m b d0 d w0 w eg hcmp O R hds.symm S Pr B Sf x (by rw [hd]; simp) sB ha (by simpa using hm) hb (by omega)
    rw [hds] at h
    refine h.mono ?_
    rintro e w' ⟨rfl, d', q1, q2, q3⟩
    exact ⟨rfl, d', q1.trans rfl, q2, q3⟩
  by_cases h1B : B.length = 1
  · obtain ⟨y, rfl⟩ := List.length_eq_one_iff.1 h1B
    have h := st_sym_two L enc cf g cb blk off cap a m b d0 d w0 w eg hcmp O R hds.symm S Pr A Sf y (by rw [hd]; simp) sA ha hm (by simpa using hb) h1A (by omega)
    rw [hds] at h
    refine h.mono ?_
    rintro e w' ⟨rfl, d', q1, q2, q3⟩
    exact ⟨rfl, d', q1.trans rfl, q2, q3⟩
  have mixed := L.mixed; have t0 := L.t0; have a0 := L.a0; have z0 := L.z0; have v0 := L.v0; have t3 := L.t3; have a3 := L.a3; have z3 := L.z3; have v3 := L.v3; have t4 := L.t4; have a4 := L.a4; have z4 := L.z4; have v4 := L.v4; have t36 := L.t36; have a36 := L.a36; have z36 := L.z36; have v36 := L.v36; have t64 := L.t64; have a64 := L.a64; have z64 := L.z64; have v64 := L.v64; have t92 := L.t92; have a92 := L.a92; have z92 := L.z92; have v92 := L.v92; have aE := L.aE; have zE := L.zE
  have FG := L.f74
  have HC : Aside _ := hcmp
  have S0 : Aside (SWK enc k w0 blk off d w) := S
  have HD : Aside0 (d.toList = Pr ++ A ++ B ++ Sf) := ⟨hd⟩
  have HZ : Aside0 (d.size = Pr.length + A.length + B.length + Sf.length ∧ a = Pr.length ∧ m = a + A.length ∧ b = m + B.length ∧ d.size = d0.size ∧ b - a ≤ N + 1) := ⟨hsz2, ha, hm, hb, hds, hN⟩
  obtain ⟨mid, hmid⟩ : ∃ mid, mid = (a + b) / 2 := ⟨_, rfl⟩
  have hbn : a + 2 ≤ m ∧ m + 2 ≤ b ∧ b ≤ d0.size ∧ a < mid ∧ mid < b := by omega
  have n1 : ¬ (m : Int) - (a : Int) = 1 := by omega
  have n1b : ((m : Int) - (a : Int) == 1) = false := beq_eq_false_iff_ne.mpr n1
  have n2 : ¬ (b : Int) - (m : Int) = 1 := by omega
  have n2b : ((b : Int) - (m : Int) == 1) = false := beq_eq_false_iff_ne.mpr n2
  have cm : ((a : Int) + (b : Int)) / 2 = (mid : Int) := by omega
  have E82 := L.enter82
  have E74 := L.enter74
  have HMID := Aside0.mk hmid
  have SA := Aside0.mk sA
  have SB := Aside0.mk sB
  have hlh : m > mid ∧ mid + m - b = mid + m - b ∧ mid = mid ∨ m ≤ mid := by omega
  have HZA := Aside0.mk (⟨hA, hB⟩ : 0 < A.length ∧ 0 < B.length)
  have IH := Aside0.mk ih
  clear S hd hsz2 ha hm hb sA sB hmid hds hN ih h1A h1B hA hB hlh
  by_cases hmm : mid < m
  · have hmz : (mid : Int) < (m : Int) := by omega
    have hmz2 : (m : Int) > (mid : Int) := by omega
    obtain ⟨lo, hlo⟩ : ∃ lo, lo = mid + m - b := ⟨_, rfl⟩
    obtain ⟨hi, hhi⟩ : ∃ hi, hi = mid := ⟨_, rfl⟩
    have clo : (mid : Int) + (m : Int) - (b : Int) = (lo : Int) := by have := HMID.out; omega
    have hr : ∀ c, lo ≤ c → c < hi → a ≤ c ∧ c < m ∧ m ≤ mid + m - 1 - c ∧ mid + m - 1 - c < b := fun c h1 h2 => by have := HMID.out; omega
    have hlh2 : lo ≤ hi := by have := HMID.out; omega
    have HLH := Aside0.mk (show m > mid ∧ lo = mid + m - b ∧ hi = mid ∨ m ≤ mid ∧ lo = a ∧ hi = m from Or.inl ⟨hmm, hlo, hhi⟩)
    have HM := Aside0.mk (st_sym_mono (lt := ltOf cf) O HD.out SA.out SB.out a m b (mid + m) lo hi HZ.out.2.1 HZ.out.2.2.1 HZ.out.2.2.2.1 hr)
    have HR := Aside0.mk hr
    have HLO := Aside0.mk hlo
    have HHI := Aside0.mk hhi
    clear hr hlo hhi
    go_enter FG, Tryd.ntmps74
    go_wp2
    go_loopg [20, 21, 23] (hi - lo) (fun kx s10 s11 s12 wr => ∃ (i j : Nat), s10 = .int .i64 i ∧ s11 = .int .i64 j ∧ j - i ≤ kx ∧ lo ≤ i ∧ i ≤ j ∧ j ≤ hi ∧ Aside0 (StCut (fun c => !ltOf cf d[mid + m - 1 - c]! d[c]!) lo hi i j) ∧ Aside (SWK enc k w0 blk off d wr))
    case atStart => exact ⟨lo, hi, by first | rfl | rw [clo], by rw [HHI.out], Nat.le_refl _, Nat.le_refl _, hlh2, Nat.le_refl _, ⟨StCut.start _ _ _ hlh2⟩, S0⟩
    case round =>
      clear S0
      obtain ⟨i, j, rfl, rfl, hk, h1, h2, h3, HT, S1⟩ := hrel
      have hds := HZ.out.2.2.2.2.1
      by_cases hlt : i < j
      · have hltz : (i : Int) < (j : Int) := by omega
        obtain ⟨h, hh⟩ : ∃ h, h = (i + j) / 2 := ⟨_, rfl⟩
        have ch : ((i : Int) + (j : Int)) / 2 = (h : Int) := by omega
        have h4 : i ≤ h ∧ h < j := by omega
        clear hh
        have hrh := HR.out h (by omega) (by omega)
        obtain ⟨q, hq⟩ : ∃ q, q = mid + m - 1 - h := ⟨_, rfl⟩
        have cq : (mid : Int) + (m : Int) - 1 - (h : Int) = (q : Int) := by omega
        rw [← hq] at hrh
        have hjb : j ≤ m := by have := HR.out (j - 1) (by omega) (by omega); omega
        have ea24 : ((h : Int)).toNat = h := by omega
        have pa24 : (0 : Int) ≤ (h : Int) := by omega
        have ba24 : (h : Int) < (d0.size : Int) := by omega
        have ra24 : IntKind.i64.wrap ((h : Int)) = (h : Int) := by rw [IntKind.wrap_i64]; omega
        have ec24 : ((q : Int)).toNat = q := by omega
        have pc24 : (0 : Int) ≤ (q : Int) := by omega
        have bc24 : (q : Int) < (d0.size : Int) := by omega
        have rc24 : IntKind.i64.wrap ((q : Int)) = (q : Int) := by rw [IntKind.wrap_i64]; omega
        obtain ⟨x24, hx24⟩ : ∃ y, y = d[h]! := ⟨_, rfl⟩
        obtain ⟨y24, hy24⟩ : ∃ y, y = d[q]! := ⟨_, rfl⟩
        have l24a := S1.out.ld R hds P h (by omega)
        have l24b := S1.out.ld R hds P q (by omega)
        rw [← hx24] at l24a
        rw [← hy24] at l24b
        have hc24 := S1.out.cmp HC.out hds y24 x24
        have HX24 := Aside0.mk (show (!ltOf cf d[mid + m - 1 - h]! d[h]!) = !ltOf cf y24 x24 by rw [hx24, hy24, ← hq])
        clear hx24 hy24 hq hds
        have cq2 : (q : Int) = (mid : Int) + (m : Int) - 1 - (h : Int) := cq.symm
        have CQ2 := Aside0.mk cq2
        clear cq2
        cases hL : ltOf cf y24 x24 with
        | true =>
          have hv24 : cf y24 x24 < 0 := of_decide_eq_true hL
          have hd24 : decide (cf y24 x24 < 0) = true := decide_eq_true hv24
          have HT2 := Aside0.mk (HT.out.down HM.out h4.1 h4.2 (by show (!ltOf cf d[mid + m - 1 - h]! d[h]!) = false; rw [HX24.out, hL]; rfl))
          clear hL
          go_wp2_with fail
          go_quiet_grown (first | (go_at_fn g; refine Calls.grown_of (hc24 _ _)))
          have S2 : Aside (SWK enc k w0 blk off d (Go.Sort.grow (wr.drewN nq) osq)) := S1.out.grown nq osq
          clear l24a l24b hc24 S1
          generalize Go.Sort.grow (wr.drewN nq) osq = w2 at S2 ⊢
          clear nq osq
          go_wp2
          go_roundg (h - i)
          case measure => omega
          case rel => exact ⟨i, h, rfl, rfl, Nat.le_refl _, by omega, by omega, by omega, HT2, S2⟩
        | false =>
          have hv24 : ¬ cf y24 x24 < 0 := of_decide_eq_false hL
          have hd24 : decide (cf y24 x24 < 0) = false := decide_eq_false hv24
          have HT2 := Aside0.mk (HT.out.up HM.out h4.1 h4.2 (by show (!ltOf cf d[mid + m - 1 - h]! d[h]!) = true; rw [HX24.out, hL]; rfl))
          clear hL
          go_wp2_with fail
          go_quiet_grown (first | (go_at_fn g; refine Calls.grown_of (hc24 _ _)))
          have S2 : Aside (SWK enc k w0 blk off d (Go.Sort.grow (wr.drewN nq) osq)) := S1.out.grown nq osq
          clear l24a l24b hc24 S1
          generalize Go.Sort.grow (wr.drewN nq) osq = w2 at S2 ⊢
          clear nq osq
          go_wp2
          go_roundg (j - (h + 1))
          case measure => omega
          case rel => exact ⟨h + 1, j, by first | rfl | go_num, rfl, Nat.le_refl _, by omega, by omega, by omega, HT2, S2⟩
      · have hltz : ¬ (i : Int) < (j : Int) := by omega
        obtain rfl : i = j := by omega
        have hz := HZ.out
        have hend := st_sym_end (lt := ltOf cf) O HD.out SA.out SB.out a m b mid lo hi i hz.2.1 hz.2.2.1 hz.2.2.2.1 HMID.out HZA.out.1 HZA.out.2 HLH.out HT.out
        obtain ⟨A1, hA1⟩ : ∃ l, l = A.take (i - a) := ⟨_, rfl⟩
        obtain ⟨A2, hA2⟩ : ∃ l, l = A.drop (i - a) := ⟨_, rfl⟩
        obtain ⟨B1, hB1⟩ : ∃ l, l = B.take (mid - i) := ⟨_, rfl⟩
        obtain ⟨B2, hB2⟩ : ∃ l, l = B.drop (mid - i) := ⟨_, rfl⟩
        rw [← hA1, ← hA2, ← hB1, ← hB2] at hend
        have sA1 : StSorted (ltOf cf) A1 := by rw [hA1]; exact List.Pairwise.sublist (List.take_sublist _ _) SA.out
        have sA2 : StSorted (ltOf cf) A2 := by rw [hA2]; exact List.Pairwise.sublist (List.drop_sublist _ _) SA.out
        have sB1 : StSorted (ltOf cf) B1 := by rw [hB1]; exact List.Pairwise.sublist (List.take_sublist _ _) SB.out
        have sB2 : StSorted (ltOf cf) B2 := by rw [hB2]; exact List.Pairwise.sublist (List.drop_sublist _ _) SB.out
        obtain ⟨g1, g2, g3, g4, g5, hmrg⟩ := hend
        have lA1 : A1.length = i - a := by rw [hA1, List.length_take]; omega
        have lA2 : A2.length = m - i := by rw [hA2, List.length_drop]; omega
        have lB1 : B1.length = mid - i := by rw [hB1, List.length_take]; omega
        have lB2 : B2.length = b - (mid + m - i) := by rw [hB2, List.length_drop]; omega
        have eA : A1 ++ A2 = A := by rw [hA1, hA2, List.take_append_drop]
        have eB : B1 ++ B2 = B := by rw [hB1, hB2, List.take_append_drop]
        obtain ⟨e', he'⟩ : ∃ e', e' = mid + m - i := ⟨_, rfl⟩
        have ce : (mid : Int) + (m : Int) - (i : Int) = (e' : Int) := by omega
        rw [← he'] at g4 g5 lB2
        have hPr := hz.2.1
        have hmrgl := stMrg_length (ltOf cf) A1 B1
        -- the three steps
        have HS0 : Aside0 (StAt enc k w0 blk off d0.size (Pr ++ A1 ++ A2 ++ B1 ++ B2 ++ Sf) wr) := ⟨d, hz.2.2.2.2.1, by rw [HD.out, ← eA, ← eB]; simp only [List.append_assoc], S1.out⟩
        have HCR : Aside0 (i < m ∧ m < e' → ∀ W, StAt enc k w0 blk off d0.size (Pr ++ A1 ++ A2 ++ B1 ++ B2 ++ Sf) W → Calls P 82 #[.slice (some ⟨blk, off, none⟩) d0.size cap, .int .i64 i, .int .i64 m, .int .i64 e', .func (.func g) #[] cb] W fun e w' => e = .returned (.tuple #[]) ∧ StAt enc k w0 blk off d0.size (Pr ++ A1 ++ B1 ++ A2 ++ B2 ++ Sf) w') := ⟨fun hc W hW => by
          obtain ⟨dk, q1, q2, q3⟩ := hW
          have h := st_rotate L enc g cb blk off cap i m e' d0 dk w0 W R q1.symm q3 (Pr ++ A1) A2 B1 (B2 ++ Sf) (by rw [q2]; simp only [List.append_assoc]) (by simp; omega) (by omega) (by omega) (by omega) (by omega) (by omega)
          rw [q1] at h
          refine h.mono ?_
          rintro e w' ⟨rfl, d', p1, p2, p3⟩
          exact ⟨rfl, d', p1, by rw [p2]; simp only [List.append_assoc], p3⟩⟩
        have HNR : Aside0 (¬ (i < m ∧ m < e') → ∀ W, StAt enc k w0 blk off d0.size (Pr ++ A1 ++ A2 ++ B1 ++ B2 ++ Sf) W → StAt enc k w0 blk off d0.size (Pr ++ A1 ++ B1 ++ A2 ++ B2 ++ Sf) W) := ⟨fun hc W hW => by
          have hor : A2 = [] ∨ B1 = [] := by
            rcases Nat.lt_or_ge i m with hx | hx
            · exact Or.inr (List.length_eq_zero_iff.1 (by omega))
            · exact Or.inl (List.length_eq_zero_iff.1 (by omega))
          obtain ⟨dk, q1, q2, q3⟩ := hW
          refine ⟨dk, q1, ?_, q3⟩
          rw [q2]
          rcases hor with hx | hx <;> rw [hx] <;> simp only [List.append_assoc, List.append_nil]⟩
        have HCA : Aside0 (a < i ∧ i < mid → ∀ W, StAt enc k w0 blk off d0.size (Pr ++ A1 ++ B1 ++ A2 ++ B2 ++ Sf) W → Calls P 74 #[.slice (some ⟨blk, off, none⟩) d0.size cap, .int .i64 a, .int .i64 i, .int .i64 mid, .func (.func g) #[] cb] W fun e w' => e = .returned (.tuple #[]) ∧ StAt enc k w0 blk off d0.size (Pr ++ stMrg (ltOf cf) A1 B1 ++ A2 ++ B2 ++ Sf) w') := ⟨fun hc W hW => by
          have h := IH.out a i mid W Pr A1 B1 (A2 ++ B2 ++ Sf) (by omega) (by simpa only [List.append_assoc] using hW) sA1 sB1 hPr (by omega) (by omega) (by omega) (by omega)
          simpa only [List.append_assoc] using h⟩
        have HNA : Aside0 (¬ (a < i ∧ i < mid) → ∀ W, StAt enc k w0 blk off d0.size (Pr ++ A1 ++ B1 ++ A2 ++ B2 ++ Sf) W → StAt enc k w0 blk off d0.size (Pr ++ stMrg (ltOf cf) A1 B1 ++ A2 ++ B2 ++ Sf) W) := ⟨fun hc W hW => by
          have hor : A1 = [] ∨ B1 = [] := by
            rcases Nat.lt_or_ge a i with hx | hx
            · exact Or.inr (List.length_eq_zero_iff.1 (by omega))
            · exact Or.inl (List.length_eq_zero_iff.1 (by omega))
          rw [st_nil2 A1 B1 hor]
          simpa only [List.append_assoc] using hW⟩
        have HCB : Aside0 (mid < e' ∧ e' < b → ∀ W, StAt enc k w0 blk off d0.size (Pr ++ stMrg (ltOf cf) A1 B1 ++ A2 ++ B2 ++ Sf) W → Calls P 74 #[.slice (some ⟨blk, off, none⟩) d0.size cap, .int .i64 mid, .int .i64 e', .int .i64 b, .func (.func g) #[] cb] W fun e w' => e = .returned (.tuple #[]) ∧ StAt enc k w0 blk off d0.size (Pr ++ stMrg (ltOf cf) A1 B1 ++ stMrg (ltOf cf) A2 B2 ++ Sf) w') := ⟨fun hc W hW =>
          IH.out mid e' b W (Pr ++ stMrg (ltOf cf) A1 B1) A2 B2 Sf (by omega) hW sA2 sB2 (by rw [List.length_append]; omega) (by omega) (by omega) (by omega) (by omega)⟩
        have HNB : Aside0 (¬ (mid < e' ∧ e' < b) → ∀ W, StAt enc k w0 blk off d0.size (Pr ++ stMrg (ltOf cf) A1 B1 ++ A2 ++ B2 ++ Sf) W → StAt enc k w0 blk off d0.size (Pr ++ stMrg (ltOf cf) A1 B1 ++ stMrg (ltOf cf) A2 B2 ++ Sf) W) := ⟨fun hc W hW => by
          have hor : A2 = [] ∨ B2 = [] := by
            rcases Nat.lt_or_ge mid e' with hx | hx
            · exact Or.inr (List.length_eq_zero_iff.1 (by omega))
            · exact Or.inl (List.length_eq_zero_iff.1 (by omega))
          rw [st_nil2 A2 B2 hor]
          simpa only [List.append_assoc] using hW⟩
        have HMRG := Aside0.mk hmrg
        clear hmrg hmrgl hPr he' eA eB lA1 lA2 lB1 lB2 sA1 sA2 sB1 sB2 hA1 hA2 hB1 hB2 g1 g2 g3 g4 g5 hz S1 hds
        by_cases c1 : i < m ∧ m < e'
        · have z1 : (i : Int) < (m : Int) ∧ (m : Int) < (e' : Int) := by omega
          by_cases c2 : a < i ∧ i < mid
          · have z2 : (a : Int) < (i : Int) ∧ (i : Int) < (mid : Int) := by omega
            by_cases c3 : mid < e' ∧ e' < b
            · have z3 : (mid : Int) < (e' : Int) ∧ (e' : Int) < (b : Int) := by omega
              clear HC HM HR HT
              have s1 := z1.1; have s1b := z1.2
              have s2 := z2.1; have s2b := z2.2
              have s3 := z3.1; have s3b := z3.2
              clear z1 z2 z3
              go_wp2_with (first | (go_at_fn 82; refine (HCR.out c1 _ HS0.out).mono ?_; rintro e w1 ⟨rfl, hs1⟩; have HS1 := Aside0.mk hs1; clear hs1) | (go_at_fn 74; refine (HCA.out c2 _ HS1.out).mono ?_; rintro e w2 ⟨rfl, hs2⟩; have HS2 := Aside0.mk hs2; clear hs2) | (go_at_fn 74; refine (HCB.out c3 _ HS2.out).mono ?_; rintro e w3 ⟨rfl, hs3⟩; have HS3 := Aside0.mk hs3; clear hs3))
              go_end0
              exact ⟨rfl, by rw [HMRG.out]; simpa only [List.append_assoc] using HS3.out⟩
            · have z3 : ¬ ((mid : Int) < (e' : Int) ∧ (e' : Int) < (b : Int)) := by omega
              clear HC HM HR HT
              have s1 := z1.1; have s1b := z1.2
              have s2 := z2.1; have s2b := z2.2
              rcases (show ¬ ((mid : Int) < (e' : Int)) ∨ (((mid : Int) < (e' : Int)) ∧ ¬ ((e' : Int) < (b : Int))) by omega) with s3 | ⟨s3, s3b⟩
              all_goals clear z1 z2 z3
              all_goals (go_wp2_with (first | (go_at_fn 82; refine (HCR.out c1 _ HS0.out).mono ?_; rintro e w1 ⟨rfl, hs1⟩; have HS1 := Aside0.mk hs1; clear hs1) | (go_at_fn 74; refine (HCA.out c2 _ HS1.out).mono ?_; rintro e w2 ⟨rfl, hs2⟩; have HS2 := Aside0.mk hs2; clear hs2; have HS3 := Aside0.mk (HNB.out c3 _ HS2.out))); try (go_end0; exact ⟨rfl, by rw [HMRG.out]; simpa only [List.append_assoc] using HS3.out⟩))
          · have z2 : ¬ ((a : Int) < (i : Int) ∧ (i : Int) < (mid : Int)) := by omega
            by_cases c3 : mid < e' ∧ e' < b
            · have z3 : (mid : Int) < (e' : Int) ∧ (e' : Int) < (b : Int) := by omega
              clear HC HM HR HT
              have s1 := z1.1; have s1b := z1.2
              have s3 := z3.1; have s3b := z3.2
              rcases (show ¬ ((a : Int) < (i : Int)) ∨ (((a : Int) < (i : Int)) ∧ ¬ ((i : Int) < (mid : Int))) by omega) with s2 | ⟨s2, s2b⟩
              all_goals clear z1 z2 z3
              all_goals (go_wp2_with (first | (go_at_fn 82; refine (HCR.out c1 _ HS0.out).mono ?_; rintro e w1 ⟨rfl, hs1⟩; have HS1 := Aside0.mk hs1; clear hs1; have HS2 := Aside0.mk (HNA.out c2 _ HS1.out)) | (go_at_fn 74; refine (HCB.out c3 _ HS2.out).mono ?_; rintro e w3 ⟨rfl, hs3⟩; have HS3 := Aside0.mk hs3; clear hs3)); try (go_end0; exact ⟨rfl, by rw [HMRG.out]; simpa only [List.append_assoc] using HS3.out⟩))
            · have z3 : ¬ ((mid : Int) < (e' : Int) ∧ (e' : Int) < (b : Int)) := by omega
              clear HC HM HR HT
              have s1 := z1.1; have s1b := z1.2
              rcases (show ¬ ((a : Int) < (i : Int)) ∨ (((a : Int) < (i : Int)) ∧ ¬ ((i : Int) < (mid : Int))) by omega) with s2 | ⟨s2, s2b⟩
              all_goals (rcases (show ¬ ((mid : Int) < (e' : Int)) ∨ (((mid : Int) < (e' : Int)) ∧ ¬ ((e' : Int) < (b : Int))) by omega) with s3 | ⟨s3, s3b⟩)
              all_goals clear z1 z2 z3
              all_goals (go_wp2_with (first | (go_at_fn 82; refine (HCR.out c1 _ HS0.out).mono ?_; rintro e w1 ⟨rfl, hs1⟩; have HS1 := Aside0.mk hs1; clear hs1; have HS2 := Aside0.mk (HNA.out c2 _ HS1.out); have HS3 := Aside0.mk (HNB.out c3 _ HS2.out))); try (go_end0; exact ⟨rfl, by rw [HMRG.out]; simpa only [List.append_assoc] using HS3.out⟩))
        · have z1 : ¬ ((i : Int) < (m : Int) ∧ (m : Int) < (e' : Int)) := by omega
          have HS1 := Aside0.mk (HNR.out c1 _ HS0.out)
          by_cases c2 : a < i ∧ i < mid
          · have z2 : (a : Int) < (i : Int) ∧ (i : Int) < (mid : Int) := by omega
            by_cases c3 : mid < e' ∧ e' < b
            · have z3 : (mid : Int) < (e' : Int) ∧ (e' : Int) < (b : Int) := by omega
              clear HC HM HR HT
              have s2 := z2.1; have s2b := z2.2
              have s3 := z3.1; have s3b := z3.2
              rcases (show ¬ ((i : Int) < (m : Int)) ∨ (((i : Int) < (m : Int)) ∧ ¬ ((m : Int) < (e' : Int))) by omega) with s1 | ⟨s1, s1b⟩
              all_goals clear z1 z2 z3
              all_goals (go_wp2_with (first | (go_at_fn 74; refine (HCA.out c2 _ HS1.out).mono ?_; rintro e w2 ⟨rfl, hs2⟩; have HS2 := Aside0.mk hs2; clear hs2) | (go_at_fn 74; refine (HCB.out c3 _ HS2.out).mono ?_; rintro e w3 ⟨rfl, hs3⟩; have HS3 := Aside0.mk hs3; clear hs3)); try (go_end0; exact ⟨rfl, by rw [HMRG.out]; simpa only [List.append_assoc] using HS3.out⟩))
            · have z3 : ¬ ((mid : Int) < (e' : Int) ∧ (e' : Int) < (b : Int)) := by omega
              clear HC HM HR HT
              have s2 := z2.1; have s2b := z2.2
              rcases (show ¬ ((i : Int) < (m : Int)) ∨ (((i : Int) < (m : Int)) ∧ ¬ ((m : Int) < (e' : Int))) by omega) with s1 | ⟨s1, s1b⟩
              all_goals (rcases (show ¬ ((mid : Int) < (e' : Int)) ∨ (((mid : Int) < (e' : Int)) ∧ ¬ ((e' : Int) < (b : Int))) by omega) with s3 | ⟨s3, s3b⟩)
              all_goals clear z1 z2 z3
              all_goals (go_wp2_with (first | (go_at_fn 74; refine (HCA.out c2 _ HS1.out).mono ?_; rintro e w2 ⟨rfl, hs2⟩; have HS2 := Aside0.mk hs2; clear hs2; have HS3 := Aside0.mk (HNB.out c3 _ HS2.out))); try (go_end0; exact ⟨rfl, by rw [HMRG.out]; simpa only [List.append_assoc] using HS3.out⟩))
          · have z2 : ¬ ((a : Int) < (i : Int) ∧ (i : Int) < (mid : Int)) := by omega
            have HS2 := Aside0.mk (HNA.out c2 _ HS1.out)
            by_cases c3 : mid < e' ∧ e' < b
            · have z3 : (mid : Int) < (e' : Int) ∧ (e' : Int) < (b : Int) := by omega
              clear HC HM HR HT
              have s3 := z3.1; have s3b := z3.2
              rcases (show ¬ ((i : Int) < (m : Int)) ∨ (((i : Int) < (m : Int)) ∧ ¬ ((m : Int) < (e' : Int))) by omega) with s1 | ⟨s1, s1b⟩
              all_goals (rcases (show ¬ ((a : Int) < (i : Int)) ∨ (((a : Int) < (i : Int)) ∧ ¬ ((i : Int) < (mid : Int))) by omega) with s2 | ⟨s2, s2b⟩)
              all_goals clear z1 z2 z3
              all_goals (go_wp2_with (first | (go_at_fn 74; refine (HCB.out c3 _ HS2.out).mono ?_; rintro e w3 ⟨rfl, hs3⟩; have HS3 := Aside0.mk hs3; clear hs3)); try (go_end0; exact ⟨rfl, by rw [HMRG.out]; simpa only [List.append_assoc] using HS3.out⟩))
            · have z3 : ¬ ((mid : Int) < (e' : Int) ∧ (e' : Int) < (b : Int)) := by omega
              have HS3 := Aside0.mk (HNB.out c3 _ HS2.out)
              clear HC HM HR HT
              rcases (show ¬ ((i : Int) < (m : Int)) ∨ (((i : Int) < (m : Int)) ∧ ¬ ((m : Int) < (e' : Int))) by omega) with s1 | ⟨s1, s1b⟩
              all_goals (rcases (show ¬ ((a : Int) < (i : Int)) ∨ (((a : Int) < (i : Int)) ∧ ¬ ((i : Int) < (mid : Int))) by omega) with s2 | ⟨s2, s2b⟩)
              all_goals (rcases (show ¬ ((mid : Int) < (e' : Int)) ∨ (((mid : Int) < (e' : Int)) ∧ ¬ ((e' : Int) < (b : Int))) by omega) with s3 | ⟨s3, s3b⟩)
              all_goals clear z1 z2 z3
              all_goals (go_wp2; try (go_end0; exact ⟨rfl, by rw [HMRG.out]; simpa only [List.append_assoc] using HS3.out⟩))
  · have hmz : ¬ (mid : Int) < (m : Int) := by omega
    have hmz2 : ¬ (m : Int) > (mid : Int) := by omega
    obtain ⟨lo, hlo⟩ : ∃ lo, lo = a := ⟨_, rfl⟩
    obtain ⟨hi, hhi⟩ : ∃ hi, hi = m := ⟨_, rfl⟩
    have hr : ∀ c, lo ≤ c → c < hi → a ≤ c ∧ c < m ∧ m ≤ mid + m - 1 - c ∧ mid + m - 1 - c < b := fun c h1 h2 => by have := HMID.out; omega
    have hlh2 : lo ≤ hi := by have := HMID.out; omega
    have HLH := Aside0.mk (show m > mid ∧ lo = mid + m - b ∧ hi = mid ∨ m ≤ mid ∧ lo = a ∧ hi = m from Or.inr ⟨by omega, hlo, hhi⟩)
    have HM := Aside0.mk (st_sym_mono (lt := ltOf cf) O HD.out SA.out SB.out a m b (mid + m) lo hi HZ.out.2.1 HZ.out.2.2.1 HZ.out.2.2.2.1 hr)
    have HR := Aside0.mk hr
    have HLO := Aside0.mk hlo
    have HHI := Aside0.mk hhi
    clear hr hlo hhi
    go_enter FG, Tryd.ntmps74
    go_wp2
    go_loopg [20, 21, 23] (hi - lo) (fun kx s10 s11 s12 wr => ∃ (i j : Nat), s10 = .int .i64 i ∧ s11 = .int .i64 j ∧ j - i ≤ kx ∧ lo ≤ i ∧ i ≤ j ∧ j ≤ hi ∧ Aside0 (StCut (fun c => !ltOf cf d[mid + m - 1 - c]! d[c]!) lo hi i j) ∧ Aside (SWK enc k w0 blk off d wr))
    case atStart => exact ⟨lo, hi, by rw [HLO.out], by rw [HHI.out], Nat.le_refl _, Nat.le_refl _, hlh2, Nat.le_refl _, ⟨StCut.start _ _ _ hlh2⟩, S0⟩
    case round =>
      clear S0
      obtain ⟨i, j, rfl, rfl, hk, h1, h2, h3, HT, S1⟩ := hrel
      have hds := HZ.out.2.2.2.2.1
      by_cases hlt : i < j
      · have hltz : (i : Int) < (j : Int) := by omega
        obtain ⟨h, hh⟩ : ∃ h, h = (i + j) / 2 := ⟨_, rfl⟩
        have ch : ((i : Int) + (j : Int)) / 2 = (h : Int) := by omega
        have h4 : i ≤ h ∧ h < j := by omega
        clear hh
        have hrh := HR.out h (by omega) (by omega)
        obtain ⟨q, hq⟩ : ∃ q, q = mid + m - 1 - h := ⟨_, rfl⟩
        have cq : (mid : Int) + (m : Int) - 1 - (h : Int) = (q : Int) := by omega
        rw [← hq] at hrh
        have hjb : j ≤ m := by have := HR.out (j - 1) (by omega) (by omega); omega
        have ea24 : ((h : Int)).toNat = h := by omega
        have pa24 : (0 : Int) ≤ (h : Int) := by omega
        have ba24 : (h : Int) < (d0.size : Int) := by omega
        have ra24 : IntKind.i64.wrap ((h : Int)) = (h : Int) := by rw [IntKind.wrap_i64]; omega
        have ec24 : ((q : Int)).toNat = q := by omega
        have pc24 : (0 : Int) ≤ (q : Int) := by omega
        have bc24 : (q : Int) < (d0.size : Int) := by omega
        have rc24 : IntKind.i64.wrap ((q : Int)) = (q : Int) := by rw [IntKind.wrap_i64]; omega
        obtain ⟨x24, hx24⟩ : ∃ y, y = d[h]! := ⟨_, rfl⟩
        obtain ⟨y24, hy24⟩ : ∃ y, y = d[q]! := ⟨_, rfl⟩
        have l24a := S1.out.ld R hds P h (by omega)
        have l24b := S1.out.ld R hds P q (by omega)
        rw [← hx24] at l24a
        rw [← hy24] at l24b
        have hc24 := S1.out.cmp HC.out hds y24 x24
        have HX24 := Aside0.mk (show (!ltOf cf d[mid + m - 1 - h]! d[h]!) = !ltOf cf y24 x24 by rw [hx24, hy24, ← hq])
        clear hx24 hy24 hq hds
        have cq2 : (q : Int) = (mid : Int) + (m : Int) - 1 - (h : Int) := cq.symm
        have CQ2 := Aside0.mk cq2
        clear cq2
        cases hL : ltOf cf y24 x24 with
        | true =>
          have hv24 : cf y24 x24 < 0 := of_decide_eq_true hL
          have hd24 : decide (cf y24 x24 < 0) = true := decide_eq_true hv24
          have HT2 := Aside0.mk (HT.out.down HM.out h4.1 h4.2 (by show (!ltOf cf d[mid + m - 1 - h]! d[h]!) = false; rw [HX24.out, hL]; rfl))
          clear hL
          go_wp2_with fail
          go_quiet_grown (first | (go_at_fn g; refine Calls.grown_of (hc24 _ _)))
          have S2 : Aside (SWK enc k w0 blk off d (Go.Sort.grow (wr.drewN nq) osq)) := S1.out.grown nq osq
          clear l24a l24b hc24 S1
          generalize Go.Sort.grow (wr.drewN nq) osq = w2 at S2 ⊢
          clear nq osq
          go_wp2
          go_roundg (h - i)
          case measure => omega
          case rel => exact ⟨i, h, rfl, rfl, Nat.le_refl _, by omega, by omega, by omega, HT2, S2⟩
        | false =>
          have hv24 : ¬ cf y24 x24 < 0 := of_decide_eq_false hL
          have hd24 : decide (cf y24 x24 < 0) = false := decide_eq_false hv24
          have HT2 := Aside0.mk (HT.out.up HM.out h4.1 h4.2 (by show (!ltOf cf d[mid + m - 1 - h]! d[h]!) = true; rw [HX24.out, hL]; rfl))
          clear hL
          go_wp2_with fail
          go_quiet_grown (first | (go_at_fn g; refine Calls.grown_of (hc24 _ _)))
          have S2 : Aside (SWK enc k w0 blk off d (Go.Sort.grow (wr.drewN nq) osq)) := S1.out.grown nq osq
          clear l24a l24b hc24 S1
          generalize Go.Sort.grow (wr.drewN nq) osq = w2 at S2 ⊢
          clear nq osq
          go_wp2
          go_roundg (j - (h + 1))
          case measure => omega
          case rel => exact ⟨h + 1, j, by first | rfl | go_num, rfl, Nat.le_refl _, by omega, by omega, by omega, HT2, S2⟩
      · have hltz : ¬ (i : Int) < (j : Int) := by omega
        obtain rfl : i = j := by omega
        have hz := HZ.out
        have hend := st_sym_end (lt := ltOf cf) O HD.out SA.out SB.out a m b mid lo hi i hz.2.1 hz.2.2.1 hz.2.2.2.1 HMID.out HZA.out.1 HZA.out.2 HLH.out HT.out
        obtain ⟨A1, hA1⟩ : ∃ l, l = A.take (i - a) := ⟨_, rfl⟩
        obtain ⟨A2, hA2⟩ : ∃ l, l = A.drop (i - a) := ⟨_, rfl⟩
        obtain ⟨B1, hB1⟩ : ∃ l, l = B.take (mid - i) := ⟨_, rfl⟩
        obtain ⟨B2, hB2⟩ : ∃ l, l = B.drop (mid - i) := ⟨_, rfl⟩
        rw [← hA1, ← hA2, ← hB1, ← hB2] at hend
        have sA1 : StSorted (ltOf cf) A1 := by rw [hA1]; exact List.Pairwise.sublist (List.take_sublist _ _) SA.out
        have sA2 : StSorted (ltOf cf) A2 := by rw [hA2]; exact List.Pairwise.sublist (List.drop_sublist _ _) SA.out
        have sB1 : StSorted (ltOf cf) B1 := by rw [hB1]; exact List.Pairwise.sublist (List.take_sublist _ _) SB.out
        have sB2 : StSorted (ltOf cf) B2 := by rw [hB2]; exact List.Pairwise.sublist (List.drop_sublist _ _) SB.out
        obtain ⟨g1, g2, g3, g4, g5, hmrg⟩ := hend
        have lA1 : A1.length = i - a := by rw [hA1, List.length_take]; omega
        have lA2 : A2.length = m - i := by rw [hA2, List.length_drop]; omega
        have lB1 : B1.length = mid - i := by rw [hB1, List.length_take]; omega
        have lB2 : B2.length = b - (mid + m - i) := by rw [hB2, List.length_drop]; omega
        have eA : A1 ++ A2 = A := by rw [hA1, hA2, List.take_append_drop]
        have eB : B1 ++ B2 = B := by rw [hB1, hB2, List.take_append_drop]
        obtain ⟨e', he'⟩ : ∃ e', e' = mid + m - i := ⟨_, rfl⟩
        have ce : (mid : Int) + (m : Int) - (i : Int) = (e' : Int) := by omega
        rw [← he'] at g4 g5 lB2
        have hPr := hz.2.1
        have hmrgl := stMrg_length (ltOf cf) A1 B1
        -- the three steps
        have HS0 : Aside0 (StAt enc k w0 blk off d0.size (Pr ++ A1 ++ A2 ++ B1 ++ B2 ++ Sf) wr) := ⟨d, hz.2.2.2.2.1, by rw [HD.out, ← eA, ← eB]; simp only [List.append_assoc], S1.out⟩
        have HCR : Aside0 (i < m ∧ m < e' → ∀ W, StAt enc k w0 blk off d0.size (Pr ++ A1 ++ A2 ++ B1 ++ B2 ++ Sf) W → Calls P 82 #[.slice (some ⟨blk, off, none⟩) d0.size cap, .int .i64 i, .int .i64 m, .int .i64 e', .func (.func g) #[] cb] W fun e w' => e = .returned (.tuple #[]) ∧ StAt enc k w0 blk off d0.size (Pr ++ A1 ++ B1 ++ A2 ++ B2 ++ Sf) w') := ⟨fun hc W hW => by
          obtain ⟨dk, q1, q2, q3⟩ := hW
          have h := st_rotate L enc g cb blk off cap i m e' d0 dk w0 W R q1.symm q3 (Pr ++ A1) A2 B1 (B2 ++ Sf) (by rw [q2]; simp only [List.append_assoc]) (by simp; omega) (by omega) (by omega) (by omega) (by omega) (by omega)
          rw [q1] at h
          refine h.mono ?_
          rintro e w' ⟨rfl, d', p1, p2, p3⟩
          exact ⟨rfl, d', p1, by rw [p2]; simp only [List.append_assoc], p3⟩⟩
        have HNR : Aside0 (¬ (i < m ∧ m < e') → ∀ W, StAt enc k w0 blk off d0.size (Pr ++ A1 ++ A2 ++ B1 ++ B2 ++ Sf) W → StAt enc k w0 blk off d0.size (Pr ++ A1 ++ B1 ++ A2 ++ B2 ++ Sf) W) := ⟨fun hc W hW => by
          have hor : A2 = [] ∨ B1 = [] := by
            rcases Nat.lt_or_ge i m with hx | hx
            · exact Or.inr (List.length_eq_zero_iff.1 (by omega))
            · exact Or.inl (List.length_eq_zero_iff.1 (by omega))
          obtain ⟨dk, q1, q2, q3⟩ := hW
          refine ⟨dk, q1, ?_, q3⟩
          rw [q2]
          rcases hor with hx | hx <;> rw [hx] <;> simp only [List.append_assoc, List.append_nil]⟩
        have HCA : Aside0 (a < i ∧ i < mid → ∀ W, StAt enc k w0 blk off d0.size (Pr ++ A1 ++ B1 ++ A2 ++ B2 ++ Sf) W → Calls P 74 #[.slice (some ⟨blk, off, none⟩) d0.size cap, .int .i64 a, .int .i64 i, .int .i64 mid, .func (.func g) #[] cb] W fun e w' => e = .returned (.tuple #[]) ∧ StAt enc k w0 blk off d0.size (Pr ++ stMrg (ltOf cf) A1 B1 ++ A2 ++ B2 ++ Sf) w') := ⟨fun hc W hW => by
          have h := IH.out a i mid W Pr A1 B1 (A2 ++ B2 ++ Sf) (by omega) (by simpa only [List.append_assoc] using hW) sA1 sB1 hPr (by omega) (by omega) (by omega) (by omega)
          simpa only [List.append_assoc] using h⟩
        have HNA : Aside0 (¬ (a < i ∧ i < mid) → ∀ W, StAt enc k w0 blk off d0.size (Pr ++ A1 ++ B1 ++ A2 ++ B2 ++ Sf) W → StAt enc k w0 blk off d0.size (Pr ++ stMrg (ltOf cf) A1 B1 ++ A2 ++ B2 ++ Sf) W) := ⟨fun hc W hW => by
          have hor : A1 = [] ∨ B1 = [] := by
            rcases Nat.lt_or_ge a i with hx | hx
            · exact Or.inr (List.length_eq_zero_iff.1 (by omega))
            · exact Or.inl (List.length_eq_zero_iff.1 (by omega))
          rw [st_nil2 A1 B1 hor]
          simpa only [List.append_assoc] using hW⟩
        have HCB : Aside0 (mid < e' ∧ e' < b → ∀ W, StAt enc k w0 blk off d0.size (Pr ++ stMrg (ltOf cf) A1 B1 ++ A2 ++ B2 ++ Sf) W → Calls P 74 #[.slice (some ⟨blk, off, none⟩) d0.size cap, .int .i64 mid, .int .i64 e', .int .i64 b, .func (.func g) #[] cb] W fun e w' => e = .returned (.tuple #[]) ∧ StAt enc k w0 blk off d0.size (Pr ++ stMrg (ltOf cf) A1 B1 ++ stMrg (ltOf cf) A2 B2 ++ Sf) w') := ⟨fun hc W hW =>
          IH.out mid e' b W (Pr ++ stMrg (ltOf cf) A1 B1) A2 B2 Sf (by omega) hW sA2 sB2 (by rw [List.length_append]; omega) (by omega) (by omega) (by omega) (by omega)⟩
        have HNB : Aside0 (¬ (mid < e' ∧ e' < b) → ∀ W, StAt enc k w0 blk off d0.size (Pr ++ stMrg (ltOf cf) A1 B1 ++ A2 ++ B2 ++ Sf) W → StAt enc k w0 blk off d0.size (Pr ++ stMrg (ltOf cf) A1 B1 ++ stMrg (ltOf cf) A2 B2 ++ Sf) W) := ⟨fun hc W hW => by
          have hor : A2 = [] ∨ B2 = [] := by
            rcases Nat.lt_or_ge mid e' with hx | hx
            · exact Or.inr (List.length_eq_zero_iff.1 (by omega))
            · exact Or.inl (List.length_eq_zero_iff.1 (by omega))
          rw [st_nil2 A2 B2 hor]
          simpa only [List.append_assoc] using hW⟩
        have HMRG := Aside0.mk hmrg
        clear hmrg hmrgl hPr he' eA eB lA1 lA2 lB1 lB2 sA1 sA2 sB1 sB2 hA1 hA2 hB1 hB2 g1 g2 g3 g4 g5 hz S1 hds
        by_cases c1 : i < m ∧ m < e'
        · have z1 : (i : Int) < (m : Int) ∧ (m : Int) < (e' : Int) := by omega
          by_cases c2 : a < i ∧ i < mid
          · have z2 : (a : Int) < (i : Int) ∧ (i : Int) < (mid : Int) := by omega
            by_cases c3 : mid < e' ∧ e' < b
            · have z3 : (mid : Int) < (e' : Int) ∧ (e' : Int) < (b : Int) := by omega
              clear HC HM HR HT
              have s1 := z1.1; have s1b := z1.2
              have s2 := z2.1; have s2b := z2.2
              have s3 := z3.1; have s3b := z3.2
              clear z1 z2 z3
              go_wp2_with (first | (go_at_fn 82; refine (HCR.out c1 _ HS0.out).mono ?_; rintro e w1 ⟨rfl, hs1⟩; have HS1 := Aside0.mk hs1; clear hs1) | (go_at_fn 74; refine (HCA.out c2 _ HS1.out).mono ?_; rintro e w2 ⟨rfl, hs2⟩; have HS2 := Aside0.mk hs2; clear hs2) | (go_at_fn 74; refine (HCB.out c3 _ HS2.out).mono ?_; rintro e w3 ⟨rfl, hs3⟩; have HS3 := Aside0.mk hs3; clear hs3))
              go_end0
              exact ⟨rfl, by rw [HMRG.out]; simpa only [List.append_assoc] using HS3.out⟩
            · have z3 : ¬ ((mid : Int) < (e' : Int) ∧ (e' : Int) < (b : Int)) := by omega
              clear HC HM HR HT
              have s1 := z1.1; have s1b := z1.2
              have s2 := z2.1; have s2b := z2.2
              rcases (show ¬ ((mid : Int) < (e' : Int)) ∨ (((mid : Int) < (e' : Int)) ∧ ¬ ((e' : Int) < (b : Int))) by omega) with s3 | ⟨s3, s3b⟩
              all_goals clear z1 z2 z3
              all_goals (go_wp2_with (first | (go_at_fn 82; refine (HCR.out c1 _ HS0.out).mono ?_; rintro e w1 ⟨rfl, hs1⟩; have HS1 := Aside0.mk hs1; clear hs1) | (go_at_fn 74; refine (HCA.out c2 _ HS1.out).mono ?_; rintro e w2 ⟨rfl, hs2⟩; have HS2 := Aside0.mk hs2; clear hs2; have HS3 := Aside0.mk (HNB.out c3 _ HS2.out))); try (go_end0; exact ⟨rfl, by rw [HMRG.out]; simpa only [List.append_assoc] using HS3.out⟩))
          · have z2 : ¬ ((a : Int) < (i : Int) ∧ (i : Int) < (mid : Int)) := by omega
            by_cases c3 : mid < e' ∧ e' < b
            · have z3 : (mid : Int) < (e' : Int) ∧ (e' : Int) < (b : Int) := by omega
              clear HC HM HR HT
              have s1 := z1.1; have s1b := z1.2
              have s3 := z3.1; have s3b := z3.2
              rcases (show ¬ ((a : Int) < (i : Int)) ∨ (((a : Int) < (i : Int)) ∧ ¬ ((i : Int) < (mid : Int))) by omega) with s2 | ⟨s2, s2b⟩
              all_goals clear z1 z2 z3
              all_goals (go_wp2_with (first | (go_at_fn 82; refine (HCR.out c1 _ HS0.out).mono ?_; rintro e w1 ⟨rfl, hs1⟩; have HS1 := Aside0.mk hs1; clear hs1; have HS2 := Aside0.mk (HNA.out c2 _ HS1.out)) | (go_at_fn 74; refine (HCB.out c3 _ HS2.out).mono ?_; rintro e w3 ⟨rfl, hs3⟩; have HS3 := Aside0.mk hs3; clear hs3)); try (go_end0; exact ⟨rfl, by rw [HMRG.out]; simpa only [List.append_assoc] using HS3.out⟩))
            · have z3 : ¬ ((mid : Int) < (e' : Int) ∧ (e' : Int) < (b : Int)) := by omega
              clear HC HM HR HT
              have s1 := z1.1; have s1b := z1.2
              rcases (show ¬ ((a : Int) < (i : Int)) ∨ (((a : Int) < (i : Int)) ∧ ¬ ((i : Int) < (mid : Int))) by omega) with s2 | ⟨s2, s2b⟩
              all_goals (rcases (show ¬ ((mid : Int) < (e' : Int)) ∨ (((mid : Int) < (e' : Int)) ∧ ¬ ((e' : Int) < (b : Int))) by omega) with s3 | ⟨s3, s3b⟩)
              all_goals clear z1 z2 z3
              all_goals (go_wp2_with (first | (go_at_fn 82; refine (HCR.out c1 _ HS0.out).mono ?_; rintro e w1 ⟨rfl, hs1⟩; have HS1 := Aside0.mk hs1; clear hs1; have HS2 := Aside0.mk (HNA.out c2 _ HS1.out); have HS3 := Aside0.mk (HNB.out c3 _ HS2.out))); try (go_end0; exact ⟨rfl, by rw [HMRG.out]; simpa only [List.append_assoc] using HS3.out⟩))
        · have z1 : ¬ ((i : Int) < (m : Int) ∧ (m : Int) < (e' : Int)) := by omega
          have HS1 := Aside0.mk (HNR.out c1 _ HS0.out)
          by_cases c2 : a < i ∧ i < mid
          · have z2 : (a : Int) < (i : Int) ∧ (i : Int) < (mid : Int) := by omega
            by_cases c3 : mid < e' ∧ e' < b
            · have z3 : (mid : Int) < (e' : Int) ∧ (e' : Int) < (b : Int) := by omega
              clear HC HM HR HT
              have s2 := z2.1; have s2b := z2.2
              have s3 := z3.1; have s3b := z3.2
              rcases (show ¬ ((i : Int) < (m : Int)) ∨ (((i : Int) < (m : Int)) ∧ ¬ ((m : Int) < (e' : Int))) by omega) with s1 | ⟨s1, s1b⟩
              all_goals clear z1 z2 z3
              all_goals (go_wp2_with (first | (go_at_fn 74; refine (HCA.out c2 _ HS1.out).mono ?_; rintro e w2 ⟨rfl, hs2⟩; have HS2 := Aside0.mk hs2; clear hs2) | (go_at_fn 74; refine (HCB.out c3 _ HS2.out).mono ?_; rintro e w3 ⟨rfl, hs3⟩; have HS3 := Aside0.mk hs3; clear hs3)); try (go_end0; exact ⟨rfl, by rw [HMRG.out]; simpa only [List.append_assoc] using HS3.out⟩))
            · have z3 : ¬ ((mid : Int) < (e' : Int) ∧ (e' : Int) < (b : Int)) := by omega
              clear HC HM HR HT
              have s2 := z2.1; have s2b := z2.2
              rcases (show ¬ ((i : Int) < (m : Int)) ∨ (((i : Int) < (m : Int)) ∧ ¬ ((m : Int) < (e' : Int))) by omega) with s1 | ⟨s1, s1b⟩
              all_goals (rcases (show ¬ ((mid : Int) < (e' : Int)) ∨ (((mid : Int) < (e' : Int)) ∧ ¬ ((e' : Int) < (b : Int))) by omega) with s3 | ⟨s3, s3b⟩)
              all_goals clear z1 z2 z3
              all_goals (go_wp2_with (first | (go_at_fn 74; refine (HCA.out c2 _ HS1.out).mono ?_; rintro e w2 ⟨rfl, hs2⟩; have HS2 := Aside0.mk hs2; clear hs2; have HS3 := Aside0.mk (HNB.out c3 _ HS2.out))); try (go_end0; exact ⟨rfl, by rw [HMRG.out]; simpa only [List.append_assoc] using HS3.out⟩))
          · have z2 : ¬ ((a : Int) < (i : Int) ∧ (i : Int) < (mid : Int)) := by omega
            have HS2 := Aside0.mk (HNA.out c2 _ HS1.out)
            by_cases c3 : mid < e' ∧ e' < b
            · have z3 : (mid : Int) < (e' : Int) ∧ (e' : Int) < (b : Int) := by omega
              clear HC HM HR HT
              have s3 := z3.1; have s3b := z3.2
              rcases (show ¬ ((i : Int) < (m : Int)) ∨ (((i : Int) < (m : Int)) ∧ ¬ ((m : Int) < (e' : Int))) by omega) with s1 | ⟨s1, s1b⟩
              all_goals (rcases (show ¬ ((a : Int) < (i : Int)) ∨ (((a : Int) < (i : Int)) ∧ ¬ ((i : Int) < (mid : Int))) by omega) with s2 | ⟨s2, s2b⟩)
              all_goals clear z1 z2 z3
              all_goals (go_wp2_with (first | (go_at_fn 74; refine (HCB.out c3 _ HS2.out).mono ?_; rintro e w3 ⟨rfl, hs3⟩; have HS3 := Aside0.mk hs3; clear hs3)); try (go_end0; exact ⟨rfl, by rw [HMRG.out]; simpa only [List.append_assoc] using HS3.out⟩))
            · have z3 : ¬ ((mid : Int) < (e' : Int) ∧ (e' : Int) < (b : Int)) := by omega
              have HS3 := Aside0.mk (HNB.out c3 _ HS2.out)
              clear HC HM HR HT
              rcases (show ¬ ((i : Int) < (m : Int)) ∨ (((i : Int) < (m : Int)) ∧ ¬ ((m : Int) < (e' : Int))) by omega) with s1 | ⟨s1, s1b⟩
              all_goals (rcases (show ¬ ((a : Int) < (i : Int)) ∨ (((a : Int) < (i : Int)) ∧ ¬ ((i : Int) < (mid : Int))) by omega) with s2 | ⟨s2, s2b⟩)
              all_goals (rcases (show ¬ ((mid : Int) < (e' : Int)) ∨ (((mid : Int) < (e' : Int)) ∧ ¬ ((e' : Int) < (b : Int))) by omega) with s3 | ⟨s3, s3b⟩)
              all_goals clear z1 z2 z3
              all_goals (go_wp2; try (go_end0; exact ⟨rfl, by rw [HMRG.out]; simpa only [List.append_assoc] using HS3.out⟩))
end

section
variable {P : Program} {α : Type} [Inhabited α]
/-- What insertionSort does, from a world of the sort's to one. -/
def InsAt (P : Program) {α : Type} [Inhabited α] (enc : α → List Value) (k : Nat) (lt : α → α → Bool) (w0 : World) (blk off n cap g : Nat) (cb : Array Value) : Prop :=
  ∀ (a b : Nat) (Pr X Sf : List α) (W : World), StAt enc k w0 blk off n (Pr ++ X ++ Sf) W → a = Pr.length → b = a + X.length → Calls P 73 #[.slice (some ⟨blk, off, none⟩) n cap, .int .i64 a, .int .i64 b, .func (.func g) #[] cb] W fun e w' => e = .returned (.tuple #[]) ∧ StAt enc k w0 blk off n (Pr ++ stSrt lt X ++ Sf) w'
set_option maxHeartbeats 16000000 in
set_option maxRecDepth 1000000 in
/-- The stable sort sorts, equals in their order. -/
theorem st_stable {k : Nat} (L : StP P k) (enc : α → List Value) (cf : α → α → Int) (g : Nat) (cb : Array Value) (blk off cap : Nat) (d0 : Array α) (w0 : World)
    (eg : ∀ args w, (callFunc g args).run P w = .ok (.enter g args) w) (hcmp : CmpLays P g cb enc k cf blk off d0.size w0) (O : Go.Sort.SWO (ltOf cf))
    (R : RowK enc k w0 blk off d0) (hsz : d0.size < 1152921504606846976) (e73 : ∀ args w, (callFunc 73 args).run P w = .ok (.enter 73 args) w) (hI : InsAt P enc k (ltOf cf) w0 blk off d0.size cap g cb) (w : World) (l0 : List α) (hSt : StAt enc k w0 blk off d0.size l0 w) :
    Calls P 62 #[.slice (some ⟨blk, off, none⟩) d0.size cap, .int .i64 d0.size, .func (.func g) #[] cb] w fun e w' => e = .returned (.tuple #[]) ∧ StAt enc k w0 blk off d0.size (stSrt (ltOf cf) l0) w' := by
  have mixed := L.mixed; have t0 := L.t0; have a0 := L.a0; have z0 := L.z0; have v0 := L.v0; have t3 := L.t3; have a3 := L.a3; have z3 := L.z3; have v3 := L.v3; have t4 := L.t4; have a4 := L.a4; have z4 := L.z4; have v4 := L.v4; have t36 := L.t36; have a36 := L.a36; have z36 := L.z36; have v36 := L.v36; have t64 := L.t64; have a64 := L.a64; have z64 := L.z64; have v64 := L.v64; have aE := L.aE; have zE := L.zE
  have FG := L.f62
  have E74 := L.enter74
  have HI := Aside0.mk hI
  have hn : l0.length = d0.size := by obtain ⟨dk, q1, q2, _⟩ := hSt; rw [← q1, ← q2, Array.length_toList]
  have HS0 := Aside0.mk hSt
  have HN := Aside0.mk hn
  have HM := Aside0.mk (fun (a m b : Nat) (W : World) (Pr A B Sf : List α) => st_sym L enc cf g cb blk off cap d0 w0 eg hcmp O R (by omega) (b - a) a m b W Pr A B Sf (Nat.le_refl _))
  have HO := Aside0.mk O
  clear hI hSt hn hcmp O
  obtain ⟨n, hn⟩ : ∃ n, n = d0.size := ⟨_, rfl⟩
  rw [← hn] at hsz HS0 HI HN HM ⊢
  clear hn
  go_enter FG, Tryd.ntmps62
  go_wp2
  go_loopg [7, 8] n (fun kx s7 s8 wr => ∃ (a : Nat) (D T : List α), s7 = .int .i64 a ∧ s8 = .int .i64 ((a + 20 : Nat) : Int) ∧ n - a ≤ kx ∧ a ≤ n ∧ D.length = a ∧ T.length + a = n ∧ Aside0 (D ++ stChk (ltOf cf) 20 T = stChk (ltOf cf) 20 l0) ∧ Aside0 (StAt enc k w0 blk off n (D ++ T) wr))
  case atStart => exact ⟨0, [], l0, rfl, rfl, by omega, by omega, rfl, by have := HN.out; omega, ⟨rfl⟩, HS0⟩
  case round =>
    clear HS0
    obtain ⟨a, D, T, rfl, rfl, hk, han, hD, hT, HE, HS⟩ := hrel
    have HDT := Aside0.mk (⟨hD, hT⟩ : D.length = a ∧ T.length + a = n)
    clear hD hT
    have c1 : (((a + 20 : Nat) : Int)) = (a : Int) + 20 := by omega
    by_cases hlt : a + 20 ≤ n
    · have hz : (((a + 20 : Nat) : Int)) ≤ (n : Int) := by omega
      have hz2 : (a : Int) + 20 ≤ (n : Int) := by omega
      have HC := Aside0.mk (fun W hW => HI.out a (a + 20) D (T.take 20) (T.drop 20) W hW (by have := HDT.out; omega) (by have := HDT.out; rw [List.length_take]; omega))
      have HS1 := Aside0.mk (show StAt enc k w0 blk off n (D ++ T.take 20 ++ T.drop 20) wr by rw [List.append_assoc, List.take_append_drop]; exact HS.out)
      have ck := HC.out
      rw [c1] at ck
      have HC2 := Aside0.mk ck
      clear HS ck
      go_wp2_with (go_at_fn 73; refine (HC2.out _ HS1.out).mono ?_; rintro e w1 ⟨rfl, hs⟩; have HS2 := Aside0.mk hs; clear hs)
      go_roundg (n - (a + 20))
      case measure => omega
      case rel =>
        have hdt := HDT.out
        refine ⟨a + 20, D ++ stSrt (ltOf cf) (T.take 20), T.drop 20, by first | rfl | (congr 1; omega), by first | rfl | (congr 1; omega), Nat.le_refl _, hlt, ?_, ?_, ⟨?_⟩, HS2⟩
        · rw [List.length_append, stSrt_length, List.length_take]; omega
        · rw [List.length_drop]; omega
        · rw [← HE.out, stChk_step 20 T (by omega) (by omega), List.append_assoc]
    · have hz : ¬ (((a + 20 : Nat) : Int)) ≤ (n : Int) := by omega
      have hz2 : ¬ (a : Int) + 20 ≤ (n : Int) := by omega
      have hdt := HDT.out
      have HC := Aside0.mk (fun W hW => HI.out a n D T [] W hW (by omega) (by omega))
      have HS1 := Aside0.mk (show StAt enc k w0 blk off n (D ++ T ++ []) wr by rw [List.append_nil]; exact HS.out)
      have e20 : D ++ stSrt (ltOf cf) T ++ [] = stChk (ltOf cf) 20 l0 := by rw [List.append_nil, ← HE.out, stChk_short 20 T (by omega)]
      rw [e20] at HC
      clear hdt e20 HS HE
      go_wp2_with (go_at_fn 73; refine (HC.out _ HS1.out).mono ?_; rintro e w1 ⟨rfl, hs⟩; have HS2 := Aside0.mk hs; clear hs)
      go_loopg [6, 7, 8, 9] n (fun kx s6 s7 s8 s9 wr => ∃ (bs : Nat), s6 = .int .i64 bs ∧ n - bs ≤ kx ∧ 20 ≤ bs ∧ bs ≤ 2 * n + 20 ∧ Aside0 (StAt enc k w0 blk off n (stChk (ltOf cf) bs l0) wr))
      case atStart => exact ⟨20, rfl, by omega, Nat.le_refl _, by omega, HS2⟩
      case round =>
        clear HS2 HS1 HC HI
        obtain ⟨bs, rfl, hk2, hbs, hbs2, HS⟩ := hrel
        by_cases hlt2 : bs < n
        · have hz3 : (bs : Int) < (n : Int) := by omega
          go_wp2
          go_loopg [7, 8] n (fun kx s7 s8 wr => ∃ (a : Nat) (D T : List α), s7 = .int .i64 a ∧ s8 = .int .i64 ((a : Int) + 2 * (bs : Int)) ∧ n - a ≤ kx ∧ a ≤ n ∧ D.length = a ∧ T.length + a = n ∧ Aside0 (D ++ stChk (ltOf cf) (2 * bs) T = stChk (ltOf cf) (2 * bs) l0) ∧ Aside0 (StAt enc k w0 blk off n (D ++ stChk (ltOf cf) bs T) wr))
          case atStart => exact ⟨0, [], l0, rfl, by first | rfl | (congr 1; omega), by omega, by omega, rfl, by have := HN.out; omega, ⟨rfl⟩, HS⟩
          case round =>
            clear HS
            obtain ⟨p, D2, T2, rfl, rfl, hk3, hpn, hD2, hT2, HE2, HS⟩ := hrel
            have HDT2 := Aside0.mk (⟨hD2, hT2⟩ : D2.length = p ∧ T2.length + p = n)
            clear hD2 hT2
            by_cases hlt3 : p + 2 * bs ≤ n
            · have hz4 : (p : Int) + 2 * (bs : Int) ≤ (n : Int) := by omega
              have hdt := HDT2.out
              have HC := Aside0.mk (fun W hW => HM.out p (p + bs) (p + 2 * bs) W D2 (stSrt (ltOf cf) (T2.take bs)) (stSrt (ltOf cf) ((T2.drop bs).take bs)) (stChk (ltOf cf) bs (T2.drop (2 * bs))) hW (stSrt_sorted HO.out _) (stSrt_sorted HO.out _) (by omega) (by rw [stSrt_length, List.length_take]; omega) (by rw [stSrt_length, List.length_take, List.length_drop]; omega) (by rw [stSrt_length, List.length_take]; omega) (by rw [stSrt_length, List.length_take, List.length_drop]; omega))
              have HS1 := Aside0.mk (show StAt enc k w0 blk off n (D2 ++ stSrt (ltOf cf) (T2.take bs) ++ stSrt (ltOf cf) ((T2.drop bs).take bs) ++ stChk (ltOf cf) bs (T2.drop (2 * bs))) wr by have h := HS.out; rw [stChk_one_two bs T2 (by omega) (by omega)] at h; simpa only [List.append_assoc] using h)
              have ck := HC.out
              rw [show ((p + bs : Nat) : Int) = (p : Int) + (bs : Int) by omega, show ((p + 2 * bs : Nat) : Int) = (p : Int) + 2 * (bs : Int) by omega] at ck
              have HC2 := Aside0.mk ck
              clear HS ck hdt HC
              go_wp2_with (go_at_fn 74; refine (HC2.out _ HS1.out).mono ?_; rintro e w1 ⟨rfl, hs⟩; have HS2 := Aside0.mk hs; clear hs)
              go_roundg (n - (p + 2 * bs))
              case measure => omega
              case rel =>
                have hdt := HDT2.out
                refine ⟨p + 2 * bs, D2 ++ stMrg (ltOf cf) (stSrt (ltOf cf) (T2.take bs)) (stSrt (ltOf cf) ((T2.drop bs).take bs)), T2.drop (2 * bs), by first | rfl | (congr 1; omega), by first | rfl | (congr 1; omega), Nat.le_refl _, hlt3, ?_, ?_, ⟨?_⟩, HS2⟩
                · rw [List.length_append, stMrg_length, stSrt_length, stSrt_length, List.length_take, List.length_take, List.length_drop]; omega
                · rw [List.length_drop]; omega
                · rw [← HE2.out, stChk_two HO.out bs T2 (by omega) (by omega), List.append_assoc]
            · have hz4 : ¬ (p : Int) + 2 * (bs : Int) ≤ (n : Int) := by omega
              have hdt := HDT2.out
              by_cases hlt4 : p + bs < n
              · have hz5 : (p : Int) + (bs : Int) < (n : Int) := by omega
                have hrest := stChk_rest HO.out bs T2 (by omega) (by omega) (by omega)
                have HC := Aside0.mk (fun W hW => HM.out p (p + bs) n W D2 (stSrt (ltOf cf) (T2.take bs)) (stSrt (ltOf cf) (T2.drop bs)) [] hW (stSrt_sorted HO.out _) (stSrt_sorted HO.out _) (by omega) (by rw [stSrt_length, List.length_take]; omega) (by rw [stSrt_length, List.length_drop]; omega) (by rw [stSrt_length, List.length_take]; omega) (by rw [stSrt_length, List.length_drop]; omega))
                have HS1 := Aside0.mk (show StAt enc k w0 blk off n (D2 ++ stSrt (ltOf cf) (T2.take bs) ++ stSrt (ltOf cf) (T2.drop bs) ++ []) wr by have h := HS.out; rw [hrest.1] at h; simpa only [List.append_assoc, List.append_nil] using h)
                have e21 : D2 ++ stMrg (ltOf cf) (stSrt (ltOf cf) (T2.take bs)) (stSrt (ltOf cf) (T2.drop bs)) ++ [] = stChk (ltOf cf) (2 * bs) l0 := by rw [List.append_nil, ← HE2.out, hrest.2]
                have ck := HC.out
                rw [e21, show ((p + bs : Nat) : Int) = (p : Int) + (bs : Int) by omega] at ck
                have HC2 := Aside0.mk ck
                clear HS ck hdt HC e21 hrest HE2
                go_wp2_with (go_at_fn 74; refine (HC2.out _ HS1.out).mono ?_; rintro e w1 ⟨rfl, hs⟩; have HS2 := Aside0.mk hs; clear hs)
                go_roundg (n - 2 * bs)
                case measure => omega
                case rel => exact ⟨2 * bs, by first | rfl | (congr 1; omega), Nat.le_refl _, by omega, by omega, HS2⟩
              · have hz5 : ¬ (p : Int) + (bs : Int) < (n : Int) := by omega
                have HS2 := Aside0.mk (show StAt enc k w0 blk off n (stChk (ltOf cf) (2 * bs) l0) wr by have h := HS.out; rw [stChk_short bs T2 (by omega), ← stChk_short (2 * bs) T2 (by omega), HE2.out] at h; exact h)
                clear HS hdt HE2
                go_wp2
                go_roundg (n - 2 * bs)
                case measure => omega
                case rel => exact ⟨2 * bs, by first | rfl | (congr 1; omega), Nat.le_refl _, by omega, by omega, HS2⟩
        · have hz3 : ¬ (bs : Int) < (n : Int) := by omega
          go_wp2
          go_end0
          refine ⟨rfl, ?_⟩
          have h := HS.out
          rwa [stChk_short bs l0 (by have := HN.out; omega)] at h
end

end Go.Proofs.YtcajhkbobpakaaaDoor.Q
