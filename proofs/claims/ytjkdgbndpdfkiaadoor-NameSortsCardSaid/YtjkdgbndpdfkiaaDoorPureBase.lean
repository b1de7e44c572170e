/- Names and paths as plain functions of lists of bytes, and what the printed functions answer. -/
import Derived.Test.YtjkdgbndpdfkiaaDoorQ0
import Derived.Test.YtjkdgbndpdfkiaaDoorQ1
import Derived.Test.YtjkdgbndpdfkiaaDoorQ2
import Derived.Test.YtjkdgbndpdfkiaaDoorQ3
import Derived.Test.YtjkdgbndpdfkiaaDoorQ4
import Derived.Test.YtjkdgbndpdfkiaaDoorQ5
import Derived.Test.YtjkdgbndpdfkiaaDoorQ6
import Derived.Test.YtjkdgbndpdfkiaaDoorQ7
import Derived.Test.YtjkdgbndpdfkiaaDoorQ8
import Derived.Test.YtjkdgbndpdfkiaaDoorQ9
namespace Go.Proofs.YtjkdgbndpdfkiaaDoor.Pure
open Go.RowKit Go.Proofs.YtjkdgbndpdfkiaaDoor.Q Go.Proofs.YtjkdgbndpdfkiaaDoorW.PrintWords Go.Proofs.YtjkdgbndpdfkiaaDoorW.PrintLast

theorem wrap_up {i : Int} {n : Nat} (h0 : 0 ≤ i) (h : i ≤ (n : Int)) (hn : n ≤ 140737488351232) : wrap64 (i + 1) = i + 1 := by
  unfold wrap64
  omega
theorem Ev.pos {α : Type} {c : Prop} [Decidable c] {A B : Nat → Option α} {r : α} (h : c) (k : Ev A r) : Ev (fun n => if c then A n else B n) r := by simpa only [if_pos h] using k
theorem Ev.neg {α : Type} {c : Prop} [Decidable c] {A B : Nat → Option α} {r : α} (h : ¬ c) (k : Ev B r) : Ev (fun n => if c then A n else B n) r := by simpa only [if_neg h] using k
theorem Ev.cast {α : Type} {g : Nat → Option α} {r r' : α} (h : r = r') (k : Ev g r) : Ev g r' := h ▸ k
/-- A bind on what is known for every number of rounds. -/
theorem Ev.known {α β : Type} {o : Option α} {f : Nat → α → Option β} {a : α} {r : β} (h : o = some a) (k : Ev (fun n => f n a) r) : Ev (fun n => o.bind (f n)) r := by subst h; exact k
theorem toList_eq (s : ByteArray) : s.toList = s.data.toList := ByteArray.toList_eq s
theorem toList_inj {s t : ByteArray} : s.toList = t.toList ↔ s = t := by
  refine ⟨fun h => ?_, fun h => h ▸ rfl⟩
  rw [toList_eq, toList_eq] at h
  exact ByteArray.ext (Array.toList_inj.1 h)
theorem size_len (s : ByteArray) : s.size = s.data.toList.length := by simp
theorem bt_get (s : ByteArray) (i : Nat) (h : i < s.data.toList.length) : bt s (i : Int) = ((s.data.toList[i]).toNat : Int) := by
  have h' : i < s.size := by simpa using h
  unfold bt
  simp only [Int.toNat_natCast]
  rw [dif_pos h']
  rfl
theorem rdOf_at (l : List ByteArray) (i : Nat) (h : i < l.length) : rdOf ByteArray.empty l (i : Int) = l[i] := by
  unfold rdOf
  simp [List.getD_eq_getElem?_getD, List.getElem?_eq_getElem h]

/-! Names. -/
def wordB (c : UInt8) : Bool := letterB (c.toNat : Int) || digitB (c.toNat : Int)
def headB (c : UInt8) : Bool := letterB (c.toNat : Int)
def vl : List UInt8 → Bool
  | [] => true
  | c :: r => headB c && r.all wordB
theorem validL_on (s : ByteArray) : ∀ (g i : Nat), i + g = s.size → 1 ≤ i → validL s g (i : Int) = (s.data.toList.drop i).all wordB := by
  intro g
  induction g with
  | zero =>
    intro i hi _
    rw [List.drop_of_length_le (by rw [← size_len]; omega)]
    rfl
  | succ g ih =>
    intro i hi h1
    have hlt : i < s.data.toList.length := by rw [← size_len]; omega
    rw [List.drop_eq_getElem_cons hlt, List.all_cons, validL, bt_get s i hlt, show ((i : Int) + 1) = ((i + 1 : Nat) : Int) by omega, ih (i + 1) (by omega) (by omega)]
    have e : ((i : Int) == 0) = false := by simp; omega
    rw [e]
    rfl
theorem validL_all (s : ByteArray) : validL s s.size 0 = vl s.data.toList := by
  have e := size_len s
  cases hl : s.data.toList with
  | nil =>
    rw [hl] at e
    rw [e]
    rfl
  | cons c r =>
    rw [hl] at e
    have hlt : 0 < s.data.toList.length := by rw [hl]; simp
    have h0 : bt s ((0 : Nat) : Int) = (c.toNat : Int) := by
      rw [bt_get s 0 hlt]
      simp [hl]
    have h1 := validL_on s r.length 1 (by rw [e, List.length_cons]; omega) (by omega)
    rw [hl, List.drop_succ_cons, List.drop_zero] at h1
    rw [e, List.length_cons, validL, vl, ← h1]
    rw [show (0 : Int) = ((0 : Nat) : Int) from rfl, h0]
    simp [headB]
def kws : List (List UInt8) := [[102, 110], [99, 108, 97, 115, 115], [99, 111, 110, 115, 116], [108, 101, 116], [114, 101, 116, 117, 114, 110], [105, 102], [101, 108, 115, 101], [119, 104, 105, 108, 101], [110, 101, 119], [115, 101, 108, 102], [116, 114, 117, 101], [102, 97, 108, 115, 101]]
def kw (s : ByteArray) : Bool := decide (s.data.toList ∈ kws)
theorem ite_some (c : Prop) [Decidable c] (b : Bool) : (if c then some true else some b) = some (decide c || b) := by
  by_cases h : c <;> simp [h]
theorem kw_of (s : ByteArray) : name_Keyword.f s = some (kw s) := by
  unfold name_Keyword.f kw
  simp only [toList_eq, ite_some]
  generalize s.data.toList = l
  simp [kws]
theorem beq_dec (l m : List UInt8) : (l == m) = decide (l = m) := by
  by_cases h : l = m <;> simp [h]
theorem rkw_of (s : ByteArray) : treemergeref03_Keyword.f s = some (kw s) := by
  unfold treemergeref03_Keyword.f kw
  simp only [toList_eq, ite_some]
  generalize s.data.toList = l
  simp [kws, beq_dec]
def vS (s : ByteArray) : Bool := decide (s.size ≠ 0) && decide (s.size ≤ 32) && !kw s && vl s.data.toList
theorem valid_of (s : ByteArray) : name_Valid.f s = some (vS s) := by
  unfold name_Valid.f vS
  rw [kw_of, validL_all]
  by_cases h0 : s.size = 0
  · rw [if_pos h0]; simp [h0]
  · rw [if_neg h0]
    by_cases h1 : 32 < s.size
    · rw [if_pos h1]; simp [show ¬ s.size ≤ 32 by omega]
    · rw [if_neg h1]
      cases kw s <;> simp [h0, show s.size ≤ 32 by omega]
theorem rletter_eq (c : Int) : treemergeref03_letter.f c = some (letterB c) := letter_eq c
theorem rdigit_eq (c : Int) : treemergeref03_digit.f c = some (digitB c) := digit_eq c
theorem rvalid_loop (s : ByteArray) (hs : s.size ≤ 140737488351232) : ∀ (m i : Nat), i + m = s.size → Ev (fun k => treemergeref03_Valid.l0 k s (i : Int)) ((s.data.toList.drop i).all wordB) := by
  intro m
  induction m with
  | zero =>
    intro i hi
    refine Ev.step (fun k => by rw [treemergeref03_Valid.l0, if_neg (by omega)]) ?_
    rw [List.drop_of_length_le (by rw [← size_len]; omega)]
    exact Ev.now _
  | succ m ih =>
    intro i hi
    have hlt : i < s.data.toList.length := by rw [← size_len]; omega
    refine Ev.step (fun k => by rw [treemergeref03_Valid.l0, if_pos (by omega), if_pos (by omega), wrap_up (n := s.size) (by omega) (by omega) hs, rletter_eq, rdigit_eq, bt_get s i hlt]) ?_
    rw [List.drop_eq_getElem_cons hlt, List.all_cons, wordB]
    simp only [Option.bind_some]
    cases h1 : letterB ((s.data.toList[i]).toNat : Int) with
    | true => exact ih (i + 1) (by omega)
    | false =>
      cases h2 : digitB ((s.data.toList[i]).toNat : Int) with
      | true => exact ih (i + 1) (by omega)
      | false => exact Ev.now _
theorem digit_letter (c : Int) (h : digitB c = true) : letterB c = false := by
  unfold digitB at h
  unfold letterB
  simp at h ⊢
  omega
theorem rvalid_ev (s : ByteArray) (hs : s.size ≤ 140737488351232) : Ev (fun k => treemergeref03_Valid.f k s) (vS s) := by
  have no : vS s = false → Ev (fun k => treemergeref03_Valid.j0 k s true) (vS s) := fun h => by
    rw [h]
    exact Ev.step (fun k => by rw [treemergeref03_Valid.j0, if_pos rfl]) (Ev.now _)
  unfold treemergeref03_Valid.f
  by_cases h0 : s.size = 0
  · refine Ev.pos (by omega) (no ?_)
    unfold vS; simp [h0]
  refine Ev.neg (by omega) ?_
  by_cases h1 : 32 < s.size
  · refine Ev.pos (by omega) (no ?_)
    unfold vS; simp [show ¬ s.size ≤ 32 by omega]
  refine Ev.neg (by omega) (Ev.pos (by omega) ?_)
  have hlt : 0 < s.data.toList.length := by rw [← size_len]; omega
  refine Ev.known (rdigit_eq _) ?_
  rw [show (0 : Int) = ((0 : Nat) : Int) from rfl, bt_get s 0 hlt]
  obtain ⟨c, r, hl⟩ : ∃ c r, s.data.toList = c :: r := by
    cases h : s.data.toList with
    | nil => rw [h] at hlt; simp at hlt
    | cons c r => exact ⟨c, r, rfl⟩
  have hc : s.data.toList[0] = c := by simp [hl]
  · rw [hc]
    cases hd : digitB (c.toNat : Int) with
    | true =>
      refine no ?_
      unfold vS
      rw [hl, vl, headB, digit_letter _ hd]
      simp
    | false =>
      refine Ev.known (rkw_of s) ?_
      cases hk : kw s with
      | true =>
        refine no ?_
        unfold vS
        rw [hk]
        simp
      | false =>
        refine Ev.step (fun k => by rw [treemergeref03_Valid.j0, if_neg (by decide)]) ?_
        refine Ev.cast ?_ (rvalid_loop s hs s.size 0 (by omega))
        unfold vS
        rw [hk, hl, vl]
        simp [wordB, headB, hd, h0, show s.size ≤ 32 by omega]

/-! Parts and paths. -/
def pcB (c : UInt8) : Bool := partB (c.toNat : Int)
theorem partL_all (s : ByteArray) : ∀ (g i : Nat), i + g = s.size → partL s g (i : Int) = (s.data.toList.drop i).all pcB := by
  intro g
  induction g with
  | zero =>
    intro i hi
    rw [List.drop_of_length_le (by rw [← size_len]; omega)]
    rfl
  | succ g ih =>
    intro i hi
    have hlt : i < s.data.toList.length := by rw [← size_len]; omega
    rw [List.drop_eq_getElem_cons hlt, List.all_cons, partL, bt_get s i hlt, show ((i : Int) + 1) = ((i + 1 : Nat) : Int) by omega, ih (i + 1) (by omega)]
    rfl
def pS (s : ByteArray) : Bool := !decide (s.data.toList = []) && !decide (s.data.toList = [46]) && !decide (s.data.toList = [46, 46]) && s.data.toList.all pcB
theorem part_of (s : ByteArray) : name_part.f s = some (pS s) := by
  unfold name_part.f pS
  have h := partL_all s s.size 0 (by omega)
  rw [List.drop_zero] at h
  rw [show (0 : Int) = ((0 : Nat) : Int) from rfl, h]
  simp only [toList_eq]
  repeat' split
  all_goals simp [*]
theorem rpart_loop (s : ByteArray) (hs : s.size ≤ 140737488351232) : ∀ (m i : Nat), i + m = s.size → Ev (fun k => treemergeref03_part.l0 k s (i : Int)) ((s.data.toList.drop i).all pcB) := by
  intro m
  induction m with
  | zero =>
    intro i hi
    refine Ev.step (fun k => by rw [treemergeref03_part.l0, if_neg (by omega)]) ?_
    rw [List.drop_of_length_le (by rw [← size_len]; omega)]
    exact Ev.now _
  | succ m ih =>
    intro i hi
    have hlt : i < s.data.toList.length := by rw [← size_len]; omega
    refine Ev.step (fun k => by rw [treemergeref03_part.l0, if_pos (by omega), if_pos (by omega), wrap_up (n := s.size) (by omega) (by omega) hs, rletter_eq, rdigit_eq, bt_get s i hlt]) ?_
    rw [List.drop_eq_getElem_cons hlt, List.all_cons, pcB, partB]
    simp only [Option.bind_some]
    cases h1 : letterB ((s.data.toList[i]).toNat : Int) with
    | true => exact ih (i + 1) (by omega)
    | false =>
      cases h2 : digitB ((s.data.toList[i]).toNat : Int) with
      | true => exact ih (i + 1) (by omega)
      | false =>
        by_cases h3 : ((s.data.toList[i]).toNat : Int) = 45
        · simp only [h3, if_true]
          exact ih (i + 1) (by omega)
        · by_cases h4 : ((s.data.toList[i]).toNat : Int) = 46
          · simp only [h4, if_true]
            exact ih (i + 1) (by omega)
          · simp only [if_neg h3, if_neg h4, Bool.false_eq_true, if_false]
            refine Ev.cast ?_ (Ev.now _)
            have e3 : (((s.data.toList[i]).toNat : Int) == 45) = false := beq_eq_false_iff_ne.2 h3
            have e4 : (((s.data.toList[i]).toNat : Int) == 46) = false := beq_eq_false_iff_ne.2 h4
            rw [e3, e4]
            rfl
theorem rpart_ev (s : ByteArray) (hs : s.size ≤ 140737488351232) : Ev (fun k => treemergeref03_part.f k s) (pS s) := by
  have no : pS s = false → Ev (fun k => treemergeref03_part.j0 k s true) (pS s) := fun h => by
    rw [h]
    exact Ev.step (fun k => by rw [treemergeref03_part.j0, if_pos rfl]) (Ev.now _)
  unfold treemergeref03_part.f
  by_cases h0 : s.data.toList = []
  · refine Ev.pos (by rw [toList_eq]; exact h0) (no ?_)
    unfold pS; simp [h0]
  refine Ev.neg (by rw [toList_eq]; exact h0) ?_
  by_cases h1 : s.data.toList = [46]
  · refine Ev.pos (by rw [toList_eq]; exact h1) (no ?_)
    unfold pS; simp [h1]
  refine Ev.neg (by rw [toList_eq]; exact h1) ?_
  by_cases h2 : s.data.toList = [46, 46]
  · rw [toList_eq, h2]
    refine no ?_
    unfold pS; simp [h2]
  have e : (s.toList == ([46, 46] : List UInt8)) = false := by
    rw [toList_eq]
    exact beq_eq_false_iff_ne.2 h2
  rw [e]
  refine Ev.step (fun k => by rw [treemergeref03_part.j0, if_neg (by decide)]) ?_
  refine Ev.cast ?_ (rpart_loop s hs s.size 0 (by omega))
  unfold pS
  simp [h0, h1, h2]
/-- A path from an index on: `a` is where the part began. -/
def pl (s : ByteArray) : Nat → Nat → Nat → Bool
  | 0, a, i => pS (s.extract a i)
  | m + 1, a, i => if bt s (i : Int) = 47 then pS (s.extract a i) && pl s m (i + 1) (i + 1) else pl s m a (i + 1)
theorem path_loop (s : ByteArray) (hs : s.size ≤ 140737488351232) : ∀ (m a i : Nat), i + m = s.size → a ≤ i → Ev (fun k => name_Path.l0 k s (a : Int) (i : Int)) (pl s m a i) := by
  intro m
  induction m with
  | zero =>
    intro a i hi ha
    refine Ev.step (fun k => by rw [name_Path.l0, if_pos (by omega), if_neg (by omega)]) ?_
    refine Ev.step (fun k => by rw [name_Path.j2, if_neg (by decide), if_pos (by omega), if_pos (by omega), if_pos (by omega), part_of, Option.bind_some, wrap_up (n := s.size) (by omega) (by omega) hs]) ?_
    rw [pl, Int.toNat_natCast, Int.toNat_natCast]
    cases h : pS (s.extract a i) with
    | false => exact Ev.now _
    | true => exact Ev.step (fun k => by rw [if_pos rfl, name_Path.l0, if_neg (by omega)]) (Ev.now _)
  | succ m ih =>
    intro a i hi ha
    refine Ev.step (fun k => by rw [name_Path.l0, if_pos (by omega), if_pos (by omega), if_pos (by omega)]) ?_
    refine Ev.step (fun k => by rw [name_Path.j2, if_pos (show 0 ≤ (a : Int) by omega), if_pos (show (a : Int) ≤ (i : Int) by omega), if_pos (show (i : Int) ≤ (s.size : Int) by omega), part_of, Option.bind_some, wrap_up (n := s.size) (by omega) (by omega) hs]) ?_
    rw [pl, Int.toNat_natCast, Int.toNat_natCast]
    by_cases h : bt s (i : Int) = 47
    · rw [if_pos h]
      have e : (bt s (i : Int) != 47) = false := by simp [h]
      rw [e]
      refine Ev.neg (by decide) ?_
      cases h' : pS (s.extract a i) with
      | false => exact Ev.now _
      | true => exact ih (i + 1) (i + 1) (by omega) (by omega)
    · rw [if_neg h]
      have e : (bt s (i : Int) != 47) = true := by simp [h]
      rw [e]
      exact ih a (i + 1) (by omega) (by omega)
theorem rpath_loop (s : ByteArray) (hs : s.size ≤ 140737488351232) : ∀ (m a i : Nat), i + m = s.size → a ≤ i → Ev (fun k => treemergeref03_Path.l0 k s (a : Int) (i : Int)) (pl s m a i) := by
  intro m
  induction m with
  | zero =>
    intro a i hi ha
    refine Ev.step (fun k => by rw [treemergeref03_Path.l0, if_neg (by omega), if_pos (by omega), if_pos (by omega)]) ?_
    have hi' : i = s.size := by omega
    rw [pl, Int.toNat_natCast, hi']
    refine (rpart_ev _ ?_).bind (Ev.now _)
    simp; omega
  | succ m ih =>
    intro a i hi ha
    refine Ev.step (fun k => by rw [treemergeref03_Path.l0, if_pos (by omega), if_pos (by omega), if_pos (show 0 ≤ (a : Int) by omega), if_pos (show (a : Int) ≤ (i : Int) by omega), if_pos (show (i : Int) ≤ (s.size : Int) by omega), wrap_up (n := s.size) (by omega) (by omega) hs]) ?_
    rw [pl, Int.toNat_natCast, Int.toNat_natCast]
    by_cases h : bt s (i : Int) = 47
    · rw [if_pos h]
      refine Ev.pos h ((rpart_ev _ (by simp; omega)).bind ?_)
      cases h' : pS (s.extract a i) with
      | false => exact Ev.now _
      | true => exact ih (i + 1) (i + 1) (by omega) (by omega)
    · rw [if_neg h]
      exact Ev.neg h (ih a (i + 1) (by omega) (by omega))
def pathS (s : ByteArray) : Bool := decide (s.size ≠ 0) && decide (s.size ≤ 64) && pl s s.size 0 0
theorem path_ev (s : ByteArray) (hs : s.size ≤ 140737488351232) : Ev (fun k => name_Path.f k s) (pathS s) := by
  unfold name_Path.f
  by_cases h0 : s.size = 0
  · refine Ev.pos (by rw [toList_eq]; exact List.eq_nil_of_length_eq_zero (by rw [← size_len]; exact h0)) ?_
    refine Ev.step (fun k => by rw [name_Path.j0, if_pos rfl]) ?_
    unfold pathS; simp only [h0]
    exact Ev.now _
  · refine Ev.neg (fun h => h0 (by rw [size_len, ← toList_eq, h]; rfl)) ?_
    by_cases h1 : s.size ≤ 64
    · refine Ev.step (fun k => by rw [name_Path.j0, if_neg (by simp; omega)]) ?_
      refine Ev.cast ?_ (path_loop s hs s.size 0 0 (by omega) (by omega))
      unfold pathS; simp [h0, h1]
    · refine Ev.step (fun k => by rw [name_Path.j0, if_pos (by simp; omega)]) ?_
      unfold pathS; simp only [h1]
      simp
      exact Ev.now _
theorem rpath_ev (s : ByteArray) (hs : s.size ≤ 140737488351232) : Ev (fun k => treemergeref03_Path.f k s) (pathS s) := by
  unfold treemergeref03_Path.f
  by_cases h0 : s.size = 0
  · refine Ev.pos (by omega) ?_
    refine Ev.step (fun k => by rw [treemergeref03_Path.j0, if_pos rfl]) ?_
    unfold pathS; simp only [h0]
    exact Ev.now _
  · refine Ev.neg (by omega) ?_
    by_cases h1 : s.size ≤ 64
    · refine Ev.step (fun k => by rw [treemergeref03_Path.j0, if_neg (by simp; omega)]) ?_
      refine Ev.cast ?_ (rpath_loop s hs s.size 0 0 (by omega) (by omega))
      unfold pathS; simp [h0, h1]
    · refine Ev.step (fun k => by rw [treemergeref03_Path.j0, if_pos (by simp; omega)]) ?_
      unfold pathS; simp only [h1]
      simp
      exact Ev.now _
/-- Is a string in a list? -/
def inB (l : List ByteArray) (s : ByteArray) : Bool := l.any fun x => decide (x = s)
theorem inB_iff (l : List ByteArray) (s : ByteArray) : inB l s = true ↔ s ∈ l := by
  unfold inB
  rw [List.any_eq_true]
  constructor
  · rintro ⟨x, hx, h⟩
    exact of_decide_eq_true h ▸ hx
  · intro h
    exact ⟨s, h, by simp⟩
theorem has_loop (l : List ByteArray) (s : ByteArray) (hl : l.length ≤ 140737488351232) : ∀ (m i : Nat), i + m = l.length → Ev (fun k => name_Has.l0 k s l (l.length : Int) (i : Int)) (inB (l.drop i) s) := by
  intro m
  induction m with
  | zero =>
    intro i hi
    refine Ev.step (fun k => by rw [name_Has.l0, if_neg (by omega)]) ?_
    rw [List.drop_of_length_le (by omega)]
    exact Ev.now _
  | succ m ih =>
    intro i hi
    have hlt : i < l.length := by omega
    refine Ev.step (fun k => by rw [name_Has.l0, if_pos (by omega), if_pos (by omega), if_pos (by omega), wrap_up (n := l.length) (by omega) (by omega) hl, rdOf_at l i hlt]) ?_
    rw [List.drop_eq_getElem_cons hlt]
    by_cases h : l[i] = s
    · refine Ev.pos (by rw [h]) ?_
      exact Ev.cast (by simp [inB, h]) (Ev.now _)
    · refine Ev.neg (fun e => h (toList_inj.1 e)) ?_
      refine Ev.cast ?_ (ih (i + 1) (by omega))
      unfold inB
      rw [List.any_cons, decide_eq_false h, Bool.false_or]
theorem has_ev (l : List ByteArray) (s : ByteArray) (hl : l.length ≤ 140737488351232) : Ev (fun k => name_Has.f k l s) (inB l s) := by
  have := has_loop l s hl l.length 0 (by omega)
  simpa [name_Has.f] using this
theorem rhas_loop (l : List ByteArray) (s : ByteArray) (hl : l.length ≤ 140737488351232) : ∀ (m i : Nat), i + m = l.length → Ev (fun k => treemergeref03_Has.l0 k l s (i : Int)) (inB (l.drop i) s) := by
  intro m
  induction m with
  | zero =>
    intro i hi
    refine Ev.step (fun k => by rw [treemergeref03_Has.l0, if_neg (by omega)]) ?_
    rw [List.drop_of_length_le (by omega)]
    exact Ev.now _
  | succ m ih =>
    intro i hi
    have hlt : i < l.length := by omega
    refine Ev.step (fun k => by rw [treemergeref03_Has.l0, if_pos (by omega), if_pos (by omega), wrap_up (n := l.length) (by omega) (by omega) hl, rdOf_at l i hlt]) ?_
    rw [List.drop_eq_getElem_cons hlt]
    by_cases h : l[i] = s
    · refine Ev.pos (by rw [h]) ?_
      exact Ev.cast (by simp [inB, h]) (Ev.now _)
    · refine Ev.neg (fun e => h (toList_inj.1 e)) ?_
      refine Ev.cast ?_ (ih (i + 1) (by omega))
      unfold inB
      rw [List.any_cons, decide_eq_false h, Bool.false_or]
theorem rhas_ev (l : List ByteArray) (s : ByteArray) (hl : l.length ≤ 140737488351232) : Ev (fun k => treemergeref03_Has.f k l s) (inB l s) := by
  have := rhas_loop l s hl l.length 0 (by omega)
  simpa [treemergeref03_Has.f] using this
theorem lhas_loop (l : List ByteArray) (s : ByteArray) (hl : l.length ≤ 140737488351232) : ∀ (m i : Nat), i + m = l.length → Ev (fun k => treemergelaw03_has.l0 k l s (i : Int)) (inB (l.drop i) s) := by
  intro m
  induction m with
  | zero =>
    intro i hi
    refine Ev.step (fun k => by rw [treemergelaw03_has.l0, if_neg (by omega)]) ?_
    rw [List.drop_of_length_le (by omega)]
    exact Ev.now _
  | succ m ih =>
    intro i hi
    have hlt : i < l.length := by omega
    refine Ev.step (fun k => by rw [treemergelaw03_has.l0, if_pos (by omega), if_pos (by omega), wrap_up (n := l.length) (by omega) (by omega) hl, rdOf_at l i hlt]) ?_
    rw [List.drop_eq_getElem_cons hlt]
    by_cases h : l[i] = s
    · refine Ev.pos (by rw [h]) ?_
      exact Ev.cast (by simp [inB, h]) (Ev.now _)
    · refine Ev.neg (fun e => h (toList_inj.1 e)) ?_
      refine Ev.cast ?_ (ih (i + 1) (by omega))
      unfold inB
      rw [List.any_cons, decide_eq_false h, Bool.false_or]
theorem lhas_ev (l : List ByteArray) (s : ByteArray) (hl : l.length ≤ 140737488351232) : Ev (fun k => treemergelaw03_has.f k l s) (inB l s) := by
  have := lhas_loop l s hl l.length 0 (by omega)
  simpa [treemergelaw03_has.f] using this
end Go.Proofs.YtjkdgbndpdfkiaaDoor.Pure
