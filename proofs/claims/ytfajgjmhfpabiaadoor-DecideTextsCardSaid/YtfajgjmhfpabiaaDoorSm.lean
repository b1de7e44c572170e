/- What the reference makes of lines and texts: proved here by steps through the program's text; no condition but those that stand in each theorem. -/
import Derived.WalkSpells
import Derived.Deep.RegionLaw
import Derived.Lib.OthersKept
import Derived.Test.YtfajgjmhfpabiaaDoorShelf
import Derived.Test.YtfajgjmhfpabiaaDoorQ0
import Derived.Test.YtfajgjmhfpabiaaDoorQ2
import Derived.Test.YtfajgjmhfpabiaaDoorQ3
import Derived.Test.YtfajgjmhfpabiaaDoorQ4
import Derived.Test.YtfajgjmhfpabiaaDoorQ5
import Derived.Test.YtfajgjmhfpabiaaDoorSg
import Derived.Test.YtfajgjmhfpabiaaDoorSl
import Derived.Test.YtfajgjmhfpabiaaDoorQ6
namespace Go.Proofs.YtfajgjmhfpabiaaDoor.Scratch
set_option linter.unusedVariables false
open Go.RowKit Go.Proofs.YtfajgjmhfpabiaaDoorW.PrintWords Go.Proofs.YtfajgjmhfpabiaaDoorW.PrintLast Go.Proofs.YtfajgjmhfpabiaaDoorW.PrintMore Go.Proofs.YtfajgjmhfpabiaaDoor.Q
attribute [local go_sem] max2_int min2_int max_two min_two max_three min_three max_four min_four
theorem Ev.pos {α : Type} {c : Prop} [Decidable c] {A B : Nat → Option α} {r : α} (h : c) (k : Ev A r) : Ev (fun n => if c then A n else B n) r := by simpa only [if_pos h] using k
theorem Ev.neg {α : Type} {c : Prop} [Decidable c] {A B : Nat → Option α} {r : α} (h : ¬ c) (k : Ev B r) : Ev (fun n => if c then A n else B n) r := by simpa only [if_neg h] using k
theorem Ev.cast {α : Type} {g : Nat → Option α} {r r' : α} (h : r = r') (k : Ev g r) : Ev g r' := h ▸ k
theorem wrap_up {i n : Nat} (h : i < n) (hn : n ≤ 140737488351232) : wrap64 ((i : Int) + 1) = ((i + 1 : Nat) : Int) := by
  unfold wrap64
  omega
theorem ba_ext {a b : ByteArray} (h : a.data.toList = b.data.toList) : a = b := ByteArray.ext (Array.ext' h)
theorem ext_list (s : ByteArray) (a b : Nat) : (s.extract a b).data.toList = (s.data.toList.drop a).take (b - a) := by
  rw [ByteArray.data_extract, Array.toList_extract, List.extract_eq_take_drop]
theorem app_list (a b : ByteArray) : (a ++ b).data.toList = a.data.toList ++ b.data.toList := by
  rw [ByteArray.data_append, Array.toList_append]
theorem ba_len (s : ByteArray) : s.data.toList.length = s.size := Array.length_toList ..
theorem idx_at : ∀ (p q : List UInt8), (32 : UInt8) ∉ p → Lib.indexByte (p ++ 32 :: q) 32 = (p.length : Int)
  | [], q, _ => rfl
  | a :: p, q, h => by
    have ih := idx_at p q (fun e => h (List.mem_cons_of_mem _ e))
    have ha : (a == 32) = false := beq_eq_false_iff_ne.2 (fun e => h (by rw [e]; exact List.mem_cons_self))
    rw [List.cons_append]
    unfold Lib.indexByte
    rw [ha, ih]
    simp only [Bool.false_eq_true, if_false]
    rw [show (((p.length : Nat) : Int) == -1) = false from beq_eq_false_iff_ne.2 (by omega)]
    simp
theorem idx_no : ∀ (p : List UInt8), (32 : UInt8) ∉ p → Lib.indexByte p 32 = -1
  | [], _ => rfl
  | a :: p, h => by
    have ih := idx_no p (fun e => h (List.mem_cons_of_mem _ e))
    have ha : (a == 32) = false := beq_eq_false_iff_ne.2 (fun e => h (by rw [e]; exact List.mem_cons_self))
    unfold Lib.indexByte
    rw [ha, ih]
    rfl
theorem cut_at (s : ByteArray) (p q : List UInt8) (h : s.data.toList = p ++ 32 :: q) (hn : (32 : UInt8) ∉ p) : cut32 s = (⟨p.toArray⟩, ⟨q.toArray⟩, true) := by
  have hz := ba_len s
  rw [h, List.length_append, List.length_cons] at hz
  unfold cut32
  rw [h, idx_at p q hn, if_pos (by omega), Int.toNat_natCast]
  have e1 : s.extract 0 p.length = ⟨p.toArray⟩ := ba_ext (by rw [ext_list, h]; simp)
  have e2 : s.extract (p.length + 1) s.size = ⟨q.toArray⟩ := ba_ext (by
    rw [ext_list, h, show p.length + 1 = (p ++ [(32 : UInt8)]).length by simp, show p ++ 32 :: q = (p ++ [(32 : UInt8)]) ++ q by simp, List.drop_left]
    rw [List.take_of_length_le]
    simp
    omega)
  rw [e1, e2]
theorem cut_no (s : ByteArray) (hn : (32 : UInt8) ∉ s.data.toList) : cut32 s = (s, ⟨#[]⟩, false) := by
  unfold cut32
  rw [idx_no _ hn, if_neg (by omega)]
theorem spl32 : ∀ (l : List UInt8), (32 : UInt8) ∈ l → ∃ p q, l = p ++ 32 :: q ∧ (32 : UInt8) ∉ p
  | [], h => by cases h
  | a :: l, h => by
    by_cases ha : a = 32
    · exact ⟨[], l, by rw [ha]; rfl, by simp⟩
    · have hm : (32 : UInt8) ∈ l := by
        rcases List.mem_cons.1 h with e | e
        · exact absurd e.symm ha
        · exact e
      obtain ⟨p, q, e, hn⟩ := spl32 l hm
      exact ⟨a :: p, q, by rw [e]; rfl, fun m => by rcases List.mem_cons.1 m with m | m; exact ha m.symm; exact hn m⟩
theorem cut_flag (s : ByteArray) : (cut32 s).2.2 = true ↔ (32 : UInt8) ∈ s.data.toList := by
  by_cases h : (32 : UInt8) ∈ s.data.toList
  · obtain ⟨p, q, e, hn⟩ := spl32 s.data.toList h
    rw [cut_at s p q e hn]
    exact ⟨fun _ => h, fun _ => rfl⟩
  · rw [cut_no s h]
    exact ⟨fun e => (by cases e), fun e => absurd e h⟩
def sideL (a1 : Int) : List UInt8 := if a1 = 2 then [114, 105, 103, 104, 116] else [108, 101, 102, 116]
def whyL (a3 : ByteArray) : List UInt8 := if a3.data.toList = [] then [] else 32 :: a3.data.toList
theorem lineS_list (a0 a1 : Int) (a2 a3 : ByteArray) : (lineS a0 a1 a2 a3).data.toList = ((hexS a0).data.toList ++ 32 :: (sideL a1 ++ 32 :: (a2.data.toList ++ whyL a3))) ++ [10] := by
  unfold lineS sideL whyL
  rw [toList_eq]
  by_cases h : a3.data.toList = []
  · rw [if_pos h, if_pos h]
    by_cases c : a1 = 2
    · simp only [if_pos c, app_list, List.append_assoc, List.cons_append, List.nil_append, List.append_nil]
    · simp only [if_neg c, app_list, List.append_assoc, List.cons_append, List.nil_append, List.append_nil]
  · rw [if_neg h, if_neg h]
    by_cases c : a1 = 2
    · simp only [if_pos c, app_list, List.append_assoc, List.cons_append, List.nil_append, List.append_nil]
    · simp only [if_neg c, app_list, List.append_assoc, List.cons_append, List.nil_append, List.append_nil]
theorem hex_chars (d : Int) : ∀ c ∈ (hexS d).data.toList, 48 ≤ c.toNat ∧ c.toNat ≤ 102 := by
  intro c hc
  unfold hexS at hc
  simp only [List.mem_map, List.mem_range] at hc
  obtain ⟨j, _, rfl⟩ := hc
  have hd : ∀ v : Nat, v < 16 → 48 ≤ digv v ∧ digv v ≤ 102 := by decide +kernel
  have n0 := nib_lo d j
  have n1 := nib_hi d j
  have := hd (nib d j).toNat (by omega)
  unfold hexc
  simp
  omega
theorem fault_zero {a1 : Int} {a2 a3 : ByteArray} (h : faultS a1 a2 a3 = 0) : (a1 = 1 ∨ a1 = 2) ∧ a2.size ≤ 32 ∧ a3.size ≤ 200 ∧ (∀ c ∈ a2.data.toList, 33 ≤ c.toNat ∧ c.toNat ≤ 126) ∧ (∀ c ∈ a3.data.toList, 32 ≤ c.toNat ∧ c.toNat ≤ 126) := by
  unfold faultS at h
  have all : ∀ (l : List UInt8) (lo : Nat), l.all (okc lo) = true → ∀ c ∈ l, lo ≤ c.toNat ∧ c.toNat ≤ 126 := fun l lo hl c hc => by
    have := List.all_eq_true.1 hl c hc
    unfold okc at this
    simp only [Bool.and_eq_true, decide_eq_true_eq] at this
    omega
  split at h
  · omega
  · rename_i q1
    split at h
    · omega
    · split at h
      · omega
      · rename_i q3
        split at h
        · rename_i q4
          split at h
          · omega
          · rename_i q5
            split at h
            · rename_i q6
              exact ⟨by omega, by omega, by omega, all _ 33 q4, all _ 32 q6⟩
            · omega
        · omega
theorem no_byte {l : List UInt8} {lo c : Nat} (h : ∀ x ∈ l, lo ≤ x.toNat ∧ x.toNat ≤ 126) (hc : c < lo) (c8 : UInt8) (e : c8.toNat = c) : c8 ∉ l := fun m => by
  have := h c8 m
  omega

/-- What a whole line of a decision without fault is cut into. -/
theorem line_cuts (d : S35) (hf : faultS d.f1 d.f2 d.f3 = 0) (s : ByteArray) (hs : s.data.toList = (lineS d.f0 d.f1 d.f2 d.f3).data.toList) :
    nlS s = (⟨((hexS d.f0).data.toList ++ 32 :: (sideL d.f1 ++ 32 :: (d.f2.data.toList ++ whyL d.f3))).toArray⟩, true) ∧
    cut32 ⟨((hexS d.f0).data.toList ++ 32 :: (sideL d.f1 ++ 32 :: (d.f2.data.toList ++ whyL d.f3))).toArray⟩ = (hexS d.f0, ⟨(sideL d.f1 ++ 32 :: (d.f2.data.toList ++ whyL d.f3)).toArray⟩, true) ∧
    cut32 ⟨(sideL d.f1 ++ 32 :: (d.f2.data.toList ++ whyL d.f3)).toArray⟩ = (⟨(sideL d.f1).toArray⟩, ⟨(d.f2.data.toList ++ whyL d.f3).toArray⟩, true) ∧
    (cut32 ⟨(d.f2.data.toList ++ whyL d.f3).toArray⟩).1 = d.f2 ∧ (cut32 ⟨(d.f2.data.toList ++ whyL d.f3).toArray⟩).2.1 = d.f3 := by
  obtain ⟨h1, h2, h3, h4, h5⟩ := fault_zero hf
  have hx := hex_chars d.f0
  rw [lineS_list] at hs
  have n1 : (32 : UInt8) ∉ (hexS d.f0).data.toList := fun m => by
    have := hx 32 m
    have e : (32 : UInt8).toNat = 32 := rfl
    omega
  have n2 : (32 : UInt8) ∉ sideL d.f1 := by
    unfold sideL
    split <;> decide
  have n3 : (32 : UInt8) ∉ d.f2.data.toList := no_byte h4 (show 32 < 33 by decide) 32 rfl
  have hz := ba_len s
  rw [hs] at hz
  refine ⟨?_, ?_, ?_, ?_⟩
  · unfold nlS
    rw [List.length_append] at hz
    have e0 : s.size - 1 = ((hexS d.f0).data.toList ++ 32 :: (sideL d.f1 ++ 32 :: (d.f2.data.toList ++ whyL d.f3))).length := by
      simp only [List.length_cons, List.length_nil] at hz
      omega
    have e1 : (s.extract (s.size - 1) s.size).toList = [10] := by
      rw [toList_eq, ext_list, hs, e0, List.drop_left, List.take_of_length_le]
      simp only [List.length_cons, List.length_nil] at hz ⊢
      omega
    have e2 : s.extract 0 (s.size - 1) = ⟨((hexS d.f0).data.toList ++ 32 :: (sideL d.f1 ++ 32 :: (d.f2.data.toList ++ whyL d.f3))).toArray⟩ := ba_ext (by
      rw [ext_list, hs, e0, Nat.sub_zero, List.drop_zero, List.take_left])
    rw [if_pos ⟨by simp only [List.length_cons, List.length_nil] at hz; omega, e1⟩, e2]
  · rw [cut_at _ _ _ rfl n1]
  · rw [cut_at _ _ _ rfl n2]
  · unfold whyL
    by_cases c : d.f3.data.toList = []
    · rw [if_pos c, List.append_nil, cut_no _ n3]
      exact ⟨rfl, ba_ext (by rw [c])⟩
    · rw [if_neg c, cut_at _ _ _ rfl n3]
      exact ⟨rfl, rfl⟩
theorem parseS_hex (k : Int) (h0 : 0 ≤ k) (h1 : k < 2 ^ 64) : parseS (hexS k) = (k, 0) := by
  unfold parseS
  rw [if_pos (by rw [hexS_size]; rfl)]
  have := parse_hex k h0 h1 16 0 (by omega)
  rw [Int.ediv_eq_zero_of_lt h0 (by exact h1)] at this
  exact this
theorem side_back (a1 : Int) (h : a1 = 1 ∨ a1 = 2) : sideS ⟨(sideL a1).toArray⟩ = a1 := by
  unfold sideS sideL
  rw [toList_eq]
  rcases h with rfl | rfl <;> rfl
/-- The reference's way to read a line. -/
def refS (s : ByteArray) : Option S35 :=
  if (nlS s).2 = true then
    (if (parseS (cut32 (nlS s).1).1).2 = 0 then
      (if faultS (sideS (cut32 (cut32 (nlS s).1).2.1).1) (cut32 (cut32 (cut32 (nlS s).1).2.1).2.1).1 (cut32 (cut32 (cut32 (nlS s).1).2.1).2.1).2.1 = 0 then
       (if (lineS (parseS (cut32 (nlS s).1).1).1 (sideS (cut32 (cut32 (nlS s).1).2.1).1) (cut32 (cut32 (cut32 (nlS s).1).2.1).2.1).1 (cut32 (cut32 (cut32 (nlS s).1).2.1).2.1).2.1).toList = s.toList then
        some ⟨(parseS (cut32 (nlS s).1).1).1, sideS (cut32 (cut32 (nlS s).1).2.1).1, (cut32 (cut32 (cut32 (nlS s).1).2.1).2.1).1, (cut32 (cut32 (cut32 (nlS s).1).2.1).2.1).2.1⟩ else none) else none)
    else none)
  else none
theorem line_cut_eqs (d : S35) (h0 : 0 ≤ d.f0) (h1 : d.f0 < 2 ^ 64) (hf : faultS d.f1 d.f2 d.f3 = 0) (s : ByteArray) (hs : s.data.toList = (lineS d.f0 d.f1 d.f2 d.f3).data.toList) :
    (nlS s).2 = true ∧ (cut32 (nlS s).1).2.2 = true ∧ (cut32 (cut32 (nlS s).1).2.1).2.2 = true ∧ parseS (cut32 (nlS s).1).1 = (d.f0, 0) ∧ sideS (cut32 (cut32 (nlS s).1).2.1).1 = d.f1 ∧ (cut32 (cut32 (cut32 (nlS s).1).2.1).2.1).1 = d.f2 ∧ (cut32 (cut32 (cut32 (nlS s).1).2.1).2.1).2.1 = d.f3 := by
  obtain ⟨e1, e2, e3, e4, e5⟩ := line_cuts d hf s hs
  have hs2 := (fault_zero hf).1
  rw [e1]
  dsimp only
  rw [e2]
  dsimp only
  rw [e3]
  dsimp only
  exact ⟨rfl, rfl, rfl, parseS_hex _ h0 h1, side_back _ hs2, e4, e5⟩
theorem readS_line (d : S35) (h0 : 0 ≤ d.f0) (h1 : d.f0 < 2 ^ 64) (hf : faultS d.f1 d.f2 d.f3 = 0) (s : ByteArray) (hs : s.data.toList = (lineS d.f0 d.f1 d.f2 d.f3).data.toList) : readS s = some d := by
  obtain ⟨e1, e2, e3, e4, e5, e6, e7⟩ := line_cut_eqs d h0 h1 hf s hs
  unfold readS
  rw [e1, e2, e3, e4, e5, e6, e7]
  dsimp only
  have hc : faultS d.f1 d.f2 d.f3 = 0 ∧ (lineS d.f0 d.f1 d.f2 d.f3).toList = s.toList := ⟨hf, by rw [toList_eq, toList_eq, hs]⟩
  exact (if_pos rfl).trans (if_pos hc)
theorem refS_line (d : S35) (h0 : 0 ≤ d.f0) (h1 : d.f0 < 2 ^ 64) (hf : faultS d.f1 d.f2 d.f3 = 0) (s : ByteArray) (hs : s.data.toList = (lineS d.f0 d.f1 d.f2 d.f3).data.toList) : refS s = some d := by
  obtain ⟨e1, e2, e3, e4, e5, e6, e7⟩ := line_cut_eqs d h0 h1 hf s hs
  unfold refS
  rw [e1, e4, e5, e6, e7]
  dsimp only
  exact (if_pos rfl).trans ((if_pos rfl).trans ((if_pos hf).trans (if_pos (by rw [toList_eq, toList_eq, hs]))))
theorem refS_plain (s : ByteArray) (d : S35) (h : refS s = some d) : (0 ≤ d.f0 ∧ d.f0 < 2 ^ 64) ∧ faultS d.f1 d.f2 d.f3 = 0 ∧ (lineS d.f0 d.f1 d.f2 d.f3).toList = s.toList := by
  unfold refS at h
  split at h
  · split at h
    · rename_i h2
      split at h
      · rename_i h3
        split at h
        · rename_i h4
          obtain rfl := Option.some.inj h
          exact ⟨parseS_range _ _ (Prod.ext rfl h2), h3, h4⟩
        · cases h
      · cases h
    · cases h
  · cases h
theorem refS_eq (s : ByteArray) : refS s = readS s := by
  cases h : readS s with
  | some d =>
    obtain ⟨h1, h2, h3⟩ := readS_plain s d h
    exact refS_line d h1.1 h1.2 h2 s (by rw [← toList_eq, ← toList_eq, h3])
  | none =>
    cases g : refS s with
    | none => rfl
    | some d =>
      obtain ⟨h1, h2, h3⟩ := refS_plain s d g
      rw [readS_line d h1.1 h1.2 h2 s (by rw [← toList_eq, ← toList_eq, h3])] at h
      cases h

theorem Ev.up {α : Type} {g : Nat → Option α} {r : α} {K : Nat} (hm : ∀ k, LeO (g k) (g (k + 1))) (h : g K = some r) : Ev g r := Ev.of hm h
theorem digit_ev (c : Nat) (h : c < 256) : Ev (fun k => treemergeref02_digit.f k (c : Int)) (upto (c : Int) 16) := by
  rw [upto_spec c h]
  unfold treemergeref02_digit.f
  by_cases h1 : 48 ≤ c
  · refine Ev.pos (by omega) ?_
    by_cases h2 : c ≤ 57
    · rw [if_pos ⟨h1, h2⟩]
      refine Ev.step (fun k => by rw [treemergeref02_digit.j0, if_pos (decide_eq_true (by omega)), show wrap64 (wrap64 (c : Int) - 48) = (c : Int) - 48 from by unfold wrap64; omega]) (Ev.now _)
    · rw [if_neg (by omega)]
      by_cases h3 : 97 ≤ c ∧ c ≤ 102
      · rw [if_pos h3]
        refine Ev.step (fun k => by rw [treemergeref02_digit.j0, if_neg (by simp; omega), if_pos (by omega), if_pos (by omega), show wrap64 (wrap64 (wrap64 (c : Int) - 97) + 10) = (c : Int) - 87 from by unfold wrap64; omega]) (Ev.now _)
      · rw [if_neg h3]
        by_cases h4 : 97 ≤ c
        · exact Ev.step (fun k => by rw [treemergeref02_digit.j0, if_neg (by simp; omega), if_pos (by omega), if_neg (by omega)]) (Ev.now _)
        · exact Ev.step (fun k => by rw [treemergeref02_digit.j0, if_neg (by simp; omega), if_neg (by omega)]) (Ev.now _)
  · refine Ev.neg (by omega) ?_
    rw [if_neg (by omega), if_neg (by omega)]
    exact Ev.step (fun k => by rw [treemergeref02_digit.j0, if_neg (by simp), if_neg (by omega)]) (Ev.now _)
theorem rparse_loop (s : ByteArray) (hs : s.size = 16) : ∀ (g i : Nat) (n : Int), i + g = 16 → Ev (fun k => treemergeref02_Parse.l0 k s n (i : Int)) (parseL s g (i : Int) n) := by
  intro g
  induction g with
  | zero =>
    intro i n hi
    exact Ev.step (fun k => by rw [treemergeref02_Parse.l0, if_neg (by omega)]; rfl) (Ev.now _)
  | succ g ih =>
    intro i n hi
    obtain ⟨c, hc, e⟩ := bt_nat s (i : Int)
    refine Ev.step (fun k => by rw [treemergeref02_Parse.l0, if_pos (by omega), if_pos (by omega), if_pos (by omega), wrap_up (n := 16) (by omega) (by omega), e]) ?_
    refine (digit_ev c hc).bind ?_
    rw [parseL, e]
    by_cases h : upto (c : Int) 16 < 0
    · rw [if_pos h]
      exact Ev.pos h (Ev.now _)
    · rw [if_neg h]
      refine Ev.neg h ?_
      rw [join16 _ _ (by omega) (upto_lt c hc)]
      exact ih (i + 1) _ (by omega)
theorem rparse_ev (s : ByteArray) : Ev (fun k => treemergeref02_Parse.f k s) (parseS s) := by
  unfold treemergeref02_Parse.f parseS
  by_cases h : (s.size : Int) = 16
  · rw [if_pos h]
    exact Ev.pos (by omega) (rparse_loop s (by omega) 16 0 0 (by omega))
  · rw [if_neg h]
    exact Ev.neg (by omega) (Ev.now _)
theorem hexd_is (v : Nat) (h : v < 16) : (⟨#[48, 49, 50, 51, 52, 53, 54, 55, 56, 57, 97, 98, 99, 100, 101, 102]⟩ : ByteArray).extract v (v + 1) = ⟨#[UInt8.ofNat (digv v).toNat]⟩ := by
  have : ∀ v : Nat, v < 16 → (⟨#[48, 49, 50, 51, 52, 53, 54, 55, 56, 57, 97, 98, 99, 100, 101, 102]⟩ : ByteArray).extract v (v + 1) = ⟨#[UInt8.ofNat (digv v).toNat]⟩ := by decide +kernel
  exact this v h
theorem rhex_loop (d : Int) (h0 : 0 ≤ d) (h1 : d < 2 ^ 64) : ∀ (g i : Nat) (o : ByteArray), i + g = 16 → o.data.toList = (List.range i).map (fun j => UInt8.ofNat (hexc d j).toNat) → Ev (fun k => treemergeref02_Hex.l0 k d o (60 - 4 * (i : Int))) (hexS d) := by
  intro g
  induction g with
  | zero =>
    intro i o hi ho
    have e : o = hexS d := ba_ext (by rw [ho, show i = 16 by omega]; rfl)
    rw [e]
    exact Ev.step (fun k => by rw [treemergeref02_Hex.l0, if_neg (by omega)]) (Ev.now _)
  | succ g ih =>
    intro i o hi ho
    have hz : o.size = i := by rw [← ba_len, ho]; simp
    have hm : (60 - 4 * (i : Int)).toNat = 60 - 4 * i := by omega
    have hs : shr .u64 d (60 - 4 * (i : Int)) = d / 2 ^ (60 - 4 * i) := by
      unfold shr
      rw [hm, Nat.min_eq_left (by show 60 - 4 * i ≤ 64; omega)]
    have hq0 : 0 ≤ d / 2 ^ (60 - 4 * i) := Int.ediv_nonneg h0 (Int.pow_nonneg (by decide))
    have hq1 : d / 2 ^ (60 - 4 * i) < 2 ^ 64 := by
      have := Int.ediv_le_self (2 ^ (60 - 4 * i)) h0
      omega
    have hn : Go.bits .and .u64 (shr .u64 d (60 - 4 * (i : Int))) 15 = nib d i := by
      rw [hs]
      exact u64_and15 _ hq0 hq1
    have n0 := nib_lo d i
    have n1 := nib_hi d i
    have w1 : wrap64 (nib d i) = nib d i := by unfold wrap64; omega
    have w2 : wrap64 (nib d i + 1) = nib d i + 1 := by unfold wrap64; omega
    have w3 : wrap64 (60 - 4 * (i : Int) - 4) = 60 - 4 * ((i + 1 : Nat) : Int) := by unfold wrap64; omega
    have t1 : (nib d i + 1).toNat = (nib d i).toNat + 1 := by omega
    have hx := hexd_is (nib d i).toNat (by omega)
    refine Ev.step (fun k => by rw [treemergeref02_Hex.l0, if_pos (by omega), if_pos (by omega), hn, w1, w2, if_pos n0, if_pos (by omega), if_pos (by omega), t1, hx, w3, if_pos (by rw [hz]; show i + 1 ≤ _; omega)]) ?_
    refine ih (i + 1) _ (by omega) ?_
    rw [app_list, ho, List.range_succ, List.map_append]
    rfl
theorem rhex_ev (d : Int) (h0 : 0 ≤ d) (h1 : d < 2 ^ 64) : Ev (fun k => treemergeref02_Hex.f k d) (hexS d) := by
  unfold treemergeref02_Hex.f
  exact rhex_loop d h0 h1 16 0 _ (by omega) rfl
theorem bt_list (s : ByteArray) (i : Nat) (h : i < s.data.toList.length) : bt s (i : Int) = ((s.data.toList[i]).toNat : Int) := bt_get s i h
theorem until_loop (s : ByteArray) (hs : s.size ≤ 1000000) : ∀ (g i : Nat), i + g = s.size → (32 : UInt8) ∉ s.data.toList.take i → Ev (fun k => treemergeref36_until.l0 k s (i : Int)) ((cut32 s).1, (cut32 s).2.1) := by
  intro g
  induction g with
  | zero =>
    intro i hi hn
    rw [List.take_of_length_le (by rw [ba_len]; omega)] at hn
    rw [cut_no s hn]
    exact Ev.step (fun k => by rw [treemergeref36_until.l0, if_neg (by omega)]) (Ev.now _)
  | succ g ih =>
    intro i hi hn
    have hl : i < s.data.toList.length := by rw [ba_len]; omega
    have e := bt_get s i hl
    have wu : wrap64 ((i : Int) + 1) = ((i + 1 : Nat) : Int) := by unfold wrap64; omega
    by_cases c : s.data.toList[i] = 32
    · have e2 : bt s (i : Int) = 32 := by rw [e, c]; rfl
      have hcut := cut_at s (s.data.toList.take i) (s.data.toList.drop (i + 1)) (by rw [← c, ← List.drop_eq_getElem_cons hl, List.take_append_drop]) hn
      have x1 : s.extract 0 i = ⟨(s.data.toList.take i).toArray⟩ := ba_ext (by rw [ext_list]; simp)
      have x2 : s.extract (i + 1) s.size = ⟨(s.data.toList.drop (i + 1)).toArray⟩ := ba_ext (by rw [ext_list, List.take_of_length_le (by rw [List.length_drop, ba_len]; omega)])
      rw [hcut]
      refine Ev.step (fun k => by rw [treemergeref36_until.l0, if_pos (by omega), if_pos (by omega), if_pos e2, if_pos (by omega), wu, if_pos (by omega), if_pos (by omega), Int.toNat_natCast, Int.toNat_natCast, x1, x2]) (Ev.now _)
    · have e2 : ¬ bt s (i : Int) = 32 := by
        rw [e]
        intro q
        exact c (UInt8.toNat_inj.1 (by have : (32 : UInt8).toNat = 32 := rfl; omega))
      refine Ev.step (fun k => by rw [treemergeref36_until.l0, if_pos (by omega), if_pos (by omega), if_neg e2, wu]) ?_
      refine ih (i + 1) (by omega) ?_
      rw [List.take_succ_eq_append_getElem hl, List.mem_append, List.mem_singleton]
      rintro (q | q)
      · exact hn q
      · exact c q.symm
theorem until_ev (s : ByteArray) (hs : s.size ≤ 1000000) : Ev (fun k => treemergeref36_until.f k s) ((cut32 s).1, (cut32 s).2.1) := by
  unfold treemergeref36_until.f
  exact until_loop s hs s.size 0 (by omega) (by simp)
theorem valid_ev (a0 a1 : Int) (a2 a3 : ByteArray) : Ev (fun k => treemergeref36_Valid.f k a0 a1 a2 a3) (faultS a1 a2 a3) := Ev.of (fun k => treemergeref36_Valid.mono _ _ _ _ k) (valid_is a0 a1 a2 a3)
theorem rline_ev (a0 a1 : Int) (a2 a3 : ByteArray) (h0 : 0 ≤ a0) (h1 : a0 < 2 ^ 64) (ha : a1 = 1 ∨ a1 = 2) (z2 : a2.size ≤ 1000000) (z3 : a3.size ≤ 1000000) : Ev (fun k => treemergeref36_Line.f k a0 a1 a2 a3) (lineS a0 a1 a2 a3) := by
  unfold treemergeref36_Line.f
  refine (rhex_ev a0 h0 h1).bind ?_
  have hz := hexS_size a0
  have l6 : (⟨#[32, 108, 101, 102, 116, 32]⟩ : ByteArray).size = 6 := rfl
  have l7 : (⟨#[32, 114, 105, 103, 104, 116, 32]⟩ : ByteArray).size = 7 := rfl
  have l1 : (⟨#[32]⟩ : ByteArray).size = 1 := rfl
  have as4 : ∀ a b c d e : ByteArray, a ++ b ++ c ++ (d ++ e) = a ++ b ++ c ++ d ++ e := fun a b c d e => by simp only [ByteArray.append_assoc]
  unfold lineS
  generalize hexS a0 = x at *
  rcases ha with rfl | rfl
  · rw [if_neg (show ¬ (1 : Int) = 2 by decide)]
    refine Ev.pos rfl (Ev.pos (by omega) (Ev.pos (by rw [ByteArray.size_append]; omega) ?_))
    by_cases c : a3.toList = []
    · simp only [if_pos c]
      exact Ev.pos (by simp only [ByteArray.size_append]; omega) (Ev.now _)
    · simp only [if_neg c]
      rw [as4]
      exact Ev.pos (by simp only [ByteArray.size_append]; omega) (Ev.pos (by simp only [ByteArray.size_append]; omega) (Ev.pos (by simp only [ByteArray.size_append]; omega) (Ev.now _)))
  · rw [if_pos rfl]
    refine Ev.neg (by decide) (Ev.pos (by omega) (Ev.pos (by rw [ByteArray.size_append]; omega) ?_))
    by_cases c : a3.toList = []
    · simp only [if_pos c]
      exact Ev.pos (by simp only [ByteArray.size_append]; omega) (Ev.now _)
    · simp only [if_neg c]
      rw [as4]
      exact Ev.pos (by simp only [ByteArray.size_append]; omega) (Ev.pos (by simp only [ByteArray.size_append]; omega) (Ev.pos (by simp only [ByteArray.size_append]; omega) (Ev.now _)))
theorem sideS_or (x : ByteArray) : sideS x = 1 ∨ sideS x = 2 := by
  unfold sideS
  split
  · exact .inr rfl
  · exact .inl rfl
def tupS (o : Option S35) : Int × Int × ByteArray × ByteArray × Bool := match o with
  | some d => (d.f0, d.f1, d.f2, d.f3, true)
  | none => (0, 0, ⟨#[]⟩, ⟨#[]⟩, false)
theorem nlS_last (s : ByteArray) (hs : 1 ≤ s.size) : (nlS s).2 = decide (bt s ((s.size - 1 : Nat) : Int) = 10) := by
  have hl : s.size - 1 < s.data.toList.length := by rw [ba_len]; omega
  have e := bt_get s (s.size - 1) hl
  have x : (s.extract (s.size - 1) s.size).toList = [s.data.toList[s.size - 1]] := by
    rw [toList_eq, ext_list, List.drop_eq_getElem_cons hl, show s.size - (s.size - 1) = 1 by omega]
    rfl
  unfold nlS
  rw [x]
  by_cases c : s.data.toList[s.size - 1] = 10
  · rw [if_pos ⟨hs, by rw [c]⟩, decide_eq_true (by rw [e, c]; rfl)]
  · rw [if_neg (fun q => c (List.cons.inj q.2).1), decide_eq_false (by rw [e]; intro q; exact c (UInt8.toNat_inj.1 (by have : (10 : UInt8).toNat = 10 := rfl; omega)))]
theorem nlS_true (s : ByteArray) (h : (nlS s).2 = true) : 1 ≤ s.size ∧ (nlS s).1 = s.extract 0 (s.size - 1) := by
  unfold nlS at h ⊢
  split
  · rename_i c
    exact ⟨c.1, rfl⟩
  · rename_i c
    rw [if_neg c] at h
    cases h
theorem rread_ev (s : ByteArray) (hs : s.size ≤ 1000000) : Ev (fun k => treemergeref36_Read.f k s) (tupS (readS s)) := by
  rw [← refS_eq]
  have hz := nlS_size s
  unfold treemergeref36_Read.f refS
  by_cases c0 : s.toList = []
  · have h1 : ¬ 1 ≤ s.size := by
      rw [toList_eq] at c0
      rw [← ba_len, c0]
      decide
    have h2 : ¬ (nlS s).2 = true := fun q => h1 (nlS_true s q).1
    rw [if_neg h2]
    refine Ev.pos c0 (Ev.step (fun k => by rw [treemergeref36_Read.j0, if_pos rfl]; rfl) (Ev.now _))
  · have h1 : 1 ≤ s.size := by
      rcases Nat.eq_zero_or_pos s.size with q | q
      · exact absurd (by rw [toList_eq]; exact List.eq_nil_of_length_eq_zero (by rw [ba_len]; exact q)) c0
      · exact q
    have w1 : wrap64 ((s.size : Int) - 1) = ((s.size - 1 : Nat) : Int) := by unfold wrap64; omega
    have hl := nlS_last s h1
    refine Ev.neg c0 (Ev.pos (by omega) (Ev.pos (by omega) ?_))
    rw [w1]
    by_cases c1 : bt s ((s.size - 1 : Nat) : Int) = 10
    · rw [decide_eq_true c1] at hl
      rw [if_pos hl, c1]
      have e1 := (nlS_true s hl).2
      refine Ev.step (fun k => by rw [treemergeref36_Read.j0, if_neg (by decide), w1, if_pos (by omega), if_pos (by omega), Int.toNat_natCast, ← e1]) ?_
      generalize (nlS s).1 = b at *
      have z1 := cut32_size b
      refine (until_ev b (by omega)).bind ?_
      dsimp only
      refine (rparse_ev _).bind ?_
      have hr := parseS_range (cut32 b).1
      generalize parseS (cut32 b).1 = p at *
      obtain ⟨key, ec⟩ := p
      dsimp only
      by_cases c2 : ec = 0
      · rw [if_pos c2]
        subst c2
        have hk := hr key rfl
        have z2 := cut32_size (cut32 b).2.1
        refine Ev.pos rfl ((until_ev _ (by omega)).bind ?_)
        dsimp only
        generalize (cut32 b).2.1 = r at *
        have z3 := cut32_size (cut32 r).2.1
        have hj : Ev (fun k => treemergeref36_Read.j1 k s (cut32 r).2.1 key (sideS (cut32 r).1) ⟨#[]⟩ ⟨#[]⟩) (tupS (if faultS (sideS (cut32 r).1) (cut32 (cut32 r).2.1).1 (cut32 (cut32 r).2.1).2.1 = 0 then (if (lineS key (sideS (cut32 r).1) (cut32 (cut32 r).2.1).1 (cut32 (cut32 r).2.1).2.1).toList = s.toList then some ⟨key, sideS (cut32 r).1, (cut32 (cut32 r).2.1).1, (cut32 (cut32 r).2.1).2.1⟩ else none) else none)) := by
          have hso := sideS_or (cut32 r).1
          generalize sideS (cut32 r).1 = sd at *
          refine Ev.step (fun k => by rw [treemergeref36_Read.j1]) ?_
          refine (until_ev _ (by omega)).bind ?_
          dsimp only
          refine (valid_ev key sd _ _).bind ?_
          by_cases c3 : faultS sd (cut32 (cut32 r).2.1).1 (cut32 (cut32 r).2.1).2.1 = 0
          · rw [if_pos c3]
            refine Ev.pos c3 ((rline_ev key sd _ _ hk.1 hk.2 hso (by omega) (by omega)).bind ?_)
            by_cases c4 : (lineS key sd (cut32 (cut32 r).2.1).1 (cut32 (cut32 r).2.1).2.1).toList = s.toList
            · simp only [if_pos c4]
              exact Ev.now _
            · simp only [if_neg c4]
              exact Ev.now _
          · rw [if_neg c3]
            exact Ev.neg c3 (Ev.now _)
        by_cases c5 : (cut32 r).1.toList = [114, 105, 103, 104, 116]
        · have e5 : sideS (cut32 r).1 = 2 := by unfold sideS; rw [if_pos (by rw [c5]; rfl)]
          rw [e5] at hj ⊢
          exact Ev.pos c5 hj
        · have e5 : sideS (cut32 r).1 = 1 := by unfold sideS; rw [if_neg (by simpa using c5)]
          rw [e5] at hj ⊢
          exact Ev.neg c5 hj
      · rw [if_neg c2]
        exact Ev.neg c2 (Ev.now _)
    · rw [decide_eq_false c1] at hl
      rw [if_neg (by rw [hl]; decide)]
      have e2 : (bt s ((s.size - 1 : Nat) : Int) != 10) = true := bne_iff_ne.2 c1
      rw [e2]
      exact Ev.step (fun k => by rw [treemergeref36_Read.j0, if_pos rfl]; rfl) (Ev.now _)
theorem rsplit_loop (s : ByteArray) (hs : s.size ≤ 1000000) : ∀ (g i fr : Nat) (out : List ByteArray), i + g = s.size → fr ≤ i → out.length ≤ i → Ev (fun k => treemergeref01_Split.l0 k s out (fr : Int) (i : Int)) (splitL s g i fr out) := by
  intro g
  induction g with
  | zero =>
    intro i fr out hi hf ho
    rw [splitL]
    by_cases c : fr < s.size
    · rw [if_pos c]
      refine Ev.step (fun k => by rw [treemergeref01_Split.l0, if_neg (by omega), if_pos (by omega), if_pos (by omega), if_pos (by omega), if_pos (by omega), Int.toNat_natCast]) (Ev.now _)
    · rw [if_neg c]
      refine Ev.step (fun k => by rw [treemergeref01_Split.l0, if_neg (by omega), if_neg (by omega)]) (Ev.now _)
  | succ g ih =>
    intro i fr out hi hf ho
    have wu : wrap64 ((i : Int) + 1) = ((i + 1 : Nat) : Int) := by unfold wrap64; omega
    rw [splitL]
    by_cases c : bt s (i : Int) = 10
    · rw [if_pos c]
      refine Ev.step (fun k => by rw [treemergeref01_Split.l0, if_pos (by omega), if_pos (by omega), if_pos c, wu, if_pos (by omega), if_pos (by omega), if_pos (by omega), if_pos (by omega), Int.toNat_natCast, Int.toNat_natCast]) ?_
      exact ih (i + 1) (i + 1) _ (by omega) (by omega) (by simp; omega)
    · rw [if_neg c]
      refine Ev.step (fun k => by rw [treemergeref01_Split.l0, if_pos (by omega), if_pos (by omega), if_neg c, wu]) ?_
      exact ih (i + 1) fr out (by omega) (by omega) (by omega)
theorem rsplit_ev (s : ByteArray) (hs : s.size ≤ 1000000) : Ev (fun k => treemergeref01_Split.f k s) (splitL s s.size 0 0 []) := by
  unfold treemergeref01_Split.f
  exact rsplit_loop s hs s.size 0 0 [] (by omega) (Nat.le_refl _) (Nat.le_refl _)
def resS (r : Option (List S35) × Int × Int) : List S35 × Int × Int := (r.1.getD [], r.2.1, r.2.2)
theorem rparse36_loop (LS : List ByteArray) (hz : ∀ x ∈ LS, x.size ≤ 1000000) (hl : LS.length ≤ 1000001) : ∀ (g i : Nat) (L : List S35), i + g = LS.length → L.length = i → Ev (fun k => treemergeref36_Parse.l0 k LS L (i : Int)) (resS (parseGo (LS.drop i) L)) := by
  intro g
  induction g with
  | zero =>
    intro i L hi hL
    rw [List.drop_of_length_le (by omega), parseGo]
    exact Ev.step (fun k => by rw [treemergeref36_Parse.l0, if_neg (by omega)]; rfl) (Ev.now _)
  | succ g ih =>
    intro i L hi hL
    have hil : i < LS.length := by omega
    have wu : wrap64 ((i : Int) + 1) = ((i + 1 : Nat) : Int) := by unfold wrap64; omega
    have wd : 0 < i → wrap64 ((i : Int) - 1) = ((i - 1 : Nat) : Int) := fun q => by unfold wrap64; omega
    have hrd : rdOf ByteArray.empty LS (i : Int) = LS[i] := by simp [rdOf, List.getD_eq_getElem?_getD, List.getElem?_eq_getElem hil]
    rw [List.drop_eq_getElem_cons hil, parseGo]
    by_cases c1 : 256 ≤ L.length
    · rw [if_pos c1]
      exact Ev.step (fun k => by rw [treemergeref36_Parse.l0, if_pos (by omega), if_pos (by omega), wu, show ((i + 1 : Nat) : Int) = (L.length : Int) + 1 by omega]; rfl) (Ev.now _)
    · rw [if_neg c1]
      refine Ev.step (fun k => by rw [treemergeref36_Parse.l0, if_pos (by omega), if_neg (by omega), if_pos (by omega), hrd, wu]) ?_
      have hx := hz LS[i] (List.getElem_mem hil)
      generalize LS[i] = x at *
      refine (rread_ev x hx).bind ?_
      cases hr : readS x with
      | none =>
        refine Ev.neg (show ¬ (false = true) by decide) ?_
        rw [show ((i + 1 : Nat) : Int) = (L.length : Int) + 1 by omega]
        exact Ev.now _
      | some d =>
        have hd := (readS_plain x d hr).1
        refine Ev.pos rfl ?_
        dsimp only [tupS]
        have hnext : Ev (fun k => if L.length < 2932031007402 then treemergeref36_Parse.l0 k LS (L ++ [⟨d.f0, d.f1, d.f2, d.f3⟩]) ((i + 1 : Nat) : Int) else none) (resS (parseGo (LS.drop (i + 1)) (L ++ [d]))) := by
          refine Ev.pos (by omega) ?_
          exact ih (i + 1) (L ++ [d]) (by omega) (by simp; omega)
        by_cases c2 : 0 < i
        · have hlk : (rd_T35 L (wrap64 ((i : Int) - 1))).f0 = lastK L := by
            rw [wd c2]
            have := lastK_rd L (i - 1) (by omega)
            rw [← this]
            simp only [rd, rd_T35, Int.toNat_natCast, List.getD_eq_getElem?_getD]
            rw [List.getElem?_eq_getElem (show i - 1 < L.length by omega), List.getElem?_eq_getElem (show i - 1 < (L.map fun d => d.f0).length by rw [List.length_map]; omega)]
            simp
          refine Ev.pos (by omega) (Ev.pos (by rw [wd c2]; omega) (Ev.pos (by rw [wd c2]; omega) ?_))
          rw [hlk]
          by_cases c3 : d.f0 ≤ lastK L
          · rw [if_pos c3]
            refine Ev.pos c3 ?_
            rw [show ((i + 1 : Nat) : Int) = (L.length : Int) + 1 by omega]
            exact Ev.now _
          · rw [if_neg c3]
            exact Ev.neg c3 hnext
        · have hL0 : L = [] := List.eq_nil_of_length_eq_zero (by omega)
          have hlk : lastK L = -1 := by rw [hL0]; rfl
          rw [if_neg (by rw [hlk]; omega)]
          exact Ev.neg (by omega) hnext
theorem rparse36_ev (s : ByteArray) (hs : s.size ≤ 60000) : Ev (fun k => treemergeref36_Parse.f k s) (resS (parseGo (splitL s s.size 0 0 []) [])) := by
  unfold treemergeref36_Parse.f
  refine Ev.neg (by omega) ((rsplit_ev s (by omega)).bind ?_)
  have h1 := splitL_size s s.size 0 0 [] (fun _ h => by cases h)
  have h2 := splitL_len s s.size 0 0 []
  exact rparse36_loop _ (fun x hx => by have := h1 x hx; omega) (by rw [List.length_nil] at h2; omega) (splitL s s.size 0 0 []).length 0 [] (by omega) rfl
theorem same_loop (L : List S35) (hl : L.length ≤ 1000000) : ∀ (g i : Nat), i + g = L.length → Ev (fun k => treemergeref36_Same.l0 k L L (i : Int)) true := by
  intro g
  induction g with
  | zero =>
    intro i hi
    exact Ev.step (fun k => by rw [treemergeref36_Same.l0, if_neg (by omega)]) (Ev.now _)
  | succ g ih =>
    intro i hi
    have wu : wrap64 ((i : Int) + 1) = ((i + 1 : Nat) : Int) := by unfold wrap64; omega
    refine Ev.step (fun k => by rw [treemergeref36_Same.l0, if_pos (by omega), if_pos (by omega), if_pos (by omega), wu, if_neg (by simp)]) ?_
    exact ih (i + 1) (by omega)
theorem same_ev (L : List S35) (hl : L.length ≤ 1000000) : Ev (fun k => treemergeref36_Same.f k L L) true := by
  unfold treemergeref36_Same.f
  exact Ev.pos rfl (same_loop L hl L.length 0 (by omega))

end Go.Proofs.YtfajgjmhfpabiaaDoor.Scratch
