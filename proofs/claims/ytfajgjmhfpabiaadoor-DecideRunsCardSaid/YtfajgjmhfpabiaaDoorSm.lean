/- Cuts and lines: proved here by steps through the program's text; no condition but those that stand in each theorem. -/
import Derived.WalkSpells
import Derived.Deep.RegionLaw
import Derived.Lib.OthersKept
import Derived.Test.YtfajgjmhfpabiaaDoorShelf
import Derived.Test.YtfajgjmhfpabiaaDoorQ0
import Derived.Test.YtfajgjmhfpabiaaDoorQ4
import Derived.Test.YtfajgjmhfpabiaaDoorQ5
import Derived.Test.YtfajgjmhfpabiaaDoorSg
namespace Go.Proofs.YtfajgjmhfpabiaaDoor.Scratch
set_option linter.unusedVariables false
open Go.RowKit Go.Proofs.YtfajgjmhfpabiaaDoorW.PrintWords Go.Proofs.YtfajgjmhfpabiaaDoorW.PrintLast Go.Proofs.YtfajgjmhfpabiaaDoorW.PrintMore Go.Proofs.YtfajgjmhfpabiaaDoor.Q
attribute [local go_sem] max2_int min2_int max_two min_two max_three min_three max_four min_four
theorem Ev.pos {α : Type} {c : Prop} [Decidable c] {A B : Nat → Option α} {r : α} (h : c) (k : Ev A r) : Ev (fun n => if c then A n else B n) r := by simpa only [if_pos h] using k
theorem Ev.neg {α : Type} {c : Prop} [Decidable c] {A B : Nat → Option α} {r : α} (h : ¬ c) (k : Ev B r) : Ev (fun n => if c then A n else B n) r := by simpa only [if_neg h] using k
theorem Ev.cast {α : Type} {g : Nat → Option α} {r r' : α} (h : r = r') (k : Ev g r) : Ev g r' := h ▸ k
theorem wrap_up {i n : Nat} (h : i < n) (hn : n ≤ 140737488351232) : wrap64 ((i : Int) + 1) = ((i + 1 : Nat) : Int) := by
  unfold wrap64
  omega
theorem ba_ext {a b : ByteArray} (h : a.data.toList = b.data.toList) : a = b := ByteArray.ext (Array.ext' h)
theorem ext_list (s : ByteArray) (a b : Nat) : (s.extract a b).data.toList = (s.data.toList.drop a).take (b - a) := by
  rw [ByteArray.data_extract, Array.toList_extract, List.extract_eq_take_drop]
theorem app_list (a b : ByteArray) : (a ++ b).data.toList = a.data.toList ++ b.data.toList := by
  rw [ByteArray.data_append, Array.toList_append]
theorem ba_len (s : ByteArray) : s.data.toList.length = s.size := Array.length_toList ..
theorem idx_at : ∀ (p q : List UInt8), (32 : UInt8) ∉ p → Lib.indexByte (p ++ 32 :: q) 32 = (p.length : Int)
  | [], q, _ => rfl
  | a :: p, q, h => by
    have ih := idx_at p q (fun e => h (List.mem_cons_of_mem _ e))
    have ha : (a == 32) = false := beq_eq_false_iff_ne.2 (fun e => h (by rw [e]; exact List.mem_cons_self))
    rw [List.cons_append]
    unfold Lib.indexByte
    rw [ha, ih]
    simp only [Bool.false_eq_true, if_false]
    rw [show (((p.length : Nat) : Int) == -1) = false from beq_eq_false_iff_ne.2 (by omega)]
    simp
theorem idx_no : ∀ (p : List UInt8), (32 : UInt8) ∉ p → Lib.indexByte p 32 = -1
  | [], _ => rfl
  | a :: p, h => by
    have ih := idx_no p (fun e => h (List.mem_cons_of_mem _ e))
    have ha : (a == 32) = false := beq_eq_false_iff_ne.2 (fun e => h (by rw [e]; exact List.mem_cons_self))
    unfold Lib.indexByte
    rw [ha, ih]
    rfl
theorem cut_at (s : ByteArray) (p q : List UInt8) (h : s.data.toList = p ++ 32 :: q) (hn : (32 : UInt8) ∉ p) : cut32 s = (⟨p.toArray⟩, ⟨q.toArray⟩, true) := by
  have hz := ba_len s
  rw [h, List.length_append, List.length_cons] at hz
  unfold cut32
  rw [h, idx_at p q hn, if_pos (by omega), Int.toNat_natCast]
  have e1 : s.extract 0 p.length = ⟨p.toArray⟩ := ba_ext (by rw [ext_list, h]; simp)
  have e2 : s.extract (p.length + 1) s.size = ⟨q.toArray⟩ := ba_ext (by
    rw [ext_list, h, show p.length + 1 = (p ++ [(32 : UInt8)]).length by simp, show p ++ 32 :: q = (p ++ [(32 : UInt8)]) ++ q by simp, List.drop_left]
    rw [List.take_of_length_le]
    simp
    omega)
  rw [e1, e2]
theorem cut_no (s : ByteArray) (hn : (32 : UInt8) ∉ s.data.toList) : cut32 s = (s, ⟨#[]⟩, false) := by
  unfold cut32
  rw [idx_no _ hn, if_neg (by omega)]
theorem spl32 : ∀ (l : List UInt8), (32 : UInt8) ∈ l → ∃ p q, l = p ++ 32 :: q ∧ (32 : UInt8) ∉ p
  | [], h => by cases h
  | a :: l, h => by
    by_cases ha : a = 32
    · exact ⟨[], l, by rw [ha]; rfl, by simp⟩
    · have hm : (32 : UInt8) ∈ l := by
        rcases List.mem_cons.1 h with e | e
        · exact absurd e.symm ha
        · exact e
      obtain ⟨p, q, e, hn⟩ := spl32 l hm
      exact ⟨a :: p, q, by rw [e]; rfl, fun m => by rcases List.mem_cons.1 m with m | m; exact ha m.symm; exact hn m⟩
theorem cut_flag (s : ByteArray) : (cut32 s).2.2 = true ↔ (32 : UInt8) ∈ s.data.toList := by
  by_cases h : (32 : UInt8) ∈ s.data.toList
  · obtain ⟨p, q, e, hn⟩ := spl32 s.data.toList h
    rw [cut_at s p q e hn]
    exact ⟨fun _ => h, fun _ => rfl⟩
  · rw [cut_no s h]
    exact ⟨fun e => (by cases e), fun e => absurd e h⟩
def sideL (a1 : Int) : List UInt8 := if a1 = 2 then [114, 105, 103, 104, 116] else [108, 101, 102, 116]
def whyL (a3 : ByteArray) : List UInt8 := if a3.data.toList = [] then [] else 32 :: a3.data.toList
theorem lineS_list (a0 a1 : Int) (a2 a3 : ByteArray) : (lineS a0 a1 a2 a3).data.toList = ((hexS a0).data.toList ++ 32 :: (sideL a1 ++ 32 :: (a2.data.toList ++ whyL a3))) ++ [10] := by
  unfold lineS sideL whyL
  rw [toList_eq]
  by_cases h : a3.data.toList = []
  · rw [if_pos h, if_pos h]
    by_cases c : a1 = 2
    · simp only [if_pos c, app_list, List.append_assoc, List.cons_append, List.nil_append, List.append_nil]
    · simp only [if_neg c, app_list, List.append_assoc, List.cons_append, List.nil_append, List.append_nil]
  · rw [if_neg h, if_neg h]
    by_cases c : a1 = 2
    · simp only [if_pos c, app_list, List.append_assoc, List.cons_append, List.nil_append]
    · simp only [if_neg c, app_list, List.append_assoc, List.cons_append, List.nil_append]
theorem hex_chars (d : Int) : ∀ c ∈ (hexS d).data.toList, 48 ≤ c.toNat ∧ c.toNat ≤ 102 := by
  intro c hc
  unfold hexS at hc
  simp only [List.mem_map, List.mem_range] at hc
  obtain ⟨j, _, rfl⟩ := hc
  have hd : ∀ v : Nat, v < 16 → 48 ≤ digv v ∧ digv v ≤ 102 := by decide +kernel
  have n0 := nib_lo d j
  have n1 := nib_hi d j
  have := hd (nib d j).toNat (by omega)
  unfold hexc
  simp
  omega
theorem fault_zero {a1 : Int} {a2 a3 : ByteArray} (h : faultS a1 a2 a3 = 0) : (a1 = 1 ∨ a1 = 2) ∧ a2.size ≤ 32 ∧ a3.size ≤ 200 ∧ (∀ c ∈ a2.data.toList, 33 ≤ c.toNat ∧ c.toNat ≤ 126) ∧ (∀ c ∈ a3.data.toList, 32 ≤ c.toNat ∧ c.toNat ≤ 126) := by
  unfold faultS at h
  have all : ∀ (l : List UInt8) (lo : Nat), l.all (okc lo) = true → ∀ c ∈ l, lo ≤ c.toNat ∧ c.toNat ≤ 126 := fun l lo hl c hc => by
    have := List.all_eq_true.1 hl c hc
    unfold okc at this
    simp only [Bool.and_eq_true, decide_eq_true_eq] at this
    omega
  split at h
  · omega
  · rename_i q1
    split at h
    · omega
    · split at h
      · omega
      · rename_i q3
        split at h
        · rename_i q4
          split at h
          · omega
          · rename_i q5
            split at h
            · rename_i q6
              exact ⟨by omega, by omega, by omega, all _ 33 q4, all _ 32 q6⟩
            · omega
        · omega
theorem no_byte {l : List UInt8} {lo c : Nat} (h : ∀ x ∈ l, lo ≤ x.toNat ∧ x.toNat ≤ 126) (hc : c < lo) (c8 : UInt8) (e : c8.toNat = c) : c8 ∉ l := fun m => by
  have := h c8 m
  omega

theorem plain36_is (d : S35) : treemergelaw36_plain.f d.f0 d.f1 d.f2 d.f3 = some (decide (d.f2.size ≤ 300 ∧ d.f3.size ≤ 600)) := by
  unfold treemergelaw36_plain.f
  by_cases c : (d.f2.size : Int) ≤ 300
  · rw [if_pos c]
    by_cases c2 : d.f3.size ≤ 600
    · rw [decide_eq_true (by omega), decide_eq_true (by omega)]
    · rw [decide_eq_false (by omega), decide_eq_false (by omega)]
  · rw [if_neg c, decide_eq_false (by omega)]

end Go.Proofs.YtfajgjmhfpabiaaDoor.Scratch
