/- A fresh name: a base with a number behind it. -/
import Derived.Test.YtjkdgbndpdfkiaaDoorPureList
namespace Go.Proofs.YtjkdgbndpdfkiaaDoor.Pure
open Go.RowKit Go.Proofs.YtjkdgbndpdfkiaaDoor.Q Go.Proofs.YtjkdgbndpdfkiaaDoorW.PrintWords Go.Proofs.YtjkdgbndpdfkiaaDoorW.PrintLast

theorem cand_data (base : ByteArray) (n : Nat) : (cand base n).data.toList = base.data.toList.take (32 - (Lib.decDigits n).length) ++ Lib.decDigits n := by
  unfold cand
  have : (base.extract 0 (min base.size (32 - (Lib.decDigits n).length))).data.toList = base.data.toList.take (32 - (Lib.decDigits n).length) := by
    simp
    rw [Nat.min_comm]
  simp only [ByteArray.data_append, Array.toList_append, this]
theorem dd_two (n : Nat) (h : n < 71) (h' : 10 ≤ n) : (Lib.decDigits n).length = 2 := by
  have : ∀ n : Nat, n < 71 → 10 ≤ n → (Lib.decDigits n).length = 2 := by decide +kernel
  exact this n h h'
theorem dd_inj (i j : Nat) (hi : i < 71) (hj : j < 71) (h : Lib.decDigits i = Lib.decDigits j) : i = j := by
  have : ∀ i : Nat, i < 71 → ∀ j : Nat, j < 71 → Lib.decDigits i = Lib.decDigits j → i = j := by decide +kernel
  exact this i hi j hj h
theorem dd_word (n : Nat) (h : n < 100) : (Lib.decDigits n).all wordB = true := by
  have : ∀ n : Nat, n < 100 → (Lib.decDigits n).all wordB = true := by decide +kernel
  exact this n h
theorem dd_last (n : Nat) (h : n < 100) : ∀ w ∈ kws, w.getLast? ≠ (Lib.decDigits n).getLast? := by
  have : ∀ n : Nat, n < 100 → ∀ w ∈ kws, w.getLast? ≠ (Lib.decDigits n).getLast? := by decide +kernel
  exact this n h
theorem cand_inj (base : ByteArray) (i j : Nat) (hi : i < 71) (hj : j < 71) (hi' : 10 ≤ i) (hj' : 10 ≤ j) (h : cand base i = cand base j) : i = j := by
  have h' := congrArg (fun s : ByteArray => s.data.toList) h
  simp only [cand_data, dd_two i hi hi', dd_two j hj hj'] at h'
  exact dd_inj i j hi hj (List.append_cancel_left h')
theorem nodup_le (α : Type) [DecidableEq α] : ∀ (l m : List α), l.Nodup → (∀ x ∈ l, x ∈ m) → l.length ≤ m.length
  | [], _, _, _ => by simp
  | x :: l, m, h, hs => by
    have h' := List.nodup_cons.1 h
    have hx : x ∈ m := hs x (by simp)
    have := nodup_le α l (m.erase x) h'.2 fun y hy => (List.mem_erase_of_ne (fun e => h'.1 (by rw [← e]; exact hy))).2 (hs y (by simp [hy]))
    rw [List.length_erase_of_mem hx] at this
    have hp : 0 < m.length := List.length_pos_of_mem hx
    simp
    omega
theorem free_one (base : ByteArray) (taken : List ByteArray) (h : taken.length ≤ 60) : ∃ j, 10 ≤ j ∧ j ≤ 10 + taken.length ∧ inB taken (cand base j) = false := by
  refine Classical.byContradiction fun hn => ?_
  have hall : ∀ j, 10 ≤ j → j ≤ 10 + taken.length → cand base j ∈ taken := fun j h1 h2 => by
    rw [← inB_iff]
    cases hc : inB taken (cand base j) with
    | true => rfl
    | false => exact absurd ⟨j, h1, h2, hc⟩ hn
  have := nodup_le (List UInt8) ((List.range (taken.length + 1)).map fun i => D (cand base (10 + i))) (taken.map D) ?_ ?_
  · simp at this
    omega
  · rw [List.Nodup, List.pairwise_map]
    refine (List.nodup_range (n := taken.length + 1)).imp_of_mem fun {a b} ha hb hab e => hab ?_
    have ha' := List.mem_range.1 ha
    have hb' := List.mem_range.1 hb
    have := cand_inj base (10 + a) (10 + b) (by omega) (by omega) (by omega) (by omega) (D_inj.1 e)
    omega
  · intro x hx
    obtain ⟨i, hi, rfl⟩ := List.mem_map.1 hx
    have hi' := List.mem_range.1 hi
    exact List.mem_map.2 ⟨_, hall (10 + i) (by omega) (by omega), rfl⟩
theorem least (P : Nat → Bool) : ∀ m, P m = true → ∃ d, d ≤ m ∧ P d = true ∧ ∀ i, i < d → P i = false := by
  intro m
  induction m using Nat.strongRecOn with
  | _ m ih =>
    intro h
    by_cases hx : ∃ i, i < m ∧ P i = true
    · obtain ⟨i, hi, hp⟩ := hx
      obtain ⟨d, hd, a, b⟩ := ih i hi hp
      exact ⟨d, by omega, a, b⟩
    · refine ⟨m, Nat.le_refl _, h, fun i hi => ?_⟩
      cases hp : P i with
      | false => rfl
      | true => exact absurd ⟨i, hi, hp⟩ hx
/-- The first free number from 2 on. -/
theorem first_free (base : ByteArray) (taken : List ByteArray) (h : taken.length ≤ 60) : ∃ d, d ≤ 8 + taken.length ∧ inB taken (cand base (2 + d)) = false ∧ ∀ i, i < d → inB taken (cand base (2 + i)) = true := by
  obtain ⟨j, h1, h2, h3⟩ := free_one base taken h
  obtain ⟨d, a, b, c⟩ := least (fun i => !inB taken (cand base (2 + i))) (j - 2) (by
    rw [show 2 + (j - 2) = j by omega, h3]; rfl)
  exact ⟨d, by omega, by simpa using b, fun i hi => by simpa using c i hi⟩
theorem freshL_at (base : ByteArray) (taken : List ByteArray) : ∀ (d n e : Nat), (∀ i, i < d → inB taken (cand base (n + i)) = true) → inB taken (cand base (n + d)) = false →
    freshL base taken (d + e + 1) (n + 1) (cand base n) = some (cand base (n + d), 0) := by
  intro d
  induction d with
  | zero =>
    intro n e _ h
    rw [Nat.add_zero] at h
    rw [Nat.zero_add, freshL, if_neg, Nat.add_zero]
    intro hx
    exact Bool.noConfusion (hx.symm.trans h)
  | succ d ih =>
    intro n e ha h
    have h0 := ha 0 (by omega)
    rw [Nat.add_zero] at h0
    rw [show d + 1 + e + 1 = (d + e + 1) + 1 by omega, freshL, if_pos (show (taken.any fun x => decide (x = cand base n)) = true from h0), ih (n + 1) e (fun i hi => by rw [show n + 1 + i = n + (i + 1) by omega]; exact ha (i + 1) (by omega)) (by rw [show n + 1 + d = n + (d + 1) by omega]; exact h)]
    rw [show n + 1 + d = n + (d + 1) by omega]
theorem num_small (n : Nat) (h : n < 10) : strOfNums [(wrap64 (48 + (Int.tmod (n : Int) 10))) % 256] = ⟨(Lib.decDigits n).toArray⟩ := by
  have : ∀ n : Nat, n < 10 → (strOfNums [(wrap64 (48 + (Int.tmod (n : Int) 10))) % 256]).data.toList = Lib.decDigits n := by decide +kernel
  exact ByteArray.ext (Array.toList_inj.1 (this n h))
theorem num_large (n : Nat) (h : n < 100) (h' : 10 ≤ n) : (⟨(Lib.decDigits (n / 10)).toArray⟩ : ByteArray) ++ strOfNums [(wrap64 (48 + (Int.tmod (n : Int) 10))) % 256] = ⟨(Lib.decDigits n).toArray⟩ := by
  have : ∀ n : Nat, n < 100 → 10 ≤ n → ((⟨(Lib.decDigits (n / 10)).toArray⟩ : ByteArray) ++ strOfNums [(wrap64 (48 + (Int.tmod (n : Int) 10))) % 256]).data.toList = Lib.decDigits n := by decide +kernel
  exact ByteArray.ext (Array.toList_inj.1 (this n h h'))
theorem number_small (n : Nat) (h : n < 10) : Ev (fun k => treemergeref03_Number.f k (n : Int)) ⟨(Lib.decDigits n).toArray⟩ := by
  refine Ev.step (fun k => by rw [treemergeref03_Number.f, if_pos (by omega), num_small n h]) ?_
  exact Ev.now _
theorem number_ev (n : Nat) (h : n < 100) : Ev (fun k => treemergeref03_Number.f k (n : Int)) ⟨(Lib.decDigits n).toArray⟩ := by
  by_cases h1 : n < 10
  · exact number_small n h1
  · refine Ev.step (fun k => by rw [treemergeref03_Number.f, if_neg (by omega), show Int.tdiv (n : Int) 10 = ((n / 10 : Nat) : Int) by rw [Int.tdiv_eq_ediv_of_nonneg (by omega)]; omega, show wrap64 ((n / 10 : Nat) : Int) = ((n / 10 : Nat) : Int) by unfold wrap64; omega]) ?_
    refine (number_small (n / 10) (by omega)).bind (Ev.known rfl (Ev.pos ?_ ?_))
    · have := decDigits_small (n / 10) (by omega)
      rw [strOfNums_size, ByteArray.size]
      simp
      omega
    · rw [num_large n h (by omega)]
      exact Ev.now _
theorem cand_ev (base : ByteArray) (n : Nat) (h : n < 100) : Ev (fun k => treemergeref03_candidate.f k base (n : Int)) (cand base n) := by
  unfold treemergeref03_candidate.f
  have hd := decDigits_small n h
  have e : (⟨(Lib.decDigits n).toArray⟩ : ByteArray).size = (Lib.decDigits n).length := by simp [ByteArray.size]
  refine (number_ev n h).bind (Ev.pos (by omega) ?_)
  rw [e]
  exact Ev.now _
theorem rfresh_at (base : ByteArray) (taken : List ByteArray) (hl : taken.length ≤ 60) : ∀ (d n : Nat), n + d < 100 → (n + d : Nat) < 20 * taken.length + 20 → (∀ i, i < d → inB taken (cand base (n + i)) = true) → inB taken (cand base (n + d)) = false →
    Ev (fun k => treemergeref03_Fresh.l0 k base taken (n : Int)) (cand base (n + d), 0) := by
  intro d
  induction d with
  | zero =>
    intro n h1 h2 _ h
    rw [Nat.add_zero] at h
    refine Ev.step (fun k => by rw [treemergeref03_Fresh.l0, if_pos (by unfold wrap64; omega)]) ?_
    refine (cand_ev base n (by omega)).bind ((rhas_ev taken _ (by omega)).bind ?_)
    exact Ev.neg (by rw [h]; decide) (Ev.now _)
  | succ d ih =>
    intro n h1 h2 ha h
    have h0 := ha 0 (by omega)
    rw [Nat.add_zero] at h0
    refine Ev.step (fun k => by rw [treemergeref03_Fresh.l0, if_pos (by unfold wrap64; omega), show wrap64 ((n : Int) + 1) = ((n + 1 : Nat) : Int) by unfold wrap64; omega]) ?_
    refine (cand_ev base n (by omega)).bind ((rhas_ev taken _ (by omega)).bind (Ev.pos h0 ?_))
    have := ih (n + 1) (by omega) (by omega) (fun i hi => by rw [show n + 1 + i = n + (i + 1) by omega]; exact ha (i + 1) (by omega)) (by rw [show n + 1 + d = n + (d + 1) by omega]; exact h)
    rw [show n + 1 + d = n + (d + 1) by omega] at this
    exact this
theorem cand_valid (base : ByteArray) (n : Nat) (h : n < 100) (hb : vS base = true) : vS (cand base n) = true := by
  have hd := decDigits_small n h
  unfold vS at hb ⊢
  simp only [Bool.and_eq_true, decide_eq_true_eq] at hb ⊢
  obtain ⟨⟨⟨h1, h2⟩, _⟩, h4⟩ := hb
  have hs : (cand base n).size = (cand base n).data.toList.length := size_len _
  rw [cand_data, List.length_append, List.length_take, ← size_len] at hs
  refine ⟨⟨⟨by omega, by omega⟩, ?_⟩, ?_⟩
  · unfold kw
    rw [Bool.not_eq_true', decide_eq_false_iff_not]
    intro hk
    refine dd_last n h _ hk ?_
    rw [cand_data, List.getLast?_append]
    cases hx : (Lib.decDigits n).getLast? with
    | none =>
      rw [List.getLast?_eq_none_iff] at hx
      rw [hx] at hd
      simp at hd
    | some c => rfl
  · rw [cand_data]
    cases hb : base.data.toList with
    | nil =>
      rw [size_len, hb] at h1
      simp at h1
    | cons c r =>
      rw [hb] at h4
      obtain ⟨m, hm⟩ : ∃ m, 32 - (Lib.decDigits n).length = m + 1 := ⟨31 - (Lib.decDigits n).length, by omega⟩
      rw [hm, List.take_succ_cons, List.cons_append, vl]
      rw [vl, Bool.and_eq_true] at h4
      rw [Bool.and_eq_true]
      refine ⟨h4.1, ?_⟩
      rw [List.all_append, dd_word n h, Bool.and_true]
      rw [List.all_eq_true] at h4 ⊢
      intro x hx
      exact h4.2 x (List.mem_of_mem_take hx)
theorem fresh_all (base : ByteArray) (taken : List ByteArray) (hl : taken.length ≤ 60) (hb : base.size ≤ 140737488351232) (hv : vS base = true) :
    ∃ r, name_Fresh.f base taken = some (r, 0) ∧ Ev (fun k => treemergeref03_Fresh.f k base taken) (r, 0) ∧ vS r = true ∧ inB taken r = false ∧ (inB taken base = false → r = base) := by
  unfold name_Fresh.f treemergeref03_Fresh.f
  rw [valid_of, hv]
  cases ht : inB taken base with
  | false =>
    refine ⟨base, ?_, ?_, hv, ht, fun _ => rfl⟩
    · rw [Option.bind_some, if_pos rfl, show (98 : Nat) = 97 + 1 from rfl, freshL, if_neg]
      intro hx
      exact Bool.noConfusion (hx.symm.trans ht)
    · refine (rvalid_ev base hb).bind (Ev.pos hv ((rhas_ev taken base (by omega)).bind (Ev.neg (by rw [ht]; decide) (Ev.now _))))
  | true =>
    obtain ⟨d, h1, h2, h3⟩ := first_free base taken hl
    refine ⟨cand base (2 + d), ?_, ?_, cand_valid base _ (by omega) hv, h2, fun h => by cases h⟩
    · rw [Option.bind_some, if_pos rfl, show (98 : Nat) = 97 + 1 from rfl, freshL, if_pos (show (taken.any fun x => decide (x = base)) = true from ht)]
      have := freshL_at base taken d 2 (96 - d) h3 h2
      rw [show d + (96 - d) + 1 = 97 by omega] at this
      exact this
    · refine (rvalid_ev base hb).bind (Ev.pos hv ((rhas_ev taken base (by omega)).bind (Ev.pos ht ?_)))
      exact rfresh_at base taken hl d 2 (by omega) (by omega) h3 h2
end Go.Proofs.YtjkdgbndpdfkiaaDoor.Pure
