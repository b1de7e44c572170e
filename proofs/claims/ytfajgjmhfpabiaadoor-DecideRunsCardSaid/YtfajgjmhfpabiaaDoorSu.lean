/- What the reference makes of a run's steps: proved here by steps through the program's text; no condition but those that stand in each theorem. -/
import Derived.WalkSpells
import Derived.Deep.RegionLaw
import Derived.Lib.OthersKept
import Derived.Test.YtfajgjmhfpabiaaDoorShelf
import Derived.Test.YtfajgjmhfpabiaaDoorQ0
import Derived.Test.YtfajgjmhfpabiaaDoorQ4
import Derived.Test.YtfajgjmhfpabiaaDoorQ5
import Derived.Test.YtfajgjmhfpabiaaDoorSb
import Derived.Test.YtfajgjmhfpabiaaDoorSe
import Derived.Test.YtfajgjmhfpabiaaDoorSg
import Derived.Test.YtfajgjmhfpabiaaDoorSh
import Derived.Test.YtfajgjmhfpabiaaDoorSi
import Derived.Test.YtfajgjmhfpabiaaDoorSj
import Derived.Test.YtfajgjmhfpabiaaDoorSm
import Derived.Test.YtfajgjmhfpabiaaDoorSq
import Derived.Test.YtfajgjmhfpabiaaDoorQ9
import Derived.Test.YtfajgjmhfpabiaaDoorQ7
import Derived.Test.YtfajgjmhfpabiaaDoorQ10
import Derived.Test.YtfajgjmhfpabiaaDoorQ8
namespace Go.Proofs.YtfajgjmhfpabiaaDoor.Scratch
set_option linter.unusedVariables false
open Go.RowKit Go.Proofs.YtfajgjmhfpabiaaDoorW.PrintWords Go.Proofs.YtfajgjmhfpabiaaDoorW.PrintLast Go.Proofs.YtfajgjmhfpabiaaDoorW.PrintMore Go.Proofs.YtfajgjmhfpabiaaDoor.Q
attribute [local go_sem] max2_int min2_int max_two min_two max_three min_three max_four min_four
theorem addAll_mem : ∀ (l L : List S35) (d : S35), d ∈ addAll L l → d ∈ L ∨ (d ∈ l ∧ faultS d.f1 d.f2 d.f3 = 0)
  | [], L, d, h => .inl h
  | x :: l, L, d, h => by
    rcases addAll_mem l (bookAdd L x).1 d h with q | ⟨q, f⟩
    · unfold bookAdd at q
      split at q
      · exact .inl q
      · rename_i c
        have hf : faultS x.f1 x.f2 x.f3 = 0 := by simpa using c
        split at q
        · rcases bookPut_mem L x d q with e | e
          · exact .inr ⟨by rw [e]; exact List.mem_cons_self, by rw [e]; exact hf⟩
          · exact .inl e
        · split at q
          · exact .inl q
          · rcases bookPut_mem L x d q with e | e
            · exact .inr ⟨by rw [e]; exact List.mem_cons_self, by rw [e]; exact hf⟩
            · exact .inl e
    · exact .inr ⟨List.mem_cons_of_mem _ q, f⟩

theorem bytes_is (s : ByteArray) (lo : Int) (hs : s.size < 2 ^ 62) (m : Nat) : ∀ (g i : Nat), i + g = s.size → treemergeref36_bytes.l0 (g + 1 + m) s lo (i : Int) = some ((s.data.toList.drop i).all (okc lo))
  | 0, i, h => by
    rw [show 0 + 1 + m = m + 1 by omega, treemergeref36_bytes.l0, if_neg (by omega), List.drop_of_length_le (by rw [Array.length_toList]; show s.size ≤ i; omega)]
    rfl
  | g + 1, i, h => by
    have hi : i < s.size := by omega
    have hl : i < s.data.toList.length := by rw [Array.length_toList]; exact hi
    have hb : bt s (i : Int) = ((s.data.toList[i]'hl).toNat : Int) := by
      rw [bt_idx s i hi]
      rfl
    have hw : wrap64 ((i : Int) + 1) = ((i + 1 : Nat) : Int) := by
      unfold wrap64
      omega
    rw [show g + 1 + 1 + m = (g + 1 + m) + 1 by omega, treemergeref36_bytes.l0, if_pos (by omega), if_pos (by omega), hb, hw, bytes_is s lo hs m g (i + 1) (by omega), List.drop_eq_getElem_cons hl, List.all_cons]
    by_cases c1 : ((s.data.toList[i]'hl).toNat : Int) < lo
    · rw [if_pos c1, okc, decide_eq_false (by omega)]
      rfl
    · rw [if_neg c1]
      by_cases c2 : ((s.data.toList[i]'hl).toNat : Int) > 126
      · rw [if_pos c2, okc, decide_eq_true (show lo ≤ _ by omega), decide_eq_false (show ¬ ((s.data.toList[i]'hl).toNat : Int) ≤ 126 by omega)]
        rfl
      · rw [if_neg c2, okc, decide_eq_true (show lo ≤ _ by omega), decide_eq_true (show ((s.data.toList[i]'hl).toNat : Int) ≤ 126 by omega)]
        rfl
theorem bytesF (s : ByteArray) (a b lo : Int) (hb : b ≤ 900) : treemergeref36_bytes.f 1999 s a b lo = some (if (s.size : Int) < a ∨ (s.size : Int) > b then false else s.data.toList.all (okc lo)) := by
  unfold treemergeref36_bytes.f
  by_cases c : (s.size : Int) < a
  · rw [if_pos c, treemergeref36_bytes.j0, if_pos rfl, if_pos (.inl c)]
  · rw [if_neg c, treemergeref36_bytes.j0]
    by_cases e : (s.size : Int) > b
    · rw [if_pos (by simpa using e), if_pos (.inr e)]
    · rw [if_neg (by simpa using e), if_neg (by omega)]
      have h := bytes_is s lo (by omega) (1997 - s.size) s.size 0 (by omega)
      rw [show s.size + 1 + (1997 - s.size) = 1998 by omega, List.drop_zero] at h
      exact h
theorem toList_nil_size (s : ByteArray) : s.toList = [] ↔ (s.size : Int) < 1 := by
  rw [toList_eq]
  have : s.data.toList.length = s.size := Array.length_toList ..
  constructor
  · intro h
    rw [h] at this
    simp at this
    omega
  · intro h
    exact List.eq_nil_of_length_eq_zero (by omega)
theorem valid_is (a0 a1 : Int) (a2 a3 : ByteArray) : treemergeref36_Valid.f 2000 a0 a1 a2 a3 = some (faultS a1 a2 a3) := by
  have hj : ∀ x, treemergeref36_Valid.j0 2000 x a0 a1 a2 a3 = some (if x = true then 2 else if a2.toList = [] then 1 else if (a2.size : Int) > 32 then 1 else if (a2.data.toList.all (okc 33)) = true then (if (a3.size : Int) > 200 then 1 else if (a3.data.toList.all (okc 32)) = true then 0 else 1) else 1) := fun x => by
    rw [treemergeref36_Valid.j0, bytesF a2 1 32 33 (by decide), Option.bind_some, bytesF a3 0 200 32 (by decide)]
    by_cases c0 : x = true
    · rw [if_pos c0, if_pos c0]
    · rw [if_neg c0, if_neg c0]
      by_cases c1 : a2.toList = []
      · rw [if_pos c1, if_pos (show (a2.size : Int) < 1 ∨ (a2.size : Int) > 32 from .inl ((toList_nil_size a2).1 c1))]
        rfl
      · have c1' : ¬ (a2.size : Int) < 1 := fun h => c1 ((toList_nil_size a2).2 h)
        rw [if_neg c1]
        by_cases c2 : (a2.size : Int) > 32
        · rw [if_pos c2, if_pos (show (a2.size : Int) < 1 ∨ (a2.size : Int) > 32 from .inr c2)]
          rfl
        · rw [if_neg c2, if_neg (show ¬ ((a2.size : Int) < 1 ∨ (a2.size : Int) > 32) by omega)]
          by_cases c3 : a2.data.toList.all (okc 33) = true
          · rw [if_pos c3, if_pos c3, Option.bind_some]
            by_cases c4 : (a3.size : Int) > 200
            · rw [if_pos c4, if_pos (show (a3.size : Int) < 0 ∨ (a3.size : Int) > 200 from .inr c4)]
              rfl
            · rw [if_neg c4, if_neg (show ¬ ((a3.size : Int) < 0 ∨ (a3.size : Int) > 200) by omega)]
              by_cases c5 : a3.data.toList.all (okc 32) = true
              · rw [if_pos c5, if_pos c5]
              · rw [if_neg c5, if_neg c5]
          · rw [if_neg c3, if_neg c3]
  unfold treemergeref36_Valid.f faultS
  by_cases h1 : a1 = 1
  · rw [if_pos h1, hj]
    simp [h1]
  · rw [if_neg h1, hj]
    by_cases h2 : a1 = 2
    · simp [h2]
    · simp [h1, h2]

theorem Ev.up {α : Type} {g : Nat → Option α} {r : α} {K : Nat} (hm : ∀ k, LeO (g k) (g (k + 1))) (h : g K = some r) : Ev g r := Ev.of hm h
theorem valid_ev (a0 a1 : Int) (a2 a3 : ByteArray) : Ev (fun k => treemergeref36_Valid.f k a0 a1 a2 a3) (faultS a1 a2 a3) := Ev.of (fun k => treemergeref36_Valid.mono _ _ _ _ k) (valid_is a0 a1 a2 a3)
theorem hexd_is (v : Nat) (h : v < 16) : (⟨#[48, 49, 50, 51, 52, 53, 54, 55, 56, 57, 97, 98, 99, 100, 101, 102]⟩ : ByteArray).extract v (v + 1) = ⟨#[UInt8.ofNat (digv v).toNat]⟩ := by
  have : ∀ v : Nat, v < 16 → (⟨#[48, 49, 50, 51, 52, 53, 54, 55, 56, 57, 97, 98, 99, 100, 101, 102]⟩ : ByteArray).extract v (v + 1) = ⟨#[UInt8.ofNat (digv v).toNat]⟩ := by decide +kernel
  exact this v h
theorem rhex_loop (d : Int) (h0 : 0 ≤ d) (h1 : d < 2 ^ 64) : ∀ (g i : Nat) (o : ByteArray), i + g = 16 → o.data.toList = (List.range i).map (fun j => UInt8.ofNat (hexc d j).toNat) → Ev (fun k => treemergeref02_Hex.l0 k d o (60 - 4 * (i : Int))) (hexS d) := by
  intro g
  induction g with
  | zero =>
    intro i o hi ho
    have e : o = hexS d := ba_ext (by rw [ho, show i = 16 by omega]; rfl)
    rw [e]
    exact Ev.step (fun k => by rw [treemergeref02_Hex.l0, if_neg (by omega)]) (Ev.now _)
  | succ g ih =>
    intro i o hi ho
    have hz : o.size = i := by rw [← ba_len, ho]; simp
    have hm : (60 - 4 * (i : Int)).toNat = 60 - 4 * i := by omega
    have hs : shr .u64 d (60 - 4 * (i : Int)) = d / 2 ^ (60 - 4 * i) := by
      unfold shr
      rw [hm, Nat.min_eq_left (by show 60 - 4 * i ≤ 64; omega)]
    have hq0 : 0 ≤ d / 2 ^ (60 - 4 * i) := Int.ediv_nonneg h0 (Int.pow_nonneg (by decide))
    have hq1 : d / 2 ^ (60 - 4 * i) < 2 ^ 64 := by
      have := Int.ediv_le_self (2 ^ (60 - 4 * i)) h0
      omega
    have hn : Go.bits .and .u64 (shr .u64 d (60 - 4 * (i : Int))) 15 = nib d i := by
      rw [hs]
      exact u64_and15 _ hq0 hq1
    have n0 := nib_lo d i
    have n1 := nib_hi d i
    have w1 : wrap64 (nib d i) = nib d i := by unfold wrap64; omega
    have w2 : wrap64 (nib d i + 1) = nib d i + 1 := by unfold wrap64; omega
    have w3 : wrap64 (60 - 4 * (i : Int) - 4) = 60 - 4 * ((i + 1 : Nat) : Int) := by unfold wrap64; omega
    have t1 : (nib d i + 1).toNat = (nib d i).toNat + 1 := by omega
    have hx := hexd_is (nib d i).toNat (by omega)
    refine Ev.step (fun k => by rw [treemergeref02_Hex.l0, if_pos (by omega), if_pos (by omega), hn, w1, w2, if_pos n0, if_pos (by omega), if_pos (by omega), t1, hx, w3, if_pos (by rw [hz]; show i + 1 ≤ _; omega)]) ?_
    refine ih (i + 1) _ (by omega) ?_
    rw [app_list, ho, List.range_succ, List.map_append]
    rfl
theorem rhex_ev (d : Int) (h0 : 0 ≤ d) (h1 : d < 2 ^ 64) : Ev (fun k => treemergeref02_Hex.f k d) (hexS d) := by
  unfold treemergeref02_Hex.f
  exact rhex_loop d h0 h1 16 0 _ (by omega) rfl
theorem rline_ev (a0 a1 : Int) (a2 a3 : ByteArray) (h0 : 0 ≤ a0) (h1 : a0 < 2 ^ 64) (ha : a1 = 1 ∨ a1 = 2) (z2 : a2.size ≤ 1000000) (z3 : a3.size ≤ 1000000) : Ev (fun k => treemergeref36_Line.f k a0 a1 a2 a3) (lineS a0 a1 a2 a3) := by
  unfold treemergeref36_Line.f
  refine (rhex_ev a0 h0 h1).bind ?_
  have hz := hexS_size a0
  have l6 : (⟨#[32, 108, 101, 102, 116, 32]⟩ : ByteArray).size = 6 := rfl
  have l7 : (⟨#[32, 114, 105, 103, 104, 116, 32]⟩ : ByteArray).size = 7 := rfl
  have l1 : (⟨#[32]⟩ : ByteArray).size = 1 := rfl
  have as4 : ∀ a b c d e : ByteArray, a ++ b ++ c ++ (d ++ e) = a ++ b ++ c ++ d ++ e := fun a b c d e => by simp only [ByteArray.append_assoc]
  unfold lineS
  generalize hexS a0 = x at *
  rcases ha with rfl | rfl
  · rw [if_neg (show ¬ (1 : Int) = 2 by decide)]
    refine Ev.pos rfl (Ev.pos (by omega) (Ev.pos (by rw [ByteArray.size_append]; omega) ?_))
    by_cases c : a3.toList = []
    · simp only [if_pos c]
      exact Ev.pos (by simp only [ByteArray.size_append]; omega) (Ev.now _)
    · simp only [if_neg c]
      rw [as4]
      exact Ev.pos (by simp only [ByteArray.size_append]; omega) (Ev.pos (by simp only [ByteArray.size_append]; omega) (Ev.pos (by simp only [ByteArray.size_append]; omega) (Ev.now _)))
  · rw [if_pos rfl]
    refine Ev.neg (by decide) (Ev.pos (by omega) (Ev.pos (by rw [ByteArray.size_append]; omega) ?_))
    by_cases c : a3.toList = []
    · simp only [if_pos c]
      exact Ev.pos (by simp only [ByteArray.size_append]; omega) (Ev.now _)
    · simp only [if_neg c]
      rw [as4]
      exact Ev.pos (by simp only [ByteArray.size_append]; omega) (Ev.pos (by simp only [ByteArray.size_append]; omega) (Ev.pos (by simp only [ByteArray.size_append]; omega) (Ev.now _)))
theorem same_loop (L : List S35) (hl : L.length ≤ 1000000) : ∀ (g i : Nat), i + g = L.length → Ev (fun k => treemergeref36_Same.l0 k L L (i : Int)) true := by
  intro g
  induction g with
  | zero =>
    intro i hi
    exact Ev.step (fun k => by rw [treemergeref36_Same.l0, if_neg (by omega)]) (Ev.now _)
  | succ g ih =>
    intro i hi
    have wu : wrap64 ((i : Int) + 1) = ((i + 1 : Nat) : Int) := by unfold wrap64; omega
    refine Ev.step (fun k => by rw [treemergeref36_Same.l0, if_pos (by omega), if_pos (by omega), if_pos (by omega), wu, if_neg (by simp)]) ?_
    exact ih (i + 1) (by omega)
theorem same_ev (L : List S35) (hl : L.length ≤ 1000000) : Ev (fun k => treemergeref36_Same.f k L L) true := by
  unfold treemergeref36_Same.f
  exact Ev.pos rfl (same_loop L hl L.length 0 (by omega))

theorem rsum_loop (s : ByteArray) (hs : s.size ≤ 140737488351232) : ∀ (m i : Nat) (d : Int), i + m = s.size → Ev (fun k => treemergeref02_Sum.l0 k s d (i : Int)) (dsum (s.data.toList.drop i) d) := by
  intro m
  induction m with
  | zero =>
    intro i d hi
    refine Ev.step (fun k => by rw [treemergeref02_Sum.l0, if_neg (by omega)]) ?_
    rw [List.drop_of_length_le (by simp; omega)]
    exact Ev.now _
  | succ m ih =>
    intro i d hi
    have hlt : i < s.data.toList.length := by simp; omega
    refine Ev.step (fun k => by rw [treemergeref02_Sum.l0, if_pos (by omega), if_pos (by omega), wrap_upI (n := s.size) (by omega) (by omega) hs]) ?_
    rw [List.drop_eq_getElem_cons hlt, bt_get s i hlt]
    exact ih (i + 1) _ (by omega)
theorem rsum_ev (s : ByteArray) (hs : s.size ≤ 140737488351232) : Ev (fun k => treemergeref02_Sum.f k s) (dsum s.data.toList 14695981039346656037) := by
  have := rsum_loop s hs s.size 0 14695981039346656037 (by omega)
  simpa [treemergeref02_Sum.f] using this
theorem shr_u64 (x : Int) (i : Nat) (hi : i < 64) : shr .u64 x (i : Int) = x / 2 ^ i := by
  unfold shr
  simp only [Int.toNat_natCast, IntKind.bits]
  rw [Nat.min_eq_left (by omega)]
theorem number_loop (n : Int) : ∀ (j : Nat) (d : Int), j ≤ 8 → Ev (fun k => treemergeref02_number.l0 k n d (8 * (j : Int) - 8)) (dnum n j d) := by
  intro j
  induction j with
  | zero =>
    intro d _
    exact Ev.step (fun k => by rw [treemergeref02_number.l0, if_neg (by omega)]; rfl) (Ev.now _)
  | succ j ih =>
    intro d hj
    have e : (8 * ((j + 1 : Nat) : Int) - 8) = ((8 * j : Nat) : Int) := by omega
    refine Ev.step (fun k => by rw [treemergeref02_number.l0, if_pos (by omega), if_pos (by omega)]) ?_
    have hw : wrap64 (8 * ((j + 1 : Nat) : Int) - 8 - 8) = 8 * (j : Int) - 8 := by unfold wrap64; omega
    rw [hw, e, shr_u64 _ _ (by omega)]
    exact ih _ (by omega)
theorem number_ev (d n : Int) : Ev (fun k => treemergeref02_number.f k d n) (dnum n 8 d) := number_loop n 8 d (by omega)
theorem mix_ev (a b : Int) : Ev (fun k => treemergeref02_Mix.f k a b) (dnum b 8 (dnum a 8 14695981039346656037)) := by
  unfold treemergeref02_Mix.f
  exact (rsum_ev ⟨#[]⟩ (by decide)).bind ((number_ev _ a).bind ((number_ev _ b).bind (Ev.now _)))

theorem rall_loop (l : List ByteArray) (hl : l.length * 16 ≤ 140737488351232) (hs : ∀ s ∈ l, s.size ≤ 140737488351232) : ∀ (m i : Nat) (d : Int), i + m = l.length → Ev (fun k => treemergeref02_All.l0 k l d (i : Int)) (dlen l.length (dall (l.drop i) d)) := by
  intro m
  induction m with
  | zero =>
    intro i d hi
    refine Ev.step (fun k => by rw [treemergeref02_All.l0, if_neg (by omega)]) ?_
    rw [List.drop_of_length_le (by omega)]
    exact (mix_ev _ _).bind (Ev.now _)
  | succ m ih =>
    intro i d hi
    have hlt : i < l.length := by omega
    rw [List.drop_eq_getElem_cons hlt, dall_cons]
    refine Ev.step (fun k => by rw [treemergeref02_All.l0, if_pos (by omega), if_pos (by omega), wrap_upI (n := l.length) (by omega) (by omega) (by omega), rdOf_at l i hlt]) ?_
    refine (rsum_ev _ (hs _ (List.getElem_mem hlt))).bind ((mix_ev _ _).bind ?_)
    exact ih (i + 1) _ (by omega)
theorem rall_ev (l : List ByteArray) (hl : l.length * 16 ≤ 140737488351232) (hs : ∀ s ∈ l, s.size ≤ 140737488351232) : Ev (fun k => treemergeref02_All.f k l) (dlen l.length (dall l 14695981039346656037)) :=
  (rsum_ev ⟨#[]⟩ (by decide)).bind (rall_loop l hl hs l.length 0 _ (by omega))

theorem num_digit (n : Nat) : strOfNums [(wrap64 (48 + (Int.tmod (n : Int) 10))) % 256] = ⟨#[UInt8.ofNat (48 + n % 10)]⟩ := by
  have hd : ∀ r : Nat, r < 10 → strOfNums [(wrap64 (48 + (r : Int))) % 256] = ⟨#[UInt8.ofNat (48 + r)]⟩ := by
    intro r hr
    have : ∀ r : Nat, r < 10 → (strOfNums [(wrap64 (48 + (r : Int))) % 256]).data.toList = [UInt8.ofNat (48 + r)] := by decide +kernel
    exact ba_ext (this r hr)
  rw [show Int.tmod (n : Int) 10 = ((n % 10 : Nat) : Int) by rw [Int.tmod_eq_emod_of_nonneg (by omega)]; omega]
  exact hd (n % 10) (by omega)
theorem dec_len (n : Nat) (h : n < 9223372036854775808) : (Lib.decDigits n).length ≤ 21 := by
  have := Lib.itoa_length_le (n : Int) (by omega) (by omega)
  rw [Lib.itoa_nonneg] at this
  exact this
theorem number_ev03 : ∀ (n : Nat), n < 9223372036854775808 → Ev (fun k => treemergeref03_Number.f k (n : Int)) ⟨(Lib.decDigits n).toArray⟩ := by
  intro n
  induction n using Nat.strongRecOn with
  | _ n ih =>
    intro h
    rw [Lib.decDigits]
    by_cases c : n < 10
    · rw [dif_pos c]
      refine Ev.step (fun k => by rw [treemergeref03_Number.f, if_pos (by omega), num_digit, show n % 10 = n by omega]) (Ev.now _)
    · rw [dif_neg c]
      have h2 := ih (n / 10) (by omega) (by omega)
      have hl := dec_len (n / 10) (by omega)
      refine Ev.step (fun k => by rw [treemergeref03_Number.f, if_neg (by omega), show Int.tdiv (n : Int) 10 = ((n / 10 : Nat) : Int) by rw [Int.tdiv_eq_ediv_of_nonneg (by omega)]; omega, show wrap64 ((n / 10 : Nat) : Int) = ((n / 10 : Nat) : Int) by unfold wrap64; omega]) ?_
      refine h2.bind ?_
      simp only [Option.bind_some]
      rw [num_digit]
      refine Ev.pos ?_ ?_
      · show (Lib.decDigits (n / 10)).toArray.size + 1 ≤ _
        rw [List.size_toArray]
        omega
      · refine Ev.cast ?_ (Ev.now _)
        exact ba_ext (by first | (rw [app_list]; done) | (rw [app_list]; simp))
theorem decimal_ev (n : Int) (h0 : -9223372036854775808 ≤ n) (h1 : n ≤ 9223372036854775807) : Ev (fun k => treemergeref03_Decimal.f k n) ⟨(Lib.itoa n).toArray⟩ := by
  unfold treemergeref03_Decimal.f
  by_cases c : n ≥ 0
  · obtain ⟨m, rfl⟩ := Int.eq_ofNat_of_zero_le c
    rw [Lib.itoa_nonneg]
    exact Ev.pos (by omega) ((number_ev03 m (by omega)).bind (Ev.now _))
  · obtain ⟨m, hm, rfl⟩ : ∃ m : Nat, 1 ≤ m ∧ n = -(m : Int) := ⟨n.natAbs, by omega, by omega⟩
    rw [Lib.itoa_neg m hm]
    have e1 : Int.tdiv (-(m : Int)) 10 = -((m / 10 : Nat) : Int) := by rw [Int.neg_tdiv, Int.tdiv_eq_ediv_of_nonneg (by omega)]; omega
    have e2 : Int.tmod (-(m : Int)) 10 = -((m % 10 : Nat) : Int) := by rw [Int.neg_tmod, Int.tmod_eq_emod_of_nonneg (by omega)]; omega
    have w1 : wrap64 (-((m / 10 : Nat) : Int)) = -((m / 10 : Nat) : Int) := by unfold wrap64; omega
    have w2 : wrap64 (- -((m % 10 : Nat) : Int)) = ((m % 10 : Nat) : Int) := by unfold wrap64; omega
    have w3 : wrap64 (- -((m / 10 : Nat) : Int)) = ((m / 10 : Nat) : Int) := by unfold wrap64; omega
    have hl := dec_len (m / 10) (by omega)
    have hr := dec_len (m % 10) (by omega)
    have hn := number_ev03 (m % 10) (by omega)
    have hq := number_ev03 (m / 10) (by omega)
    have l1 : (⟨#[45]⟩ : ByteArray).size = 1 := rfl
    rw [e1, e2, w1, w2, w3]
    refine Ev.neg c ?_
    by_cases d : m / 10 = 0
    · refine Ev.pos (by omega) (hn.bind (Ev.pos ?_ (Ev.cast ?_ (Ev.now _))))
      · show 1 + (Lib.decDigits (m % 10)).toArray.size ≤ _
        rw [List.size_toArray]
        omega
      · rw [show m % 10 = m by omega]
        exact ba_ext (by first | (rw [app_list]; done) | (rw [app_list]; simp))
    · refine Ev.neg (by omega) (hq.bind (Ev.pos ?_ (hn.bind (Ev.pos ?_ (Ev.cast ?_ (Ev.now _))))))
      · show 1 + (Lib.decDigits (m / 10)).toArray.size ≤ _
        rw [List.size_toArray]
        omega
      · rw [ByteArray.size_append]
        show 1 + (Lib.decDigits (m / 10)).toArray.size + (Lib.decDigits (m % 10)).toArray.size ≤ _
        rw [List.size_toArray, List.size_toArray]
        omega
      · have e3 : Lib.decDigits m = Lib.decDigits (m / 10) ++ Lib.decDigits (m % 10) := by
          rw [Lib.decDigits, dif_neg (by omega)]
          congr 1
          rw [Lib.decDigits, dif_pos (by omega)]
        exact ba_ext (by rw [app_list, app_list, e3]; simp)
theorem rkey_ev (c : S56) (h : FewC c) : Ev (fun k => treemergeref34_Key.f k c.f0 c.f1 c.f2 c.f3 c.f4) (keyS c) := by
  unfold treemergeref34_Key.f keyS
  exact (decimal_ev c.f0 h.1.1 h.1.2).bind ((rall_ev [⟨(Lib.itoa c.f0).toArray⟩, c.f2, c.f3, c.f4] (by simp) (key_list c h)).bind (Ev.now _))


def tupO (o : Option S35) : Int × Int × ByteArray × ByteArray × Bool := match o with
  | some d => (d.f0, d.f1, d.f2, d.f3, true)
  | none => (0, 0, ⟨#[]⟩, ⟨#[]⟩, false)
theorem rfind_loop (L : List S35) (key : Int) (hl : L.length ≤ 1000000) : ∀ (g i : Nat), i + g = L.length → Ev (fun k => treemergeref36_Find.l0 k L key (i : Int)) (tupO (bookIn (L.drop i) key)) := by
  intro g
  induction g with
  | zero =>
    intro i hi
    rw [List.drop_of_length_le (by omega)]
    exact Ev.step (fun k => by rw [treemergeref36_Find.l0, if_neg (by omega)]; rfl) (Ev.now _)
  | succ g ih =>
    intro i hi
    have hil : i < L.length := by omega
    have wu : wrap64 ((i : Int) + 1) = ((i + 1 : Nat) : Int) := by unfold wrap64; omega
    have hrd : rd_T35 L (i : Int) = L[i] := by simp [rd_T35, List.getD_eq_getElem?_getD, List.getElem?_eq_getElem hil]
    rw [List.drop_eq_getElem_cons hil, bookIn_cons]
    refine Ev.step (fun k => by rw [treemergeref36_Find.l0, if_pos (by omega), if_pos (by omega), hrd, wu]) ?_
    by_cases c : L[i].f0 = key
    · simp only [if_pos c]
      exact Ev.now _
    · simp only [if_neg c]
      exact ih (i + 1) (by omega)
theorem rfind_ev (L : List S35) (key : Int) (hl : L.length ≤ 1000000) : Ev (fun k => treemergeref36_Find.f k L key) (tupO (bookIn L key)) := by
  unfold treemergeref36_Find.f
  exact rfind_loop L key hl L.length 0 (by omega)

/-- Decisions with different keys: what is found in a book of them. -/
theorem addAll_find : ∀ (l L : List S35) (k : Int), Asc L → (l.map fun d => d.f0).Nodup → L.length + l.length ≤ 256 → (∀ d ∈ l, bookIn L d.f0 = none) → bookIn (addAll L l) k = match l.find? (fun d => decide (d.f0 = k ∧ faultS d.f1 d.f2 d.f3 = 0)) with | some d => some d | none => bookIn L k
  | [], L, k, _, _, _, _ => rfl
  | d :: l, L, k, ha, hn, hl, hf => by
    have hc := List.nodup_cons.1 (show (d.f0 :: l.map fun d => d.f0).Nodup from hn)
    have h0 := hf d List.mem_cons_self
    rw [List.length_cons] at hl
    show bookIn (addAll (bookAdd L d).1 l) k = _
    by_cases c : faultS d.f1 d.f2 d.f3 = 0
    · have e : (bookAdd L d).1 = bookPut L d := by
        unfold bookAdd
        rw [if_neg (by simpa using c), h0, if_neg (by simp), if_neg (by omega)]
      have hlen := bookPut_len_new L d ha h0
      rw [e, addAll_find l (bookPut L d) k (bookPut_asc L d ha) hc.2 (by omega) (fun x hx => by
        rw [bookIn_put L d x.f0 ha, if_neg (fun q => hc.1 (by rw [← q]; exact List.mem_map.2 ⟨x, hx, rfl⟩))]
        exact hf x (List.mem_cons_of_mem _ hx)), bookIn_put L d k ha]
      by_cases q : d.f0 = k
      · have hno : l.find? (fun d => decide (d.f0 = k ∧ faultS d.f1 d.f2 d.f3 = 0)) = none := List.find?_eq_none.2 (fun x hx p => by
          simp only [decide_eq_true_eq] at p
          exact hc.1 (by rw [q, ← p.1]; exact List.mem_map.2 ⟨x, hx, rfl⟩))
        rw [hno, List.find?_cons_of_pos (by simpa using ⟨q, c⟩)]
        simp only [if_pos q.symm]
      · rw [List.find?_cons_of_neg (by simp; exact fun e => absurd e q), if_neg (fun e => q e.symm)]
    · have e : (bookAdd L d).1 = L := by
        unfold bookAdd
        rw [if_pos (by simpa using c)]
      rw [e, addAll_find l L k ha hc.2 (by omega) (fun x hx => hf x (List.mem_cons_of_mem _ hx)), List.find?_cons_of_neg (by simp; exact fun _ => c)]
theorem asc_mem_find {L : List S35} (h : Asc L) (d : S35) : d ∈ L ↔ bookIn L d.f0 = some d := by
  constructor
  · intro hm
    obtain ⟨i, hi, e⟩ := List.mem_iff_getElem.1 hm
    rw [← e]
    exact bookIn_at h.nodup hi
  · intro e
    exact List.mem_of_find?_eq_some e
theorem bookIn_key {L : List S35} {k : Int} {d : S35} (h : bookIn L k = some d) : d.f0 = k := by
  have := List.find?_some h
  simpa using this
theorem asc_ext {L M : List S35} (hL : Asc L) (hM : Asc M) (h : ∀ k, bookIn L k = bookIn M k) : L = M := by
  have nL : L.Nodup := List.Pairwise.imp (fun q e => by subst e; exact absurd q (Int.lt_irrefl _)) hL
  have nM : M.Nodup := List.Pairwise.imp (fun q e => by subst e; exact absurd q (Int.lt_irrefl _)) hM
  exact ((List.perm_ext_iff_of_nodup nL nM).2 (fun d => by rw [asc_mem_find hL, asc_mem_find hM, h])).eq_of_pairwise (le := fun x y : S35 => x.f0 < y.f0) (fun a b _ _ h1 h2 => absurd h1 (Int.lt_asymm h2)) hL hM
theorem find_unique {l : List S35} {p : S35 → Bool} {d : S35} (hm : d ∈ l) (hp : p d = true) (hu : ∀ x ∈ l, p x = true → x = d) : l.find? p = some d := by
  cases h : l.find? p with
  | none => exact absurd hp (by simpa using (List.find?_eq_none.1 h) d hm)
  | some x => rw [hu x (List.mem_of_find?_eq_some h) (List.find?_some h)]
theorem key_unique {l : List S35} (hn : (l.map fun d => d.f0).Nodup) {x y : S35} (hx : x ∈ l) (hy : y ∈ l) (e : x.f0 = y.f0) : x = y := by
  induction l with
  | nil => cases hx
  | cons a l ih =>
    have hc := List.nodup_cons.1 (show (a.f0 :: l.map fun d => d.f0).Nodup from hn)
    rcases List.mem_cons.1 hx with ex | hx
    · rcases List.mem_cons.1 hy with ey | hy
      · rw [ex, ey]
      · exact absurd (List.mem_map.2 ⟨y, hy, by rw [← e, ex]⟩) hc.1
    · rcases List.mem_cons.1 hy with ey | hy
      · exact absurd (List.mem_map.2 ⟨x, hx, by rw [e, ey]⟩) hc.1
      · exact ih hc.2 hx hy
theorem find_perm {l m : List S35} (hp : l.Perm m) (hn : (l.map fun d => d.f0).Nodup) (k : Int) : l.find? (fun d => decide (d.f0 = k ∧ faultS d.f1 d.f2 d.f3 = 0)) = m.find? (fun d => decide (d.f0 = k ∧ faultS d.f1 d.f2 d.f3 = 0)) := by
  cases h : m.find? (fun d => decide (d.f0 = k ∧ faultS d.f1 d.f2 d.f3 = 0)) with
  | none =>
    rw [List.find?_eq_none] at h ⊢
    exact fun x hx => h x (hp.mem_iff.1 hx)
  | some d =>
    have h1 := List.mem_of_find?_eq_some h
    have h2 := List.find?_some h
    refine find_unique (hp.mem_iff.2 h1) h2 (fun x hx px => ?_)
    simp only [decide_eq_true_eq] at h2 px
    exact key_unique hn hx (hp.mem_iff.2 h1) (px.1.trans h2.1.symm)
theorem addAll_order {l m : List S35} (hp : l.Perm m) (hn : (l.map fun d => d.f0).Nodup) (hl : l.length ≤ 256) : addAll [] l = addAll [] m := by
  have hn2 : (m.map fun d => d.f0).Nodup := (hp.map _).nodup_iff.1 hn
  refine asc_ext (addAll_asc l [] List.Pairwise.nil) (addAll_asc m [] List.Pairwise.nil) (fun k => ?_)
  rw [addAll_find l [] k List.Pairwise.nil hn (by simpa using hl) (fun _ _ => rfl), addAll_find m [] k List.Pairwise.nil hn2 (by rw [← hp.length_eq]; simpa using hl) (fun _ _ => rfl), find_perm hp hn k]

theorem addAll_le : ∀ (l L : List S35), Asc L → (addAll L l).length ≤ L.length + l.length
  | [], L, _ => Nat.le_add_right _ _
  | x :: l, L, h => by
    have h1 := addAll_le l (bookAdd L x).1 (bookAdd_asc L x h)
    have h2 : (bookAdd L x).1.length ≤ L.length + 1 := by
      unfold bookAdd
      split
      · exact Nat.le_succ _
      · split
        · rename_i q
          obtain ⟨d0, hd⟩ := Option.isSome_iff_exists.1 q
          rw [bookPut_len_in L x d0 h hd]
          exact Nat.le_succ _
        · rename_i q
          split
          · exact Nat.le_succ _
          · rw [bookPut_len_new L x h (by simpa using q)]
            exact Nat.le_refl _
    show (addAll (bookAdd L x).1 l).length ≤ _
    rw [List.length_cons]
    omega

/-- A decision that can be printed and read. -/
def GoodD (d : S35) : Prop := (0 ≤ d.f0 ∧ d.f0 < 2 ^ 64) ∧ faultS d.f1 d.f2 d.f3 = 0
theorem print_len : ∀ (L : List S35), (∀ d ∈ L, GoodD d) → (printB L).length ≤ L.length * 258
  | [], _ => Nat.zero_le _
  | d :: L, h => by
    have h1 := print_len L (fun x hx => h x (List.mem_cons_of_mem _ hx))
    obtain ⟨_, z2, z3, _, _⟩ := fault_zero (h d List.mem_cons_self).2
    have h2 := lineS_size d.f0 d.f1 d.f2 d.f3
    show ((lineS d.f0 d.f1 d.f2 d.f3).data.toList ++ printB L).length ≤ _
    rw [List.length_append, ba_len, List.length_cons]
    omega

theorem KeptS.belowOf {W W' : World} {S : Nat → Prop} {n : Nat} (h : KeptS W W' S) (hs : ∀ k, S k → n ≤ k) (hn : n ≤ W.heap.size) : Below n W W' := ⟨h.os, h.tape, h.output, h.size, fun k hk => h.block k (by omega) (fun q => by have := hs k q; omega)⟩
theorem C56_one {W : World} {g : Nat} {c : S56} (h : W.heap[g]? = some (.cells #[.int .i64 c.f0, .int .i64 c.f1, .string c.f2, .string c.f3, .string c.f4] 56 (0, 0))) : Kd.C k56 W (some ⟨g, 0, none⟩) 1 [c] :=
  ⟨rfl, by decide, fun _ => ⟨_, rfl, fun j p hj => by
    cases j with
    | succ j => simp at hj
    | zero =>
      obtain rfl : c = p := by simpa using hj
      refine ⟨_, rfl, k56_mk W c, fun i u hu => ?_⟩
      have e : (⟨g, 0, none⟩ : Addr).add (0 * k56.sz + i) = ⟨g, i, none⟩ := by
        rw [Nat.zero_mul, Nat.zero_add]
        simp [Addr.add]; omega
      rw [e, blk_cell h i]
      simpa using hu⟩⟩
theorem C56_two {W : World} {g : Nat} {a c : S56} (h : W.heap[g]? = some (.cells #[.int .i64 a.f0, .int .i64 a.f1, .string a.f2, .string a.f3, .string a.f4, .int .i64 c.f0, .int .i64 c.f1, .string c.f2, .string c.f3, .string c.f4] 56 (0, 0))) : Kd.C k56 W (some ⟨g, 0, none⟩) 2 [a, c] :=
  ⟨rfl, by decide, fun _ => ⟨_, rfl, fun j p hj => by
    have e : ∀ n, (⟨g, 0, none⟩ : Addr).add n = ⟨g, n, none⟩ := fun n => by
      simp [Addr.add]; omega
    have hz : k56.sz = 5 := rfl
    match j, hj with
    | 0, hj =>
      obtain rfl : a = p := by simpa using hj
      refine ⟨_, rfl, k56_mk W a, fun i u hu => ?_⟩
      rw [e, blk_cell h, hz, Nat.zero_mul, Nat.zero_add]
      match i, hu with
      | 0, hu | 1, hu | 2, hu | 3, hu | 4, hu => simpa using hu
      | i + 5, hu => simp at hu
    | 1, hj =>
      obtain rfl : c = p := by simpa using hj
      refine ⟨_, rfl, k56_mk W c, fun i u hu => ?_⟩
      rw [e, blk_cell h, hz, Nat.one_mul]
      match i, hu with
      | 0, hu | 1, hu | 2, hu | 3, hu | 4, hu => simpa using hu
      | i + 5, hu => simp at hu
    | j + 2, hj => simp at hj⟩⟩
theorem keyS_id (c : S56) (i : Int) : keyS ⟨c.f0, i, c.f2, c.f3, c.f4⟩ = keyS c := rfl
theorem picks_one {L : List S35} {c : S56} {d : S35} (h : bookIn L (keyS c) = some d) : picksGo L [c] [] [] = ([⟨keyS c, d.f1⟩], []) := by
  rw [picksGo, h]
  rfl
theorem picks_two {L : List S35} {a c : S56} {d : S35} (e : keyS a = keyS c) (h : bookIn L (keyS c) = some d) : picksGo L [a, c] [] [] = ([⟨keyS c, d.f1⟩], []) := by
  rw [picksGo, e, h]
  dsimp only
  rw [if_neg (by simp), picksGo, h]
  dsimp only
  rw [if_pos (by simp), picksGo]
  rfl
theorem picks_off {L : List S35} {c : S56} (h : bookIn L (keyS c) = none) : picksGo L [c] [] [] = ([], [c]) := by
  rw [picksGo, h]
  rfl
theorem fault_ann (s : Int) (h : s = 1 ∨ s = 2) : faultS s annB ⟨#[]⟩ = 0 := by
  unfold faultS
  rw [toList_eq]
  rcases h with rfl | rfl <;> decide +kernel
theorem bookAdd_ok (L : List S35) (d : S35) (hf : faultS d.f1 d.f2 d.f3 = 0) (hl : L.length < 256) : bookAdd L d = (bookPut L d, 0) := by
  unfold bookAdd
  rw [if_neg (by simpa using hf)]
  split
  · rfl
  · rw [if_neg (by omega)]
theorem bookAdd_other (L : List S35) (x : S35) (k : Int) (ha : Asc L) (hk : x.f0 ≠ k) : bookIn (bookAdd L x).1 k = bookIn L k := by
  unfold bookAdd
  have e : bookIn (bookPut L x) k = bookIn L k := by rw [bookIn_put L x k ha, if_neg (fun q => hk q.symm)]
  repeat' split
  all_goals first | rfl | exact e
theorem tdiv2 (a : Int) (h : -9223372036854775808 ≤ a ∧ a ≤ 9223372036854775807) : -9223372036854775808 ≤ a.tdiv 2 ∧ a.tdiv 2 ≤ 9223372036854775807 := by
  by_cases c : 0 ≤ a
  · rw [Int.tdiv_eq_ediv_of_nonneg c]
    omega
  · obtain ⟨m, rfl⟩ : ∃ m : Int, a = -m := ⟨-a, by omega⟩
    rw [Int.neg_tdiv, Int.tdiv_eq_ediv_of_nonneg (by omega)]
    omega

theorem rd35_at {L : List S35} {i : Nat} (h : i < L.length) : rd_T35 L (i : Int) = L[i] := by simp [rd_T35, List.getD_eq_getElem?_getD, List.getElem?_eq_getElem h]
theorem rd56_at {L : List S56} {i : Nat} (h : i < L.length) : rd_T56 L (i : Int) = L[i] := by simp [rd_T56, List.getD_eq_getElem?_getD, List.getElem?_eq_getElem h]
theorem rd62_at {L : List S62} {i : Nat} (h : i < L.length) : rd_T62 L (i : Int) = L[i] := by simp [rd_T62, List.getD_eq_getElem?_getD, List.getElem?_eq_getElem h]
theorem without_loop (L : List S35) (key : Int) (hl : L.length ≤ 1000) : ∀ (g i : Nat) (o : List S35), i + g = L.length → o.length ≤ i → Ev (fun k => treemergeref36_Without.l0 k L key o (i : Int)) (o ++ bookDel (L.drop i) key) := by
  intro g
  induction g with
  | zero =>
    intro i o hi ho
    rw [List.drop_of_length_le (by omega)]
    exact Ev.step (fun k => by rw [treemergeref36_Without.l0, if_neg (by omega)]; simp [bookDel]) (Ev.now _)
  | succ g ih =>
    intro i o hi ho
    have hil : i < L.length := by omega
    have wu : wrap64 ((i : Int) + 1) = ((i + 1 : Nat) : Int) := by unfold wrap64; omega
    rw [List.drop_eq_getElem_cons hil]
    refine Ev.step (fun k => by rw [treemergeref36_Without.l0, if_pos (by omega), if_pos (by omega), rd35_at hil, wu]) ?_
    by_cases c : L[i].f0 = key
    · refine Ev.pos c (Ev.cast ?_ (ih (i + 1) o (by omega) (by omega)))
      unfold bookDel
      rw [List.filter_cons_of_neg (by simpa using c)]
    · refine Ev.neg c (Ev.pos (by omega) (Ev.cast ?_ (ih (i + 1) (o ++ [L[i]]) (by omega) (by simp; omega))))
      unfold bookDel
      rw [List.filter_cons_of_pos (by simpa using c)]
      simp
theorem without_ev (L : List S35) (key : Int) (hl : L.length ≤ 1000) : Ev (fun k => treemergeref36_Without.f k L key) (bookDel L key) := by
  unfold treemergeref36_Without.f
  exact without_loop L key hl L.length 0 [] (by omega) (by simp)
theorem put_tail (L : List S35) (d : S35) (hl : L.length ≤ 1000) : ∀ (g i : Nat) (o : List S35), i + g = L.length → o.length ≤ i + 1 → Ev (fun k => treemergeref36_put.l0 k L o true (i : Int) d.f0 d.f1 d.f2 d.f3) (o ++ L.drop i) := by
  intro g
  induction g with
  | zero =>
    intro i o hi ho
    rw [List.drop_of_length_le (by omega)]
    exact Ev.step (fun k => by rw [treemergeref36_put.l0, if_neg (by omega), if_pos rfl]; simp) (Ev.now _)
  | succ g ih =>
    intro i o hi ho
    have hil : i < L.length := by omega
    have wu : wrap64 ((i : Int) + 1) = ((i + 1 : Nat) : Int) := by unfold wrap64; omega
    refine Ev.step (fun k => by rw [treemergeref36_put.l0, if_pos (by omega), if_pos rfl, if_pos (by omega), if_pos (by omega), rd35_at hil, wu]) ?_
    refine Ev.cast ?_ (ih (i + 1) (o ++ [L[i]]) (by omega) (by simp; omega))
    rw [List.drop_eq_getElem_cons hil]
    simp
theorem put_loop (L : List S35) (d : S35) (hl : L.length ≤ 1000) (hno : ∀ x ∈ L, x.f0 ≠ d.f0) : ∀ (g i : Nat) (o : List S35), i + g = L.length → o.length ≤ i → Ev (fun k => treemergeref36_put.l0 k L o false (i : Int) d.f0 d.f1 d.f2 d.f3) (o ++ bookPut (L.drop i) d) := by
  intro g
  induction g with
  | zero =>
    intro i o hi ho
    rw [List.drop_of_length_le (by omega)]
    exact Ev.step (fun k => by rw [treemergeref36_put.l0, if_neg (by omega), if_neg (by decide), if_pos (by omega)]; rfl) (Ev.now _)
  | succ g ih =>
    intro i o hi ho
    have hil : i < L.length := by omega
    have wu : wrap64 ((i : Int) + 1) = ((i + 1 : Nat) : Int) := by unfold wrap64; omega
    have hne := hno L[i] (List.getElem_mem hil)
    rw [List.drop_eq_getElem_cons hil, bookPut]
    refine Ev.step (fun k => by rw [treemergeref36_put.l0, if_pos (by omega), if_neg (by decide), if_pos (by omega), rd35_at hil, wu]) ?_
    by_cases c : d.f0 < L[i].f0
    · simp only [if_pos c]
      refine Ev.pos (by omega) ?_
      simp only [Option.bind_some]
      refine Ev.pos (by simp; omega) (Ev.cast ?_ (put_tail L d hl g (i + 1) (o ++ [d] ++ [L[i]]) (by omega) (by simp; omega)))
      simp
    · simp only [if_neg c, if_neg (fun e => hne (Eq.symm e))]
      refine (Ev.pos (by omega) (Ev.cast ?_ (ih (i + 1) (o ++ [L[i]]) (by omega) (by simp; omega))))
      simp
theorem put_ev (L : List S35) (d : S35) (hl : L.length ≤ 1000) (hno : ∀ x ∈ L, x.f0 ≠ d.f0) : Ev (fun k => treemergeref36_put.f k L d.f0 d.f1 d.f2 d.f3) (bookPut L d) := by
  unfold treemergeref36_put.f
  exact put_loop L d hl hno L.length 0 [] (by omega) (by simp)
theorem del_no (L : List S35) (key : Int) : ∀ x ∈ bookDel L key, x.f0 ≠ key := fun x hx => by
  unfold bookDel at hx
  simpa using (List.mem_filter.1 hx).2
theorem put_del (L : List S35) (d : S35) (ha : Asc L) : bookPut (bookDel L d.f0) d = bookPut L d := by
  have hd := bookDel_asc L d.f0 ha
  refine asc_ext (bookPut_asc _ d hd) (bookPut_asc L d ha) (fun k => ?_)
  rw [bookIn_put _ d k hd, bookIn_put L d k ha]
  by_cases c : k = d.f0
  · rw [if_pos c, if_pos c]
  · rw [if_neg c, if_neg c, bookIn_del, if_neg c]
theorem del_len (L : List S35) (key : Int) : (bookDel L key).length ≤ L.length := List.length_filter_le _ _
theorem radd_ev (L : List S35) (d : S35) (ha : Asc L) (hl : L.length < 256) : Ev (fun k => treemergeref36_Add.f k L d.f0 d.f1 d.f2 d.f3) (bookAdd L d) := by
  unfold treemergeref36_Add.f
  refine (valid_ev d.f0 d.f1 d.f2 d.f3).bind ?_
  by_cases c : faultS d.f1 d.f2 d.f3 = 0
  · rw [bookAdd_ok L d c hl]
    have h1 := del_len L d.f0
    refine Ev.pos c ((without_ev L d.f0 (by omega)).bind (Ev.neg (by omega) ((put_ev _ d (by omega) (del_no L d.f0)).bind ?_)))
    rw [put_del L d ha]
    exact Ev.now _
  · refine Ev.neg c (Ev.cast ?_ (Ev.now _))
    unfold bookAdd
    rw [if_pos (by simpa using c)]
def remS (L : List S35) (key : Int) : List S35 × Int := if (bookIn L key).isSome = true then (bookDel L key, 0) else (L, 5)
theorem rrem_ev (L : List S35) (key : Int) (ha : Asc L) (hl : L.length ≤ 1000) : Ev (fun k => treemergeref36_Remove.f k L key) (remS L key) := by
  unfold treemergeref36_Remove.f remS
  refine (without_ev L key hl).bind ?_
  cases h : bookIn L key with
  | some d =>
    have := (bookDel_keys L key d ha h).2.2
    rw [if_pos (show (some d).isSome = true from rfl)]
    exact Ev.neg (by omega) (Ev.now _)
  | none =>
    rw [if_neg (show ¬ (none : Option S35).isSome = true by simp)]
    have e : bookDel L key = L := by
      unfold bookDel
      rw [List.filter_eq_self]
      intro x hx
      unfold bookIn at h
      have := List.find?_eq_none.1 h x hx
      simpa using this
    rw [e]
    exact Ev.pos rfl (Ev.now _)
theorem picked_loop (P : List S62) (key : Int) (hl : P.length ≤ 1000000) : ∀ (g i : Nat), i + g = P.length → Ev (fun k => treemergeref36_picked.l0 k P key (i : Int)) (decide (key ∈ (P.drop i).map fun q => q.f0)) := by
  intro g
  induction g with
  | zero =>
    intro i hi
    rw [List.drop_of_length_le (by omega)]
    exact Ev.step (fun k => by rw [treemergeref36_picked.l0, if_neg (by omega)]; simp) (Ev.now _)
  | succ g ih =>
    intro i hi
    have hil : i < P.length := by omega
    have wu : wrap64 ((i : Int) + 1) = ((i + 1 : Nat) : Int) := by unfold wrap64; omega
    rw [List.drop_eq_getElem_cons hil, List.map_cons]
    refine Ev.step (fun k => by rw [treemergeref36_picked.l0, if_pos (by omega), if_pos (by omega), rd62_at hil, wu]) ?_
    by_cases c : P[i].f0 = key
    · exact Ev.pos c (Ev.cast (decide_eq_true (by rw [← c]; exact List.mem_cons_self)).symm (Ev.now _))
    · refine Ev.neg c (Ev.cast (decide_eq_decide.2 ?_) (ih (i + 1) (by omega)))
      rw [List.mem_cons]
      exact ⟨.inr, fun h => h.resolve_left (fun e => c e.symm)⟩
theorem picked_ev (P : List S62) (key : Int) (hl : P.length ≤ 1000000) : Ev (fun k => treemergeref36_picked.f k P key) (decide (key ∈ P.map fun q => q.f0)) := by
  unfold treemergeref36_picked.f
  exact picked_loop P key hl P.length 0 (by omega)
theorem rpicks_loop (L : List S35) (cs : List S56) (hl : L.length ≤ 1000) (hc : cs.length ≤ 1000) (hz : ∀ c ∈ cs, FewC c) : ∀ (g i : Nat) (P : List S62) (O : List S56), i + g = cs.length → P.length ≤ i → O.length ≤ i → Ev (fun k => treemergeref36_Picks.l0 k L cs P O (i : Int)) (picksGo L (cs.drop i) P O) := by
  intro g
  induction g with
  | zero =>
    intro i P O hi hP hO
    rw [List.drop_of_length_le (by omega), picksGo]
    exact Ev.step (fun k => by rw [treemergeref36_Picks.l0, if_neg (by omega)]) (Ev.now _)
  | succ g ih =>
    intro i P O hi hP hO
    have hil : i < cs.length := by omega
    have wu : wrap64 ((i : Int) + 1) = ((i + 1 : Nat) : Int) := by unfold wrap64; omega
    have hx := hz cs[i] (List.getElem_mem hil)
    rw [List.drop_eq_getElem_cons hil, picksGo]
    refine Ev.step (fun k => by rw [treemergeref36_Picks.l0, if_pos (by omega), if_pos (by omega), rd56_at hil, wu]) ?_
    refine (rkey_ev cs[i] hx).bind ((rfind_ev L (keyS cs[i]) (by omega)).bind ?_)
    cases h : bookIn L (keyS cs[i]) with
    | some d =>
      refine Ev.pos rfl ((picked_ev P _ (by omega)).bind ?_)
      by_cases q : keyS cs[i] ∈ P.map (fun q => q.f0)
      · rw [decide_eq_true q]
        dsimp only
        rw [if_pos q]
        exact Ev.pos rfl (ih (i + 1) P O (by omega) (by omega) (by omega))
      · rw [decide_eq_false q]
        dsimp only
        rw [if_neg q]
        exact Ev.neg (by decide) (Ev.pos (by omega) (ih (i + 1) (P ++ [⟨keyS cs[i], d.f1⟩]) O (by omega) (by simp; omega) (by omega)))
    | none =>
      refine Ev.neg (show ¬ (false = true) by decide) ?_
      exact Ev.pos (by omega) (ih (i + 1) P (O ++ [cs[i]]) (by omega) (by omega) (by simp; omega))
theorem rpicks_ev (L : List S35) (cs : List S56) (hl : L.length ≤ 1000) (hc : cs.length ≤ 1000) (hz : ∀ c ∈ cs, FewC c) : Ev (fun k => treemergeref36_Picks.f k L cs) (picksGo L cs [] []) := by
  unfold treemergeref36_Picks.f
  exact rpicks_loop L cs hl hc hz cs.length 0 [] [] (by omega) (by simp) (by simp)
theorem samep_loop (L : List S62) (hl : L.length ≤ 1000000) : ∀ (g i : Nat), i + g = L.length → Ev (fun k => treemergeref36_SamePicks.l0 k L L (i : Int)) true := by
  intro g
  induction g with
  | zero =>
    intro i hi
    exact Ev.step (fun k => by rw [treemergeref36_SamePicks.l0, if_neg (by omega)]) (Ev.now _)
  | succ g ih =>
    intro i hi
    have wu : wrap64 ((i : Int) + 1) = ((i + 1 : Nat) : Int) := by unfold wrap64; omega
    refine Ev.step (fun k => by rw [treemergeref36_SamePicks.l0, if_pos (by omega), if_pos (by omega), if_pos (by omega), wu, if_neg (by simp)]) ?_
    exact ih (i + 1) (by omega)
theorem samep_ev (L : List S62) (hl : L.length ≤ 1000000) : Ev (fun k => treemergeref36_SamePicks.f k L L) true := by
  unfold treemergeref36_SamePicks.f
  exact Ev.pos rfl (samep_loop L hl L.length 0 (by omega))
theorem samec_loop (L : List S56) (hl : L.length ≤ 1000000) : ∀ (g i : Nat), i + g = L.length → Ev (fun k => treemergeref34_Same.l0 k L L (i : Int)) true := by
  intro g
  induction g with
  | zero =>
    intro i hi
    exact Ev.step (fun k => by rw [treemergeref34_Same.l0, if_neg (by omega)]) (Ev.now _)
  | succ g ih =>
    intro i hi
    have wu : wrap64 ((i : Int) + 1) = ((i + 1 : Nat) : Int) := by unfold wrap64; omega
    refine Ev.step (fun k => by rw [treemergeref34_Same.l0, if_pos (by omega), if_pos (by omega), if_pos (by omega), wu, if_neg (by simp)]) ?_
    exact ih (i + 1) (by omega)
theorem samec_ev (L : List S56) (hl : L.length ≤ 1000000) : Ev (fun k => treemergeref34_Same.f k L L) true := by
  unfold treemergeref34_Same.f
  exact Ev.pos rfl (samec_loop L hl L.length 0 (by omega))
theorem printB_len_take (L : List S35) (i : Nat) (hg : ∀ d ∈ L, GoodD d) : (printB (L.take i)).length ≤ L.length * 258 := by
  have := print_len (L.take i) (fun d hd => hg d (List.mem_of_mem_take hd))
  rw [List.length_take] at this
  have h2 : min i L.length * 258 ≤ L.length * 258 := Nat.mul_le_mul_right _ (Nat.min_le_right _ _)
  exact Nat.le_trans this h2
theorem rprint_loop (L : List S35) (hl : L.length ≤ 1000) (hg : ∀ d ∈ L, GoodD d) : ∀ (g i : Nat) (o : ByteArray), i + g = L.length → o.data.toList = printB (L.take i) → Ev (fun k => treemergeref36_Print.l0 k L o (i : Int)) ⟨(printB L).toArray⟩ := by
  intro g
  induction g with
  | zero =>
    intro i o hi ho
    rw [List.take_of_length_le (by omega)] at ho
    have e : o = ⟨(printB L).toArray⟩ := ba_ext (by rw [ho])
    rw [e]
    exact Ev.step (fun k => by rw [treemergeref36_Print.l0, if_neg (by omega)]) (Ev.now _)
  | succ g ih =>
    intro i o hi ho
    have hil : i < L.length := by omega
    have wu : wrap64 ((i : Int) + 1) = ((i + 1 : Nat) : Int) := by unfold wrap64; omega
    have hd := hg L[i] (List.getElem_mem hil)
    obtain ⟨h1, h2, h3, _, _⟩ := fault_zero hd.2
    have hz : o.size ≤ L.length * 258 := by rw [← ba_len, ho]; exact printB_len_take L i hg
    have hz2 := lineS_size L[i].f0 L[i].f1 L[i].f2 L[i].f3
    refine Ev.step (fun k => by rw [treemergeref36_Print.l0, if_pos (by omega), if_pos (by omega), rd35_at hil, wu]) ?_
    refine (rline_ev _ _ _ _ hd.1.1 hd.1.2 h1 (by omega) (by omega)).bind (Ev.pos (by omega) (ih (i + 1) _ (by omega) ?_))
    rw [app_list, ho, List.take_succ_eq_append_getElem hil, printB_append, printB, printB, List.append_nil]
theorem rprint_ev (L : List S35) (hl : L.length ≤ 1000) (hg : ∀ d ∈ L, GoodD d) : Ev (fun k => treemergeref36_Print.f k L) ⟨(printB L).toArray⟩ := by
  unfold treemergeref36_Print.f
  exact rprint_loop L hl hg L.length 0 _ (by omega) rfl

end Go.Proofs.YtfajgjmhfpabiaaDoor.Scratch
