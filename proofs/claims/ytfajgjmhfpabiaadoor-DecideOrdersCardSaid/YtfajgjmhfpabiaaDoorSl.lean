/- DecideFull returns true: proved here by steps through the program's text; no condition but those that stand in each theorem. -/
import Derived.WalkSpells
import Derived.Deep.RegionLaw
import Derived.Lib.OthersKept
import Derived.Test.YtfajgjmhfpabiaaDoorShelf
import Derived.Test.YtfajgjmhfpabiaaDoorQ0
import Derived.Test.YtfajgjmhfpabiaaDoorQ2
import Derived.Test.YtfajgjmhfpabiaaDoorQ3
import Derived.Test.YtfajgjmhfpabiaaDoorQ4
import Derived.Test.YtfajgjmhfpabiaaDoorQ5
import Derived.Test.YtfajgjmhfpabiaaDoorSb
import Derived.Test.YtfajgjmhfpabiaaDoorSc
import Derived.Test.YtfajgjmhfpabiaaDoorSe
import Derived.Test.YtfajgjmhfpabiaaDoorSf
import Derived.Test.YtfajgjmhfpabiaaDoorSg
import Derived.Test.YtfajgjmhfpabiaaDoorSh
import Derived.Test.YtfajgjmhfpabiaaDoorSi
import Derived.Test.YtfajgjmhfpabiaaDoorSj
import Derived.Test.YtfajgjmhfpabiaaDoorSk
import Derived.Deep.QuietTactic
import Derived.BigQuiet
import Derived.OpenShut
namespace Go.Proofs.YtfajgjmhfpabiaaDoor.Scratch
set_option linter.unusedVariables false
open Go.RowKit Go.Proofs.YtfajgjmhfpabiaaDoorW.PrintWords Go.Proofs.YtfajgjmhfpabiaaDoorW.PrintLast Go.Proofs.YtfajgjmhfpabiaaDoorW.PrintMore Go.Proofs.YtfajgjmhfpabiaaDoor.Q
attribute [local go_sem] max2_int min2_int max_two min_two max_three min_three max_four min_four
theorem bytes_is (s : ByteArray) (lo : Int) (hs : s.size < 2 ^ 62) (m : Nat) : ∀ (g i : Nat), i + g = s.size → treemergeref36_bytes.l0 (g + 1 + m) s lo (i : Int) = some ((s.data.toList.drop i).all (okc lo))
  | 0, i, h => by
    rw [show 0 + 1 + m = m + 1 by omega, treemergeref36_bytes.l0, if_neg (by omega), List.drop_of_length_le (by rw [Array.length_toList]; show s.size ≤ i; omega)]
    rfl
  | g + 1, i, h => by
    have hi : i < s.size := by omega
    have hl : i < s.data.toList.length := by rw [Array.length_toList]; exact hi
    have hb : bt s (i : Int) = ((s.data.toList[i]'hl).toNat : Int) := by
      rw [bt_idx s i hi]
      rfl
    have hw : wrap64 ((i : Int) + 1) = ((i + 1 : Nat) : Int) := by
      unfold wrap64
      omega
    rw [show g + 1 + 1 + m = (g + 1 + m) + 1 by omega, treemergeref36_bytes.l0, if_pos (by omega), if_pos (by omega), hb, hw, bytes_is s lo hs m g (i + 1) (by omega), List.drop_eq_getElem_cons hl, List.all_cons]
    by_cases c1 : ((s.data.toList[i]'hl).toNat : Int) < lo
    · rw [if_pos c1, okc, decide_eq_false (by omega)]
      rfl
    · rw [if_neg c1]
      by_cases c2 : ((s.data.toList[i]'hl).toNat : Int) > 126
      · rw [if_pos c2, okc, decide_eq_true (show lo ≤ _ by omega), decide_eq_false (show ¬ ((s.data.toList[i]'hl).toNat : Int) ≤ 126 by omega)]
        rfl
      · rw [if_neg c2, okc, decide_eq_true (show lo ≤ _ by omega), decide_eq_true (show ((s.data.toList[i]'hl).toNat : Int) ≤ 126 by omega)]
        rfl
theorem bytesF (s : ByteArray) (a b lo : Int) (hb : b ≤ 900) : treemergeref36_bytes.f 1999 s a b lo = some (if (s.size : Int) < a ∨ (s.size : Int) > b then false else s.data.toList.all (okc lo)) := by
  unfold treemergeref36_bytes.f
  by_cases c : (s.size : Int) < a
  · rw [if_pos c, treemergeref36_bytes.j0, if_pos rfl, if_pos (.inl c)]
  · rw [if_neg c, treemergeref36_bytes.j0]
    by_cases e : (s.size : Int) > b
    · rw [if_pos (by simpa using e), if_pos (.inr e)]
    · rw [if_neg (by simpa using e), if_neg (by omega)]
      have h := bytes_is s lo (by omega) (1997 - s.size) s.size 0 (by omega)
      rw [show s.size + 1 + (1997 - s.size) = 1998 by omega, List.drop_zero] at h
      exact h
theorem toList_nil_size (s : ByteArray) : s.toList = [] ↔ (s.size : Int) < 1 := by
  rw [toList_eq]
  have : s.data.toList.length = s.size := Array.length_toList ..
  constructor
  · intro h
    rw [h] at this
    simp at this
    omega
  · intro h
    exact List.eq_nil_of_length_eq_zero (by omega)
theorem valid_is (a0 a1 : Int) (a2 a3 : ByteArray) : treemergeref36_Valid.f 2000 a0 a1 a2 a3 = some (faultS a1 a2 a3) := by
  have hj : ∀ x, treemergeref36_Valid.j0 2000 x a0 a1 a2 a3 = some (if x = true then 2 else if a2.toList = [] then 1 else if (a2.size : Int) > 32 then 1 else if (a2.data.toList.all (okc 33)) = true then (if (a3.size : Int) > 200 then 1 else if (a3.data.toList.all (okc 32)) = true then 0 else 1) else 1) := fun x => by
    rw [treemergeref36_Valid.j0, bytesF a2 1 32 33 (by decide), Option.bind_some, bytesF a3 0 200 32 (by decide)]
    by_cases c0 : x = true
    · rw [if_pos c0, if_pos c0]
    · rw [if_neg c0, if_neg c0]
      by_cases c1 : a2.toList = []
      · rw [if_pos c1, if_pos (show (a2.size : Int) < 1 ∨ (a2.size : Int) > 32 from .inl ((toList_nil_size a2).1 c1))]
        rfl
      · have c1' : ¬ (a2.size : Int) < 1 := fun h => c1 ((toList_nil_size a2).2 h)
        rw [if_neg c1]
        by_cases c2 : (a2.size : Int) > 32
        · rw [if_pos c2, if_pos (show (a2.size : Int) < 1 ∨ (a2.size : Int) > 32 from .inr c2)]
          rfl
        · rw [if_neg c2, if_neg (show ¬ ((a2.size : Int) < 1 ∨ (a2.size : Int) > 32) by omega)]
          by_cases c3 : a2.data.toList.all (okc 33) = true
          · rw [if_pos c3, if_pos c3, Option.bind_some]
            by_cases c4 : (a3.size : Int) > 200
            · rw [if_pos c4, if_pos (show (a3.size : Int) < 0 ∨ (a3.size : Int) > 200 from .inr c4)]
              rfl
            · rw [if_neg c4, if_neg (show ¬ ((a3.size : Int) < 0 ∨ (a3.size : Int) > 200) by omega)]
              by_cases c5 : a3.data.toList.all (okc 32) = true
              · rw [if_pos c5, if_pos c5]
              · rw [if_neg c5, if_neg c5]
          · rw [if_neg c3, if_neg c3]
  unfold treemergeref36_Valid.f faultS
  by_cases h1 : a1 = 1
  · rw [if_pos h1, hj]
    simp [h1]
  · rw [if_neg h1, hj]
    by_cases h2 : a1 = 2
    · simp [h2]
    · simp [h1, h2]

abbrev wB : ByteArray := ⟨#[119]⟩
def fullD (i : Nat) : S35 := ⟨(i : Int), 2, wB, ⟨#[]⟩⟩
def fullL (m : Nat) : List S35 := (List.range m).map fullD
theorem fullL_len (m : Nat) : (fullL m).length = m := by simp [fullL]
theorem fullL_succ (m : Nat) : fullL (m + 1) = fullL m ++ [fullD m] := by simp [fullL, List.range_succ]
theorem fullL_lt (m : Nat) : ∀ x ∈ fullL m, x.f0 < (m : Int) := by
  intro x hx
  obtain ⟨i, hi, rfl⟩ := List.mem_map.1 hx
  have := List.mem_range.1 hi
  show (i : Int) < m
  omega
theorem fullL_asc : ∀ m, Asc (fullL m)
  | 0 => List.Pairwise.nil
  | m + 1 => by
    rw [fullL_succ]
    refine List.pairwise_append.2 ⟨fullL_asc m, List.pairwise_singleton _ _, fun x hx y hy => ?_⟩
    rw [List.mem_singleton.1 hy]
    exact fullL_lt m x hx
theorem fault_w : faultS 2 wB ⟨#[]⟩ = 0 := by
  unfold faultS
  rw [toList_eq]
  decide +kernel
theorem fullAdd (i : Nat) : bookAdd (fullL (min i 256)) (fullD i) = (fullL (min (i + 1) 256), if i < 256 then 0 else 3) := by
  have hf : faultS (fullD i).f1 (fullD i).f2 (fullD i).f3 = 0 := fault_w
  have hm : ∀ x ∈ fullL (min i 256), x.f0 < (fullD i).f0 := fun x hx => by
    have := fullL_lt _ x hx
    show x.f0 < (i : Int)
    omega
  have hn : bookIn (fullL (min i 256)) (fullD i).f0 = none := bookIn_last hm
  unfold bookAdd
  rw [hf, if_neg (by simp), hn, if_neg (by simp), fullL_len]
  by_cases h : i < 256
  · rw [if_neg (by omega), if_pos h, bookPut_last _ _ hm, show min i 256 = i by omega, show min (i + 1) 256 = i + 1 by omega, fullL_succ]
  · rw [if_pos (by omega), if_neg h, show min i 256 = 256 by omega, show min (i + 1) 256 = 256 by omega]
theorem fullL_in (m : Nat) (k : Int) (h0 : 0 ≤ k) : (bookIn (fullL m) k).isSome = decide (k < (m : Int)) := by
  cases hb : bookIn (fullL m) k with
  | none =>
    refine (decide_eq_false (fun h => ?_)).symm
    obtain ⟨i, rfl⟩ : ∃ i : Nat, k = (i : Int) := ⟨k.toNat, by omega⟩
    unfold bookIn at hb
    rw [List.find?_eq_none] at hb
    exact hb (fullD i) (List.mem_map.2 ⟨i, List.mem_range.2 (by omega), rfl⟩) (by simp [fullD])
  | some d =>
    refine (decide_eq_true ?_).symm
    unfold bookIn at hb
    have h1 := List.mem_of_find?_eq_some hb
    have h2 := List.find?_some hb
    have h3 := fullL_lt m d h1
    simp at h2
    omega
/-- What the law of the full book asks of the last Add. -/
theorem fullLast (n : Nat) (d : S35) (h0 : 0 ≤ d.f0) : (bookAdd (fullL (min n 256)) d).2 = if faultS d.f1 d.f2 d.f3 = 0 ∧ 256 ≤ n ∧ 256 ≤ d.f0 then 3 else faultS d.f1 d.f2 d.f3 := by
  unfold bookAdd
  by_cases hf : faultS d.f1 d.f2 d.f3 = 0
  · rw [hf, if_neg (by simp), fullL_in _ _ h0, fullL_len]
    by_cases c : d.f0 < ((min n 256 : Nat) : Int)
    · rw [if_pos (by simpa using c), if_neg (by omega)]
    · rw [if_neg (by simpa using c)]
      by_cases e : 256 ≤ n
      · rw [if_pos (by omega), if_pos (by omega)]
      · rw [if_neg (by omega), if_neg (by omega)]
  · rw [if_pos hf, if_neg (fun q => hf q.1)]
theorem bookAdd_find (L : List S35) (d : S35) (ha : Asc L) (h : (bookAdd L d).2 = 0) : bookIn (bookAdd L d).1 d.f0 = some d := by
  unfold bookAdd at h ⊢
  split at h
  · exact absurd h (by assumption)
  · rename_i q
    rw [if_neg q]
    split at h
    · rename_i r
      rw [if_pos r, bookIn_put L d _ ha, if_pos rfl]
    · rename_i r
      rw [if_neg r]
      split at h
      · cases h
      · rename_i t
        rw [if_neg t, bookIn_put L d _ ha, if_pos rfl]

set_option maxHeartbeats 8000000 in
set_option maxRecDepth 100000 in
theorem DecideFull_calls (n : Int) (d : S35) (h0 : 0 ≤ d.f0 ∧ d.f0 < 2 ^ 64) (w : World) (hG : Glob w) (hn : 0 ≤ n ∧ n ≤ 300) (hp : d.f2.size ≤ 300 ∧ d.f3.size ≤ 600) : Calls Tryd.prog 4 #[.int .i64 n, .agg #[.int .u64 d.f0, .int .i64 d.f1, .string d.f2, .string d.f3]] w fun e w' => e = .returned (.bool true) ∧ KeptS w w' (fun _ => False) := by
  have HG := Aside0.mk hG
  have hu35 := Tryd.underlying35
  obtain ⟨m, rfl⟩ : ∃ m : Nat, n = (m : Int) := ⟨n.toNat, by omega⟩
  have g1 : decide ((m : Int) < 0) = false := decide_eq_false (by omega)
  have g2 : decide ((m : Int) > 300) = false := decide_eq_false (by omega)
  have g3 : decide (300 < (m : Int)) = false := decide_eq_false (by omega)
  have g4 : decide (300 < m) = false := decide_eq_false (by omega)
  have HN := Aside0.mk hn
  have HPL := Aside0.mk (show treemergelaw36_plain.f d.f0 d.f1 d.f2 d.f3 = some true from by unfold treemergelaw36_plain.f; rw [if_pos (by omega), decide_eq_true (by omega)])
  clear hG hn hp
  go_enter Tryd.func4, Tryd.ntmps4
  go_wp2_with (first | (go_at_call 15; go_loud ((with_reducible refine (treemergelaw36_plain.calls _ _ _ _ true _ HPL.out).mono ?_); rintro e w0 ⟨rfl, hb0⟩; have HB0 := Aside0.mk hb0; clear hb0)) | (go_at_call 16; ((with_reducible refine (decide_New.calls2 _).mono ?_); rintro e w1 ⟨b, rfl, hbk, hb1⟩; have HBK1 := Aside0.mk hbk; have HB1 := Aside0.mk hb1; clear hbk hb1)))
  have HD1 : Aside0 (w1.heap[w.heap.size]? = some (.cells #[.int .u64 d.f0, .int .i64 d.f1, .string d.f2, .string d.f3] 35 (0, 0))) := ⟨blk_below (blk_below (blk_new w _) HB0.out) HB1.out⟩
  have HW0 : Aside0 (w.heap.size + 1 ≤ w0.heap.size) := ⟨by have := HB0.out.size; rw [sz_alloc] at this; exact this⟩
  have HK1 : Aside0 (KeptS w w1 (fun _ => False)) := ⟨((KeptS.alloc (KeptS.refl w _) _).below HB0.out).below HB1.out⟩
  have HBK2 : Aside0 (BookAt w1 (fun q => w0.heap.size ≤ q) w0.heap.size b (fullL (min 0 256))) := ⟨HBK1.out.mono (fun q hq => hq.1)⟩
  have HW1 := Aside0.mk HB1.out.size
  clear HB0 HB1 HBK1
  go_loopg [6] m (fun gk v6 w' => ∃ k : Nat, v6 = .int .i64 k ∧ k + gk = m ∧ Aside0 (BookAt w' (fun q => w0.heap.size ≤ q) w0.heap.size b (fullL (min k 256))) ∧ Aside0 (KeptS w w' (fun _ => False)) ∧ Aside0 (w'.heap[w.heap.size]? = some (.cells #[.int .u64 d.f0, .int .i64 d.f1, .string d.f2, .string d.f3] 35 (0, 0))) ∧ Aside0 (w0.heap.size ≤ w'.heap.size))
  case atStart => exact ⟨0, rfl, by omega, HBK2, HK1, HD1, HW1⟩
  case round =>
    obtain ⟨k, rfl, hk, HBK, HKP, HD, HSZ⟩ := hrel
    obtain ⟨go, rfl⟩ : ∃ go, go = gk := ⟨gk, rfl⟩
    have HK := Aside0.mk hk
    cases go with
    | zero =>
      have g1 : decide ((k : Int) < (m : Int)) = false := decide_eq_false (by omega)
      have g2 : decide (k < m) = false := decide_eq_false (by omega)
      have HV := Aside0.mk (valid_is d.f0 d.f1 d.f2 d.f3)
      have hd0 := (blk_cell HD.out 0).trans rfl
      have hd1 := (blk_cell HD.out 1).trans rfl
      have hd2 := (blk_cell HD.out 2).trans rfl
      have hd3 := (blk_cell HD.out 3).trans rfl
      have hkm : k = m := by omega
      subst hkm
      have hla := fullLast k d h0.1
      have hfi := bookAdd_find (fullL (min k 256)) d (fullL_asc _)
      obtain ⟨B, hB⟩ : ∃ B, B = bookAdd (fullL (min k 256)) d := ⟨_, rfl⟩
      generalize faultS d.f1 d.f2 d.f3 = v at *
      clear hk
      by_cases c1 : v = 0
      · subst c1
        by_cases c2 : 256 ≤ k
        · by_cases c3 : 256 ≤ d.f0
          · rw [if_pos ⟨rfl, c2, c3⟩] at hla
            have e3 : decide ((k : Int) ≥ 256) = true := decide_eq_true (by omega)
            have e4 : decide (256 ≤ (k : Int)) = true := decide_eq_true (by omega)
            have e5 : decide (256 ≤ k) = true := decide_eq_true (by omega)
            have e6 : decide (d.f0 ≥ 256) = true := decide_eq_true (by omega)
            have e7 : decide (256 ≤ d.f0) = true := decide_eq_true (by omega)
            have HLA := Aside0.mk hla
            obtain ⟨x, ok9, hx9⟩ : ∃ (x : S35) (o : Option S35), bookIn (bookAdd (fullL (min k 256)) d).1 d.f0 = o ∧ x = o.getD z35 := ⟨_, _, rfl, rfl⟩
            obtain ⟨hx9, hxx⟩ := hx9
            obtain ⟨ob, hob⟩ : ∃ ob, ob = ok9.isSome := ⟨_, rfl⟩
            have HFI := Aside0.mk hx9
            have HXX := Aside0.mk hxx
            have HOB := Aside0.mk hob
            clear hla hfi hB hx9 hxx hob c2 c3
            go_wp2_with (first | (go_at_call 18; ((with_reducible refine (treemergeref36_Valid.calls 2000 _ _ _ _ _ _ HV.out).mono ?_); rintro e w2 ⟨rfl, hb2⟩; clear hd0 hd1 hd2 hd3; have HBK2 := Aside0.mk (HBK.out.below hb2); have HK2 := Aside0.mk (HKP.out.below hb2); have HD2 := Aside0.mk (blk_below HD.out hb2); have HS2 := Aside0.mk (Nat.le_trans HSZ.out hb2.size); have hd0 := (blk_cell HD2.out 0).trans rfl; have hd1 := (blk_cell HD2.out 1).trans rfl; have hd2 := (blk_cell HD2.out 2).trans rfl; have hd3 := (blk_cell HD2.out 3).trans rfl; clear hb2)) | (go_at_call 17; (have h := add_calls w2 _ _ b _ HBK2.out (fullL_asc _) d (fun q hq => Nat.le_trans HS2.out hq) (by rw [fullL_len]; omega); rw [HLA.out] at h; (with_reducible refine h.mono ?_); clear h hd0 hd1 hd2 hd3; rintro e w3 ⟨rfl, hbk3, hk3⟩; have HBK3 := Aside0.mk hbk3; have HK3 : Aside0 (KeptS w w3 (fun _ => False)) := ⟨HK2.out.then_ hk3 (fun q hq => .inr (Nat.le_trans (Nat.le_trans (Nat.le_succ _) HW0.out) hq))⟩; have HD3 := Aside0.mk (blk_keptS HD2.out hk3 (fun hq => by have := HW0.out; omega)); have hd0 := (blk_cell HD3.out 0).trans rfl; have hd1 := (blk_cell HD3.out 1).trans rfl; have hd2 := (blk_cell HD3.out 2).trans rfl; have hd3 := (blk_cell HD3.out 3).trans rfl; clear hbk3 hk3)) | (go_at_call 19; go_loud (have h := decide_Book_Find.calls w3 _ _ b _ HBK3.out d.f0; rw [HFI.out, ← HXX.out, ← HOB.out] at h; unfold decV at h; (with_reducible refine h.mono ?_); clear h hd0 hd1 hd2 hd3; rintro e w4 ⟨rfl, hb4⟩; have HD4 : Aside0 ((w4.alloc (.cells #[.int .u64 x.f0, .int .i64 x.f1, .string x.f2, .string x.f3] 35 (0, 0))).heap[w.heap.size]? = some (.cells #[.int .u64 d.f0, .int .i64 d.f1, .string d.f2, .string d.f3] 35 (0, 0))) := ⟨blk_alloc (blk_below HD3.out hb4) _⟩; have HX4 : Aside0 ((w4.alloc (.cells #[.int .u64 x.f0, .int .i64 x.f1, .string x.f2, .string x.f3] 35 (0, 0))).heap[w4.heap.size]? = some (.cells #[.int .u64 x.f0, .int .i64 x.f1, .string x.f2, .string x.f3] 35 (0, 0))) := ⟨blk_new w4 _⟩; have HK4 : Aside0 (KeptS w (w4.alloc (.cells #[.int .u64 x.f0, .int .i64 x.f1, .string x.f2, .string x.f3] 35 (0, 0))) (fun _ => False)) := ⟨KeptS.alloc (HK3.out.below hb4) _⟩; have HG4 := Aside0.mk (Glob.keptGS HK4.out (fun _ h => h.elim) HG.out); have hz : (w4.alloc (.cells #[.int .u64 0, .int .i64 0, .string ⟨#[]⟩, .string ⟨#[]⟩] 35 (0, 0))).heap[w4.heap.size]? = some (.cells #[.int .u64 0, .int .i64 0, .string ⟨#[]⟩, .string ⟨#[]⟩] 35 (0, 0)) := blk_new w4 _; have hz0 := (blk_cell hz 0).trans rfl; have hz1 := (blk_cell hz 1).trans rfl; have hz2 := (blk_cell hz 2).trans rfl; have hz3 := (blk_cell hz 3).trans rfl; have hf0 := blk_frozen hz 0; have hf1 := blk_frozen hz 1; have hf2 := blk_frozen hz 2; have hf3 := blk_frozen hz 3; clear hb4 hz)) | (go_at_call 10; ((with_reducible refine (awake_calls _ HG4.out).mono ?_); rintro e w5 ⟨rfl, hk5⟩; clear hz0 hz1 hz2 hz3 hf0 hf1 hf2 hf3; have HK5 : Aside0 (KeptS w w5 (fun _ => False)) := ⟨HK4.out.then_ hk5 (fun _ h => h.elim)⟩; have HD5 := Aside0.mk (blk_keptS HD4.out hk5 (fun h => h)); have HX5 := Aside0.mk (blk_keptS HX4.out hk5 (fun h => h)); have hd0 := (blk_cell HD5.out 0).trans rfl; have hd1 := (blk_cell HD5.out 1).trans rfl; have hd2 := (blk_cell HD5.out 2).trans rfl; have hd3 := (blk_cell HD5.out 3).trans rfl; have hx0 := (blk_cell HX5.out 0).trans rfl; have hx1 := (blk_cell HX5.out 1).trans rfl; have hx2 := (blk_cell HX5.out 2).trans rfl; have hx3 := (blk_cell HX5.out 3).trans rfl; clear hk5)))
            go_ret
            exact ⟨rfl, HK5.out⟩
          · rw [if_neg (fun q => c3 q.2.2)] at hla
            have e3 : decide ((k : Int) ≥ 256) = true := decide_eq_true (by omega)
            have e4 : decide (256 ≤ (k : Int)) = true := decide_eq_true (by omega)
            have e5 : decide (256 ≤ k) = true := decide_eq_true (by omega)
            have e6 : decide (d.f0 ≥ 256) = false := decide_eq_false (by omega)
            have e7 : decide (256 ≤ d.f0) = false := decide_eq_false (by omega)
            have HLA := Aside0.mk hla
            have HFI := Aside0.mk (hfi hla)
            clear hla hfi hB c2 c3
            go_wp2_with (first | (go_at_call 18; ((with_reducible refine (treemergeref36_Valid.calls 2000 _ _ _ _ _ _ HV.out).mono ?_); rintro e w2 ⟨rfl, hb2⟩; clear hd0 hd1 hd2 hd3; have HBK2 := Aside0.mk (HBK.out.below hb2); have HK2 := Aside0.mk (HKP.out.below hb2); have HD2 := Aside0.mk (blk_below HD.out hb2); have HS2 := Aside0.mk (Nat.le_trans HSZ.out hb2.size); have hd0 := (blk_cell HD2.out 0).trans rfl; have hd1 := (blk_cell HD2.out 1).trans rfl; have hd2 := (blk_cell HD2.out 2).trans rfl; have hd3 := (blk_cell HD2.out 3).trans rfl; clear hb2)) | (go_at_call 17; (have h := add_calls w2 _ _ b _ HBK2.out (fullL_asc _) d (fun q hq => Nat.le_trans HS2.out hq) (by rw [fullL_len]; omega); rw [HLA.out] at h; (with_reducible refine h.mono ?_); clear h hd0 hd1 hd2 hd3; rintro e w3 ⟨rfl, hbk3, hk3⟩; have HBK3 := Aside0.mk hbk3; have HK3 : Aside0 (KeptS w w3 (fun _ => False)) := ⟨HK2.out.then_ hk3 (fun q hq => .inr (Nat.le_trans (Nat.le_trans (Nat.le_succ _) HW0.out) hq))⟩; have HD3 := Aside0.mk (blk_keptS HD2.out hk3 (fun hq => by have := HW0.out; omega)); have hd0 := (blk_cell HD3.out 0).trans rfl; have hd1 := (blk_cell HD3.out 1).trans rfl; have hd2 := (blk_cell HD3.out 2).trans rfl; have hd3 := (blk_cell HD3.out 3).trans rfl; clear hbk3 hk3)) | (go_at_call 19; go_loud (have h := decide_Book_Find.calls w3 _ _ b _ HBK3.out d.f0; rw [HFI.out, Option.getD_some, Option.isSome_some] at h; unfold decV at h; (with_reducible refine h.mono ?_); clear h hd0 hd1 hd2 hd3; rintro e w4 ⟨rfl, hb4⟩; have HD4 : Aside0 ((w4.alloc (.cells #[.int .u64 d.f0, .int .i64 d.f1, .string d.f2, .string d.f3] 35 (0, 0))).heap[w.heap.size]? = some (.cells #[.int .u64 d.f0, .int .i64 d.f1, .string d.f2, .string d.f3] 35 (0, 0))) := ⟨blk_alloc (blk_below HD3.out hb4) _⟩; have HX4 : Aside0 ((w4.alloc (.cells #[.int .u64 d.f0, .int .i64 d.f1, .string d.f2, .string d.f3] 35 (0, 0))).heap[w4.heap.size]? = some (.cells #[.int .u64 d.f0, .int .i64 d.f1, .string d.f2, .string d.f3] 35 (0, 0))) := ⟨blk_new w4 _⟩; have HK4 : Aside0 (KeptS w (w4.alloc (.cells #[.int .u64 d.f0, .int .i64 d.f1, .string d.f2, .string d.f3] 35 (0, 0))) (fun _ => False)) := ⟨KeptS.alloc (HK3.out.below hb4) _⟩; have HG4 := Aside0.mk (Glob.keptGS HK4.out (fun _ h => h.elim) HG.out); have hz : (w4.alloc (.cells #[.int .u64 0, .int .i64 0, .string ⟨#[]⟩, .string ⟨#[]⟩] 35 (0, 0))).heap[w4.heap.size]? = some (.cells #[.int .u64 0, .int .i64 0, .string ⟨#[]⟩, .string ⟨#[]⟩] 35 (0, 0)) := blk_new w4 _; have hz0 := (blk_cell hz 0).trans rfl; have hz1 := (blk_cell hz 1).trans rfl; have hz2 := (blk_cell hz 2).trans rfl; have hz3 := (blk_cell hz 3).trans rfl; have hf0 := blk_frozen hz 0; have hf1 := blk_frozen hz 1; have hf2 := blk_frozen hz 2; have hf3 := blk_frozen hz 3; clear hb4 hz)) | (go_at_call 10; ((with_reducible refine (awake_calls _ HG4.out).mono ?_); rintro e w5 ⟨rfl, hk5⟩; clear hz0 hz1 hz2 hz3 hf0 hf1 hf2 hf3; have HK5 : Aside0 (KeptS w w5 (fun _ => False)) := ⟨HK4.out.then_ hk5 (fun _ h => h.elim)⟩; have HD5 := Aside0.mk (blk_keptS HD4.out hk5 (fun h => h)); have HX5 := Aside0.mk (blk_keptS HX4.out hk5 (fun h => h)); have hd0 := (blk_cell HD5.out 0).trans rfl; have hd1 := (blk_cell HD5.out 1).trans rfl; have hd2 := (blk_cell HD5.out 2).trans rfl; have hd3 := (blk_cell HD5.out 3).trans rfl; have hx0 := (blk_cell HX5.out 0).trans rfl; have hx1 := (blk_cell HX5.out 1).trans rfl; have hx2 := (blk_cell HX5.out 2).trans rfl; have hx3 := (blk_cell HX5.out 3).trans rfl; clear hk5)))
            go_ret
            exact ⟨rfl, HK5.out⟩
        · rw [if_neg (fun q => c2 q.2.1)] at hla
          have e3 : decide ((k : Int) ≥ 256) = false := decide_eq_false (by omega)
          have e4 : decide (256 ≤ (k : Int)) = false := decide_eq_false (by omega)
          have e5 : decide (256 ≤ k) = false := decide_eq_false (by omega)
          have HLA := Aside0.mk hla
          have HFI := Aside0.mk (hfi hla)
          clear hla hfi hB c2
          go_wp2_with (first | (go_at_call 18; ((with_reducible refine (treemergeref36_Valid.calls 2000 _ _ _ _ _ _ HV.out).mono ?_); rintro e w2 ⟨rfl, hb2⟩; clear hd0 hd1 hd2 hd3; have HBK2 := Aside0.mk (HBK.out.below hb2); have HK2 := Aside0.mk (HKP.out.below hb2); have HD2 := Aside0.mk (blk_below HD.out hb2); have HS2 := Aside0.mk (Nat.le_trans HSZ.out hb2.size); have hd0 := (blk_cell HD2.out 0).trans rfl; have hd1 := (blk_cell HD2.out 1).trans rfl; have hd2 := (blk_cell HD2.out 2).trans rfl; have hd3 := (blk_cell HD2.out 3).trans rfl; clear hb2)) | (go_at_call 17; (have h := add_calls w2 _ _ b _ HBK2.out (fullL_asc _) d (fun q hq => Nat.le_trans HS2.out hq) (by rw [fullL_len]; omega); rw [HLA.out] at h; (with_reducible refine h.mono ?_); clear h hd0 hd1 hd2 hd3; rintro e w3 ⟨rfl, hbk3, hk3⟩; have HBK3 := Aside0.mk hbk3; have HK3 : Aside0 (KeptS w w3 (fun _ => False)) := ⟨HK2.out.then_ hk3 (fun q hq => .inr (Nat.le_trans (Nat.le_trans (Nat.le_succ _) HW0.out) hq))⟩; have HD3 := Aside0.mk (blk_keptS HD2.out hk3 (fun hq => by have := HW0.out; omega)); have hd0 := (blk_cell HD3.out 0).trans rfl; have hd1 := (blk_cell HD3.out 1).trans rfl; have hd2 := (blk_cell HD3.out 2).trans rfl; have hd3 := (blk_cell HD3.out 3).trans rfl; clear hbk3 hk3)) | (go_at_call 19; go_loud (have h := decide_Book_Find.calls w3 _ _ b _ HBK3.out d.f0; rw [HFI.out, Option.getD_some, Option.isSome_some] at h; unfold decV at h; (with_reducible refine h.mono ?_); clear h hd0 hd1 hd2 hd3; rintro e w4 ⟨rfl, hb4⟩; have HD4 : Aside0 ((w4.alloc (.cells #[.int .u64 d.f0, .int .i64 d.f1, .string d.f2, .string d.f3] 35 (0, 0))).heap[w.heap.size]? = some (.cells #[.int .u64 d.f0, .int .i64 d.f1, .string d.f2, .string d.f3] 35 (0, 0))) := ⟨blk_alloc (blk_below HD3.out hb4) _⟩; have HX4 : Aside0 ((w4.alloc (.cells #[.int .u64 d.f0, .int .i64 d.f1, .string d.f2, .string d.f3] 35 (0, 0))).heap[w4.heap.size]? = some (.cells #[.int .u64 d.f0, .int .i64 d.f1, .string d.f2, .string d.f3] 35 (0, 0))) := ⟨blk_new w4 _⟩; have HK4 : Aside0 (KeptS w (w4.alloc (.cells #[.int .u64 d.f0, .int .i64 d.f1, .string d.f2, .string d.f3] 35 (0, 0))) (fun _ => False)) := ⟨KeptS.alloc (HK3.out.below hb4) _⟩; have HG4 := Aside0.mk (Glob.keptGS HK4.out (fun _ h => h.elim) HG.out); have hz : (w4.alloc (.cells #[.int .u64 0, .int .i64 0, .string ⟨#[]⟩, .string ⟨#[]⟩] 35 (0, 0))).heap[w4.heap.size]? = some (.cells #[.int .u64 0, .int .i64 0, .string ⟨#[]⟩, .string ⟨#[]⟩] 35 (0, 0)) := blk_new w4 _; have hz0 := (blk_cell hz 0).trans rfl; have hz1 := (blk_cell hz 1).trans rfl; have hz2 := (blk_cell hz 2).trans rfl; have hz3 := (blk_cell hz 3).trans rfl; have hf0 := blk_frozen hz 0; have hf1 := blk_frozen hz 1; have hf2 := blk_frozen hz 2; have hf3 := blk_frozen hz 3; clear hb4 hz)) | (go_at_call 10; ((with_reducible refine (awake_calls _ HG4.out).mono ?_); rintro e w5 ⟨rfl, hk5⟩; clear hz0 hz1 hz2 hz3 hf0 hf1 hf2 hf3; have HK5 : Aside0 (KeptS w w5 (fun _ => False)) := ⟨HK4.out.then_ hk5 (fun _ h => h.elim)⟩; have HD5 := Aside0.mk (blk_keptS HD4.out hk5 (fun h => h)); have HX5 := Aside0.mk (blk_keptS HX4.out hk5 (fun h => h)); have hd0 := (blk_cell HD5.out 0).trans rfl; have hd1 := (blk_cell HD5.out 1).trans rfl; have hd2 := (blk_cell HD5.out 2).trans rfl; have hd3 := (blk_cell HD5.out 3).trans rfl; have hx0 := (blk_cell HX5.out 0).trans rfl; have hx1 := (blk_cell HX5.out 1).trans rfl; have hx2 := (blk_cell HX5.out 2).trans rfl; have hx3 := (blk_cell HX5.out 3).trans rfl; clear hk5)))
          go_ret
          exact ⟨rfl, HK5.out⟩
      · have e1 : (v == 0) = false := beq_eq_false_iff_ne.2 c1
        have e2 : (v != 0) = true := bne_iff_ne.2 c1
        rw [if_neg (fun q => c1 q.1)] at hla
        have HLA := Aside0.mk hla
        obtain ⟨x, ok9, hx9⟩ : ∃ (x : S35) (o : Option S35), bookIn (bookAdd (fullL (min k 256)) d).1 d.f0 = o ∧ x = o.getD z35 := ⟨_, _, rfl, rfl⟩
        obtain ⟨hx9, hxx⟩ := hx9
        obtain ⟨ob, hob⟩ : ∃ ob, ob = ok9.isSome := ⟨_, rfl⟩
        have HFI := Aside0.mk hx9
        have HXX := Aside0.mk hxx
        have HOB := Aside0.mk hob
        clear hla hfi hB hx9 hxx hob c1
        go_wp2_with (first | (go_at_call 18; ((with_reducible refine (treemergeref36_Valid.calls 2000 _ _ _ _ _ _ HV.out).mono ?_); rintro e w2 ⟨rfl, hb2⟩; clear hd0 hd1 hd2 hd3; have HBK2 := Aside0.mk (HBK.out.below hb2); have HK2 := Aside0.mk (HKP.out.below hb2); have HD2 := Aside0.mk (blk_below HD.out hb2); have HS2 := Aside0.mk (Nat.le_trans HSZ.out hb2.size); have hd0 := (blk_cell HD2.out 0).trans rfl; have hd1 := (blk_cell HD2.out 1).trans rfl; have hd2 := (blk_cell HD2.out 2).trans rfl; have hd3 := (blk_cell HD2.out 3).trans rfl; clear hb2)) | (go_at_call 17; (have h := add_calls w2 _ _ b _ HBK2.out (fullL_asc _) d (fun q hq => Nat.le_trans HS2.out hq) (by rw [fullL_len]; omega); rw [HLA.out] at h; (with_reducible refine h.mono ?_); clear h hd0 hd1 hd2 hd3; rintro e w3 ⟨rfl, hbk3, hk3⟩; have HBK3 := Aside0.mk hbk3; have HK3 : Aside0 (KeptS w w3 (fun _ => False)) := ⟨HK2.out.then_ hk3 (fun q hq => .inr (Nat.le_trans (Nat.le_trans (Nat.le_succ _) HW0.out) hq))⟩; have HD3 := Aside0.mk (blk_keptS HD2.out hk3 (fun hq => by have := HW0.out; omega)); have hd0 := (blk_cell HD3.out 0).trans rfl; have hd1 := (blk_cell HD3.out 1).trans rfl; have hd2 := (blk_cell HD3.out 2).trans rfl; have hd3 := (blk_cell HD3.out 3).trans rfl; clear hbk3 hk3)) | (go_at_call 19; go_loud (have h := decide_Book_Find.calls w3 _ _ b _ HBK3.out d.f0; rw [HFI.out, ← HXX.out, ← HOB.out] at h; unfold decV at h; (with_reducible refine h.mono ?_); clear h hd0 hd1 hd2 hd3; rintro e w4 ⟨rfl, hb4⟩; have HD4 : Aside0 ((w4.alloc (.cells #[.int .u64 x.f0, .int .i64 x.f1, .string x.f2, .string x.f3] 35 (0, 0))).heap[w.heap.size]? = some (.cells #[.int .u64 d.f0, .int .i64 d.f1, .string d.f2, .string d.f3] 35 (0, 0))) := ⟨blk_alloc (blk_below HD3.out hb4) _⟩; have HX4 : Aside0 ((w4.alloc (.cells #[.int .u64 x.f0, .int .i64 x.f1, .string x.f2, .string x.f3] 35 (0, 0))).heap[w4.heap.size]? = some (.cells #[.int .u64 x.f0, .int .i64 x.f1, .string x.f2, .string x.f3] 35 (0, 0))) := ⟨blk_new w4 _⟩; have HK4 : Aside0 (KeptS w (w4.alloc (.cells #[.int .u64 x.f0, .int .i64 x.f1, .string x.f2, .string x.f3] 35 (0, 0))) (fun _ => False)) := ⟨KeptS.alloc (HK3.out.below hb4) _⟩; have HG4 := Aside0.mk (Glob.keptGS HK4.out (fun _ h => h.elim) HG.out); have hz : (w4.alloc (.cells #[.int .u64 0, .int .i64 0, .string ⟨#[]⟩, .string ⟨#[]⟩] 35 (0, 0))).heap[w4.heap.size]? = some (.cells #[.int .u64 0, .int .i64 0, .string ⟨#[]⟩, .string ⟨#[]⟩] 35 (0, 0)) := blk_new w4 _; have hz0 := (blk_cell hz 0).trans rfl; have hz1 := (blk_cell hz 1).trans rfl; have hz2 := (blk_cell hz 2).trans rfl; have hz3 := (blk_cell hz 3).trans rfl; have hf0 := blk_frozen hz 0; have hf1 := blk_frozen hz 1; have hf2 := blk_frozen hz 2; have hf3 := blk_frozen hz 3; clear hb4 hz)) | (go_at_call 10; ((with_reducible refine (awake_calls _ HG4.out).mono ?_); rintro e w5 ⟨rfl, hk5⟩; clear hz0 hz1 hz2 hz3 hf0 hf1 hf2 hf3; have HK5 : Aside0 (KeptS w w5 (fun _ => False)) := ⟨HK4.out.then_ hk5 (fun _ h => h.elim)⟩; have HD5 := Aside0.mk (blk_keptS HD4.out hk5 (fun h => h)); have HX5 := Aside0.mk (blk_keptS HX4.out hk5 (fun h => h)); have hd0 := (blk_cell HD5.out 0).trans rfl; have hd1 := (blk_cell HD5.out 1).trans rfl; have hd2 := (blk_cell HD5.out 2).trans rfl; have hd3 := (blk_cell HD5.out 3).trans rfl; have hx0 := (blk_cell HX5.out 0).trans rfl; have hx1 := (blk_cell HX5.out 1).trans rfl; have hx2 := (blk_cell HX5.out 2).trans rfl; have hx3 := (blk_cell HX5.out 3).trans rfl; clear hk5)))
        go_ret
        exact ⟨rfl, HK5.out⟩
    | succ g =>
      have g1 : decide ((k : Int) < (m : Int)) = true := decide_eq_true (by omega)
      have g2 : decide (k < m) = true := decide_eq_true (by omega)
      have hk300 : k < 300 := by have := HN.out; omega
      have hcv : IntKind.u64.wrap (k : Int) = (k : Int) := wraps_u64 _ (by omega) (by omega)
      have hwk : IntKind.i64.wrap ((k : Int) + 1) = (k : Int) + 1 := (i64_w _).trans (by unfold wrap64; omega)
      have h := add_calls wr _ _ b _ HBK.out (fullL_asc _) (fullD k) (fun q hq => Nat.le_trans HSZ.out hq) (by rw [fullL_len]; omega)
      rw [fullAdd] at h
      by_cases h256 : k < 256
      · have g5 : decide ((k : Int) < 256) = true := decide_eq_true (by omega)
        have g6 : decide (k < 256) = true := decide_eq_true h256
        rw [if_pos h256] at h
        have HAD := Aside0.mk (show Calls Tryd.prog 17 #[.pointer (some ⟨b, 0, none⟩), .agg #[.int .u64 (k : Int), .int .i64 2, .string ⟨#[119]⟩, .string ⟨#[]⟩]] wr fun e w' => e = .returned (.int .i64 0) ∧ BookAt w' (fun q => w0.heap.size ≤ q) w0.heap.size b (fullL (min (k + 1) 256)) ∧ KeptS wr w' (fun q => w0.heap.size ≤ q) from h)
        clear h hk h256 hk300
        go_wp2_with (go_at_call 17; go_loud ((with_reducible refine HAD.out.mono ?_); rintro e w6 ⟨rfl, hbk6, hk6⟩; have HBK6 := Aside0.mk hbk6; have HK6 := Aside0.mk hk6; clear hbk6 hk6))
        go_roundg g
        case measure => omega
        case rel => exact ⟨k + 1, by go_num, by have := HK.out; omega, HBK6, ⟨HKP.out.then_ HK6.out (fun q hq => .inr (Nat.le_trans (Nat.le_trans (Nat.le_succ _) HW0.out) hq))⟩, ⟨blk_keptS HD.out HK6.out (fun hq => by have := HW0.out; omega)⟩, ⟨Nat.le_trans HSZ.out HK6.out.1⟩⟩
      · have g5 : decide ((k : Int) < 256) = false := decide_eq_false (by omega)
        have g6 : decide (k < 256) = false := decide_eq_false h256
        rw [if_neg h256] at h
        have HAD := Aside0.mk (show Calls Tryd.prog 17 #[.pointer (some ⟨b, 0, none⟩), .agg #[.int .u64 (k : Int), .int .i64 2, .string ⟨#[119]⟩, .string ⟨#[]⟩]] wr fun e w' => e = .returned (.int .i64 3) ∧ BookAt w' (fun q => w0.heap.size ≤ q) w0.heap.size b (fullL (min (k + 1) 256)) ∧ KeptS wr w' (fun q => w0.heap.size ≤ q) from h)
        clear h hk h256 hk300
        go_wp2_with (go_at_call 17; go_loud ((with_reducible refine HAD.out.mono ?_); rintro e w6 ⟨rfl, hbk6, hk6⟩; have HBK6 := Aside0.mk hbk6; have HK6 := Aside0.mk hk6; clear hbk6 hk6))
        go_roundg g
        case measure => omega
        case rel => exact ⟨k + 1, by go_num, by have := HK.out; omega, HBK6, ⟨HKP.out.then_ HK6.out (fun q hq => .inr (Nat.le_trans (Nat.le_trans (Nat.le_succ _) HW0.out) hq))⟩, ⟨blk_keptS HD.out HK6.out (fun hq => by have := HW0.out; omega)⟩, ⟨Nat.le_trans HSZ.out HK6.out.1⟩⟩

set_option maxHeartbeats 8000000 in
set_option maxRecDepth 100000 in
theorem DecideFull_out (n : Int) (d : S35) (w : World) (hG : Glob w) (hn : ¬ (0 ≤ n ∧ n ≤ 300)) : Calls Tryd.prog 4 #[.int .i64 n, .agg #[.int .u64 d.f0, .int .i64 d.f1, .string d.f2, .string d.f3]] w fun e w' => e = .returned (.bool true) ∧ KeptS w w' (fun _ => False) := by
  have HG := Aside0.mk hG
  have hu35 := Tryd.underlying35
  have HAW := Aside0.mk (fun W (h : KeptS w W (fun _ => False)) => awake_calls W (Glob.keptGS h (fun _ h => h.elim) hG))
  clear hG
  by_cases h0 : n < 0
  · have g1 : decide (n < 0) = true := decide_eq_true h0
    clear hn h0
    go_enter Tryd.func4, Tryd.ntmps4
    have HK := Aside0.mk (KeptS.alloc (KeptS.refl w (fun _ => False)) (.cells #[.int .u64 d.f0, .int .i64 d.f1, .string d.f2, .string d.f3] 35 (0, 0)))
    go_wp2_with (go_at_call 10; go_loud ((with_reducible refine (HAW.out _ HK.out).mono ?_); rintro e w5 ⟨rfl, hk5⟩; have HK5 : Aside0 (KeptS w w5 (fun _ => False)) := ⟨HK.out.then_ hk5 (fun _ h => h.elim)⟩; clear hk5))
    go_ret
    exact ⟨rfl, HK5.out⟩
  · have g1 : decide (n < 0) = false := decide_eq_false h0
    have g2 : decide (n > 300) = true := decide_eq_true (by omega)
    have g3 : decide (300 < n) = true := decide_eq_true (by omega)
    clear hn h0
    go_enter Tryd.func4, Tryd.ntmps4
    have HK := Aside0.mk (KeptS.alloc (KeptS.refl w (fun _ => False)) (.cells #[.int .u64 d.f0, .int .i64 d.f1, .string d.f2, .string d.f3] 35 (0, 0)))
    go_wp2_with (go_at_call 10; go_loud ((with_reducible refine (HAW.out _ HK.out).mono ?_); rintro e w5 ⟨rfl, hk5⟩; have HK5 : Aside0 (KeptS w w5 (fun _ => False)) := ⟨HK.out.then_ hk5 (fun _ h => h.elim)⟩; clear hk5))
    go_ret
    exact ⟨rfl, HK5.out⟩
set_option maxHeartbeats 8000000 in
set_option maxRecDepth 100000 in
theorem DecideFull_wide (n : Int) (d : S35) (w : World) (hG : Glob w) (hn : 0 ≤ n ∧ n ≤ 300) (hp : ¬ (d.f2.size ≤ 300 ∧ d.f3.size ≤ 600)) : Calls Tryd.prog 4 #[.int .i64 n, .agg #[.int .u64 d.f0, .int .i64 d.f1, .string d.f2, .string d.f3]] w fun e w' => e = .returned (.bool true) ∧ KeptS w w' (fun _ => False) := by
  have HG := Aside0.mk hG
  have hu35 := Tryd.underlying35
  have HAW := Aside0.mk (fun W (h : KeptS w W (fun _ => False)) => awake_calls W (Glob.keptGS h (fun _ h => h.elim) hG))
  have g1 : decide (n < 0) = false := decide_eq_false (by omega)
  have g2 : decide (n > 300) = false := decide_eq_false (by omega)
  have g3 : decide (300 < n) = false := decide_eq_false (by omega)
  have HPL := Aside0.mk (show treemergelaw36_plain.f d.f0 d.f1 d.f2 d.f3 = some false from by
    unfold treemergelaw36_plain.f
    by_cases c : (d.f2.size : Int) ≤ 300
    · rw [if_pos c, decide_eq_false (by omega)]
    · rw [if_neg c])
  clear hG hn hp
  go_enter Tryd.func4, Tryd.ntmps4
  have HK := Aside0.mk (KeptS.alloc (KeptS.refl w (fun _ => False)) (.cells #[.int .u64 d.f0, .int .i64 d.f1, .string d.f2, .string d.f3] 35 (0, 0)))
  go_wp2_with (first | (go_at_call 15; go_loud ((with_reducible refine (treemergelaw36_plain.calls _ _ _ _ false _ HPL.out).mono ?_); rintro e w0 ⟨rfl, hb0⟩; have HK0 := Aside0.mk (HK.out.below hb0); clear hb0)) | (go_at_call 10; go_loud ((with_reducible refine (HAW.out _ HK0.out).mono ?_); rintro e w5 ⟨rfl, hk5⟩; have HK5 : Aside0 (KeptS w w5 (fun _ => False)) := ⟨HK0.out.then_ hk5 (fun _ h => h.elim)⟩; clear hk5)))
  go_ret
  exact ⟨rfl, HK5.out⟩

theorem DecideFull_row (n : Int) (hn : (Lit.int .i64 n).wf = true) (d : S35) (hd : (Lit.int .u64 d.f0).wf = true ∧ (Lit.int .i64 d.f1).wf = true ∧ d.f2.size ≤ 140737488351232 ∧ d.f3.size ≤ 140737488351232) (w : World) (hG : Glob w) : Calls Tryd.prog 4 #[.int .i64 n, .agg #[.int .u64 d.f0, .int .i64 d.f1, .string d.f2, .string d.f3]] w fun e w' => e = .returned (.bool true) ∧ Below w.heap.size w w' := by
  have hb := bounds_u64 hd.1
  by_cases h : 0 ≤ n ∧ n ≤ 300
  · by_cases hp : d.f2.size ≤ 300 ∧ d.f3.size ≤ 600
    · exact (DecideFull_calls n d ⟨hb.1, by omega⟩ w hG h hp).mono fun e w' q => ⟨q.1, q.2.asBelow⟩
    · exact (DecideFull_wide n d w hG h hp).mono fun e w' q => ⟨q.1, q.2.asBelow⟩
  · exact (DecideFull_out n d w hG h).mono fun e w' q => ⟨q.1, q.2.asBelow⟩

end Go.Proofs.YtfajgjmhfpabiaaDoor.Scratch
