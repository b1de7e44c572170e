/- DecideRecalls returns true: proved here by steps through the program's text; no condition but those that stand in each theorem. -/
import Derived.WalkSpells
import Derived.Deep.RegionLaw
import Derived.Lib.OthersKept
import Derived.Test.YtfajgjmhfpabiaaDoorShelf
import Derived.Test.YtfajgjmhfpabiaaDoorQ0
import Derived.Test.YtfajgjmhfpabiaaDoorQ1
import Derived.Test.YtfajgjmhfpabiaaDoorQ2
import Derived.Test.YtfajgjmhfpabiaaDoorSb
import Derived.Test.YtfajgjmhfpabiaaDoorSg
import Derived.Test.YtfajgjmhfpabiaaDoorSh
import Derived.Test.YtfajgjmhfpabiaaDoorSi
import Derived.Test.YtfajgjmhfpabiaaDoorSj
import Derived.Test.YtfajgjmhfpabiaaDoorSk
import Derived.Test.YtfajgjmhfpabiaaDoorSm
import Derived.Test.YtfajgjmhfpabiaaDoorSq
import Derived.OpenShut
import Derived.Deep.RegionHeld3
import Derived.Deep.QuietTactic
import Derived.BigQuiet
namespace Go.Proofs.YtfajgjmhfpabiaaDoor.Scratch
set_option linter.unusedVariables false
open Go.RowKit Go.Proofs.YtfajgjmhfpabiaaDoorW.PrintWords Go.Proofs.YtfajgjmhfpabiaaDoorW.PrintLast Go.Proofs.YtfajgjmhfpabiaaDoorW.PrintMore Go.Proofs.YtfajgjmhfpabiaaDoor.Q
attribute [local go_sem] max2_int min2_int max_two min_two max_three min_three max_four min_four
theorem addAll_le : ∀ (l L : List S35), Asc L → (addAll L l).length ≤ L.length + l.length
  | [], L, _ => Nat.le_add_right _ _
  | x :: l, L, h => by
    have h1 := addAll_le l (bookAdd L x).1 (bookAdd_asc L x h)
    have h2 : (bookAdd L x).1.length ≤ L.length + 1 := by
      unfold bookAdd
      split
      · exact Nat.le_succ _
      · split
        · rename_i q
          obtain ⟨d0, hd⟩ := Option.isSome_iff_exists.1 q
          rw [bookPut_len_in L x d0 h hd]
          exact Nat.le_succ _
        · rename_i q
          split
          · exact Nat.le_succ _
          · rw [bookPut_len_new L x h (by simpa using q)]
            exact Nat.le_refl _
    show (addAll (bookAdd L x).1 l).length ≤ _
    rw [List.length_cons]
    omega

theorem KeptS.belowOf {W W' : World} {S : Nat → Prop} {n : Nat} (h : KeptS W W' S) (hs : ∀ k, S k → n ≤ k) (hn : n ≤ W.heap.size) : Below n W W' := ⟨h.os, h.tape, h.output, h.size, fun k hk => h.block k (by omega) (fun q => by have := hs k q; omega)⟩
theorem C56_one {W : World} {g : Nat} {c : S56} (h : W.heap[g]? = some (.cells #[.int .i64 c.f0, .int .i64 c.f1, .string c.f2, .string c.f3, .string c.f4] 56 (0, 0))) : Kd.C k56 W (some ⟨g, 0, none⟩) 1 [c] :=
  ⟨rfl, by decide, fun _ => ⟨_, rfl, fun j p hj => by
    cases j with
    | succ j => simp at hj
    | zero =>
      obtain rfl : c = p := by simpa using hj
      refine ⟨_, rfl, k56_mk W c, fun i u hu => ?_⟩
      have e : (⟨g, 0, none⟩ : Addr).add (0 * k56.sz + i) = ⟨g, i, none⟩ := by
        rw [Nat.zero_mul, Nat.zero_add]
        simp [Addr.add]; omega
      rw [e, blk_cell h i]
      simpa using hu⟩⟩
theorem C56_two {W : World} {g : Nat} {a c : S56} (h : W.heap[g]? = some (.cells #[.int .i64 a.f0, .int .i64 a.f1, .string a.f2, .string a.f3, .string a.f4, .int .i64 c.f0, .int .i64 c.f1, .string c.f2, .string c.f3, .string c.f4] 56 (0, 0))) : Kd.C k56 W (some ⟨g, 0, none⟩) 2 [a, c] :=
  ⟨rfl, by decide, fun _ => ⟨_, rfl, fun j p hj => by
    have e : ∀ n, (⟨g, 0, none⟩ : Addr).add n = ⟨g, n, none⟩ := fun n => by
      simp [Addr.add]; omega
    have hz : k56.sz = 5 := rfl
    match j, hj with
    | 0, hj =>
      obtain rfl : a = p := by simpa using hj
      refine ⟨_, rfl, k56_mk W a, fun i u hu => ?_⟩
      rw [e, blk_cell h, hz, Nat.zero_mul, Nat.zero_add]
      match i, hu with
      | 0, hu | 1, hu | 2, hu | 3, hu | 4, hu => simpa using hu
      | i + 5, hu => simp at hu
    | 1, hj =>
      obtain rfl : c = p := by simpa using hj
      refine ⟨_, rfl, k56_mk W c, fun i u hu => ?_⟩
      rw [e, blk_cell h, hz, Nat.one_mul]
      match i, hu with
      | 0, hu | 1, hu | 2, hu | 3, hu | 4, hu => simpa using hu
      | i + 5, hu => simp at hu
    | j + 2, hj => simp at hj⟩⟩
theorem keyS_id (c : S56) (i : Int) : keyS ⟨c.f0, i, c.f2, c.f3, c.f4⟩ = keyS c := rfl
theorem picks_one {L : List S35} {c : S56} {d : S35} (h : bookIn L (keyS c) = some d) : picksGo L [c] [] [] = ([⟨keyS c, d.f1⟩], []) := by
  rw [picksGo, h]
  rfl
theorem picks_two {L : List S35} {a c : S56} {d : S35} (e : keyS a = keyS c) (h : bookIn L (keyS c) = some d) : picksGo L [a, c] [] [] = ([⟨keyS c, d.f1⟩], []) := by
  rw [picksGo, e, h]
  dsimp only
  rw [if_neg (by simp), picksGo, h]
  dsimp only
  rw [if_pos (by simp), picksGo]
  rfl
theorem picks_off {L : List S35} {c : S56} (h : bookIn L (keyS c) = none) : picksGo L [c] [] [] = ([], [c]) := by
  rw [picksGo, h]
  rfl
theorem fault_ann (s : Int) (h : s = 1 ∨ s = 2) : faultS s annB ⟨#[]⟩ = 0 := by
  unfold faultS
  rw [toList_eq]
  rcases h with rfl | rfl <;> decide +kernel
theorem bookAdd_ok (L : List S35) (d : S35) (hf : faultS d.f1 d.f2 d.f3 = 0) (hl : L.length < 256) : bookAdd L d = (bookPut L d, 0) := by
  unfold bookAdd
  rw [if_neg (by simpa using hf)]
  split
  · rfl
  · rw [if_neg (by omega)]
theorem bookAdd_other (L : List S35) (x : S35) (k : Int) (ha : Asc L) (hk : x.f0 ≠ k) : bookIn (bookAdd L x).1 k = bookIn L k := by
  unfold bookAdd
  have e : bookIn (bookPut L x) k = bookIn L k := by rw [bookIn_put L x k ha, if_neg (fun q => hk q.symm)]
  repeat' split
  all_goals first | rfl | exact e
theorem tdiv2 (a : Int) (h : -9223372036854775808 ≤ a ∧ a ≤ 9223372036854775807) : -9223372036854775808 ≤ a.tdiv 2 ∧ a.tdiv 2 ≤ 9223372036854775807 := by
  by_cases c : 0 ≤ a
  · rw [Int.tdiv_eq_ediv_of_nonneg c]
    omega
  · obtain ⟨m, rfl⟩ : ∃ m : Int, a = -m := ⟨-a, by omega⟩
    rw [Int.neg_tdiv, Int.tdiv_eq_ediv_of_nonneg (by omega)]
    omega

set_option maxHeartbeats 8000000 in
set_option maxRecDepth 100000 in
theorem DecideRecalls_calls (A0 : Option Addr) (c0 : Nat) (l0 : List S35) (c : S56) (left : Bool) (A1 : Option Addr) (c1 : Nat) (l1 : List S35) (w : World) (hG : Glob w) (hr0 : Kd.C k35 w A0 l0.length l0) (hc0 : l0.length ≤ c0) (hr1 : Kd.C k35 w A1 l1.length l1) (hc1 : l1.length ≤ c1) (hv : ValidL l0) (hv1 : ValidL l1) (hf : FewL [c] 1) (hfc : FewC c) (hcb : -9223372036854775808 ≤ c.f1 ∧ c.f1 ≤ 9223372036854775807) : Calls Tryd.prog 8 #[.slice A0 l0.length c0, .agg #[.int .i64 c.f0, .int .i64 c.f1, .string c.f2, .string c.f3, .string c.f4], .bool left, .slice A1 l1.length c1] w fun e w' => e = .returned (.bool true) ∧ Below w.heap.size w w' := by
  obtain ⟨kv, hkv⟩ := (valid36_ev l0 (by have := hv.1; omega)).rounds
  rw [decide_eq_true hv] at hkv
  obtain ⟨kw, hkw⟩ := (valid36_ev l1 (by have := hv1.1; omega)).rounds
  rw [decide_eq_true hv1] at hkw
  obtain ⟨kf, hkf⟩ := (few36_ev [c] 1 (by decide) (by simp)).rounds
  rw [decide_eq_true hf] at hkf
  obtain ⟨kk, hkk⟩ := (conflict_key_ev c hfc).rounds
  have HKV := Aside0.mk hkv
  have HKW := Aside0.mk hkw
  have HKF := Aside0.mk (show treemergelaw36_few.f kf [c] 1 = some true from hkf)
  have HKK := Aside0.mk hkk
  have HFW : Aside0 (∀ (W : World) (g : Nat), Kd.C k56 W (some ⟨g, 0, none⟩) 1 [c] → Calls Tryd.prog 24 #[.slice (some ⟨g, 0, none⟩) 1 1, .int .i64 1] W fun e w' => e = .returned (.bool true) ∧ Drawn0 W w') := ⟨fun W g hC => treemergelaw36_few.calls kf _ 1 [c] 1 true W hC (Nat.le_refl 1) HKF.out⟩
  have hlen := hv.1
  have hlen1 := hv1.1
  have HG := Aside0.mk (fun W (hb : Below w.heap.size w W) => Glob.below hb hG)
  have HC0 := Aside0.mk hr0
  have HC1 := Aside0.mk hr1
  have HKS := Aside0.mk (rfl : keyS c = keyS c)
  obtain ⟨key, hkey⟩ : ∃ key, key = keyS c := ⟨_, rfl⟩
  rw [← hkey] at HKK
  have HKE := Aside0.mk hkey
  have hu35 := Tryd.underlying35
  have hu56 := Tryd.underlying56
  have HAD := Aside0.mk (fun W (hC : Kd.C k35 W A0 l0.length l0) => added_calls A0 c0 l0 W hC hc0 (by omega))
  have HA0 := Aside0.mk (addAll_asc l0 [] List.Pairwise.nil)
  have hL0 := addAll_le l0 [] List.Pairwise.nil
  rw [List.length_nil, Nat.zero_add] at hL0
  generalize addAll [] l0 = L0 at *
  have HBX := Aside0.mk (blk_new w (.cells #[.int .i64 c.f0, .int .i64 c.f1, .string c.f2, .string c.f3, .string c.f4] 56 (0, 0)))
  have HB0 := Aside0.mk (below_alloc (Below.refl w.heap.size w) (.cells #[.int .i64 c.f0, .int .i64 c.f1, .string c.f2, .string c.f3, .string c.f4] 56 (0, 0)))
  clear hkv hG hv hkf hf hkw hkk hkey
  cases left with
  | false =>
    have HADD : Aside0 (∀ (W : World) (ok : Nat → Prop) (base b : Nat), BookAt W ok base b L0 → (∀ k, W.heap.size ≤ k → ok k) → Calls Tryd.prog 17 #[.pointer (some ⟨b, 0, none⟩), .agg #[.int .u64 key, .int .i64 2, .string ⟨#[97, 110, 110]⟩, .string ⟨#[]⟩]] W fun e w' => e = .returned (.int .i64 0) ∧ BookAt w' ok base b (bookPut L0 (⟨key, 2, annB, ⟨#[]⟩⟩ : S35)) ∧ KeptS W w' ok) := ⟨fun W ok base b hB hk => by
      have := add_calls W ok base b L0 hB HA0.out (⟨key, 2, annB, ⟨#[]⟩⟩ : S35) hk (by omega)
      rw [bookAdd_ok L0 (⟨key, 2, annB, ⟨#[]⟩⟩ : S35) (fault_ann 2 (by decide)) (by omega)] at this
      exact this⟩
    go_enter Tryd.func8, Tryd.ntmps8
    go_wp2_with (first | (go_at_call 20; go_loud ((with_reducible refine (treemergelaw36_valid.calls kv A0 c0 l0 true _ (Kd.C_below HC0.out HB0.out) hc0 HKV.out).mono ?_); rintro e w1 ⟨rfl, hb1⟩; have HB1 := Aside0.mk (below_step HB0.out hb1); have HX1 := Aside0.mk (blk_below HBX.out hb1); clear hb1)) | (go_at_call 20; go_loud ((with_reducible refine (treemergelaw36_valid.calls kw A1 c1 l1 true _ (Kd.C_below HC1.out HB1.out) hc1 HKW.out).mono ?_); rintro e w2 ⟨rfl, hb2⟩; have HB2 := Aside0.mk (below_alloc (below_step HB1.out hb2) (.cells #[.int .i64 c.f0, .int .i64 c.f1, .string c.f2, .string c.f3, .string c.f4] 56 (0, 0))); have HX2 := Aside0.mk (blk_below HX1.out hb2); have hx0 := (blk_cell HX2.out 0).trans rfl; have hx1 := (blk_cell HX2.out 1).trans rfl; have hx2 := (blk_cell HX2.out 2).trans rfl; have hx3 := (blk_cell HX2.out 3).trans rfl; have hx4 := (blk_cell HX2.out 4).trans rfl; have HCS := Aside0.mk (C56_one (blk_new w2 (.cells #[.int .i64 c.f0, .int .i64 c.f1, .string c.f2, .string c.f3, .string c.f4] 56 (0, 0)))); clear hb2)) | (go_at_call 24; go_loud ((with_reducible refine (HFW.out _ _ HCS.out).mono ?_); clear hx0 hx1 hx2 hx3 hx4; rintro e w3 ⟨rfl, hb3⟩; have HB3 := Aside0.mk (below_step HB2.out hb3.below); have HX3 := Aside0.mk (blk_below (blk_alloc HX2.out (.cells #[.int .i64 c.f0, .int .i64 c.f1, .string c.f2, .string c.f3, .string c.f4] 56 (0, 0))) hb3.below); have hx0 := (blk_cell HX3.out 0).trans rfl; have hx1 := (blk_cell HX3.out 1).trans rfl; have hx2 := (blk_cell HX3.out 2).trans rfl; have hx3 := (blk_cell HX3.out 3).trans rfl; have hx4 := (blk_cell HX3.out 4).trans rfl; clear hb3)) | (go_at_call 26; go_loud ((with_reducible refine (conflict_Key.calls kk _ _ _ _ _ _ _ (HG.out _ HB3.out) HKK.out).mono ?_); clear hx0 hx1 hx2 hx3 hx4; rintro e w4 ⟨rfl, hb4⟩; have HB4 := Aside0.mk (below_step HB3.out hb4); have HX4 := Aside0.mk (blk_below HX3.out hb4); have hz : (w4.alloc (.cells #[.int .u64 0, .int .i64 0, .string ⟨#[]⟩, .string ⟨#[]⟩] 35 (0, 0))).heap[w4.heap.size]? = some (.cells #[.int .u64 0, .int .i64 0, .string ⟨#[]⟩, .string ⟨#[]⟩] 35 (0, 0)) := blk_new w4 _; have hz0 := (blk_cell hz 0).trans rfl; have hz1 := (blk_cell hz 1).trans rfl; have hz2 := (blk_cell hz 2).trans rfl; have hz3 := (blk_cell hz 3).trans rfl; have hf0 := blk_frozen hz 0; have hf1 := blk_frozen hz 1; have hf2 := blk_frozen hz 2; have hf3 := blk_frozen hz 3; have HB5 := Aside0.mk (below_alloc HB4.out (.cells #[.int .u64 key, .int .i64 2, .string ⟨#[97, 110, 110]⟩, .string ⟨#[]⟩] 35 (0, 0))); have HX5 := Aside0.mk (blk_alloc HX4.out (.cells #[.int .u64 key, .int .i64 2, .string ⟨#[97, 110, 110]⟩, .string ⟨#[]⟩] 35 (0, 0))); have HD5 : Aside0 ((w4.alloc (.cells #[.int .u64 key, .int .i64 2, .string ⟨#[97, 110, 110]⟩, .string ⟨#[]⟩] 35 (0, 0))).heap[w4.heap.size]? = some (.cells #[.int .u64 key, .int .i64 2, .string ⟨#[97, 110, 110]⟩, .string ⟨#[]⟩] 35 (0, 0))) := ⟨blk_new w4 _⟩; clear hb4 hz)) | (go_at_call 21; go_loud ((with_reducible refine (HAD.out _ (Kd.C_below HC0.out HB5.out)).mono ?_); rintro e w6 ⟨b, rfl, hbk6, hk6⟩; clear hz0 hz1 hz2 hz3 hf0 hf1 hf2 hf3; have HBK6 := Aside0.mk (hbk6.mono (ok' := fun k => (w4.alloc (.cells #[.int .u64 key, .int .i64 2, .string ⟨#[97, 110, 110]⟩, .string ⟨#[]⟩] 35 (0, 0))).heap.size ≤ k) (fun k h => h.1)); have HB6 := Aside0.mk hk6.asBelow; have HD6 := Aside0.mk (blk_below HD5.out hk6.asBelow); have hd0 := (blk_cell HD6.out 0).trans rfl; have hd1 := (blk_cell HD6.out 1).trans rfl; have hd2 := (blk_cell HD6.out 2).trans rfl; have hd3 := (blk_cell HD6.out 3).trans rfl; clear hbk6 hk6)) | (go_at_call 17; go_loud ((with_reducible refine (HADD.out _ _ _ b HBK6.out (fun q hq => Nat.le_trans HB6.out.size hq)).mono ?_); rintro e w7 ⟨rfl, hbk7, hk7⟩; clear hd0 hd1 hd2 hd3; have HBK7 := Aside0.mk hbk7; have HB7 := Aside0.mk (HB6.out.trans (hk7.belowOf (fun k h => h) HB6.out.size)); clear hbk7 hk7)))
    have HA1 := Aside0.mk (bookPut_asc L0 (⟨key, 2, annB, ⟨#[]⟩⟩ : S35) HA0.out)
    have hl1 : (bookPut L0 (⟨key, 2, annB, ⟨#[]⟩⟩ : S35)).length ≤ 256 := by
      have := bookAdd_len L0 (⟨key, 2, annB, ⟨#[]⟩⟩ : S35) HA0.out
      rw [bookAdd_ok L0 (⟨key, 2, annB, ⟨#[]⟩⟩ : S35) (fault_ann 2 (by decide)) (by omega)] at this
      have e : max L0.length 256 = 256 := by omega
      rw [e] at this
      exact this
    have hi1 : bookIn (bookPut L0 (⟨key, 2, annB, ⟨#[]⟩⟩ : S35)) key = some (⟨key, 2, annB, ⟨#[]⟩⟩ : S35) := by
      have := bookIn_put L0 (⟨key, 2, annB, ⟨#[]⟩⟩ : S35) key HA0.out
      rw [if_pos rfl] at this
      exact this
    obtain ⟨W5, hW5⟩ : ∃ W5, W5 = (w4.alloc (.cells #[.int .u64 key, .int .i64 2, .string ⟨#[97, 110, 110]⟩, .string ⟨#[]⟩] 35 (0, 0))) := ⟨_, rfl⟩
    obtain ⟨gd, hgd⟩ : ∃ gd, gd = w4.heap.size := ⟨_, rfl⟩
    obtain ⟨d1, hd1⟩ : ∃ d1, d1 = (⟨key, 2, annB, ⟨#[]⟩⟩ : S35) := ⟨_, rfl⟩
    have HDD := Aside0.mk hd1
    have hkd : keyS c = d1.f0 := by rw [hd1]; exact HKE.out.symm
    rw [← hW5] at HB5 HX5 HD5 HBK7 HB7
    rw [← hgd] at HD5
    rw [← hd1] at HA1 hl1 hi1 HBK7
    rw [← hgd]
    clear hW5 hgd HB6 HBK6 HD6 HADD HX4 HB4 HX3 HB3 HX2 HB2 HX1 HB1 hd1
    generalize bookPut L0 d1 = L1 at *
    go_loopg [12] l1.length (fun gk v12 w' => ∃ (k : Nat) (L : List S35), v12 = .int .i64 k ∧ k + gk = l1.length ∧ Aside0 (Asc L) ∧ Aside0 (L.length ≤ 256) ∧ Aside0 (bookIn L key = some d1) ∧ Aside0 (BookAt w' (fun k => W5.heap.size ≤ k) W5.heap.size b L) ∧ Aside0 (Below W5.heap.size W5 w'))
    case atStart => exact ⟨0, L1, rfl, by omega, HA1, ⟨hl1⟩, ⟨hi1⟩, HBK7, HB7⟩
    case round =>
      obtain ⟨k, L, rfl, hk, HA, HLL, HIN, HBK, HB⟩ := hrel
      obtain ⟨go, rfl⟩ : ∃ go, go = gk := ⟨gk, rfl⟩
      have HK := Aside0.mk hk
      cases go with
      | succ g =>
        have hkl : k < l1.length := by omega
        have g1 : decide ((k : Int) < (l1.length : Int)) = true := decide_eq_true (by omega)
        have g2 : decide (k < l1.length) = true := decide_eq_true (by omega)
        have p12 : 0 ≤ (k : Int) := by omega
        have q12 : (k : Int) < (l1.length : Int) := by omega
        obtain ⟨ad, e, hx0, hx1, hx2, hx3⟩ := at_T35 (Kd.C_below (Kd.C_below HC1.out HB5.out) HB.out) (k : Int) p12 q12
        cases e
        have hrd : rd_T35 l1 (k : Int) = l1[k] := by simp [rd_T35, List.getD_eq_getElem?_getD, List.getElem?_eq_getElem hkl]
        rw [Int.toNat_natCast, hrd] at hx0 hx1 hx2 hx3
        obtain ⟨x, hxe⟩ : ∃ x, x = l1[k] := ⟨_, rfl⟩
        rw [← hxe] at hx0 hx1 hx2 hx3
        have hwk : IntKind.i64.wrap ((k : Int) + 1) = (k : Int) + 1 := (i64_w _).trans (by unfold wrap64; omega)
        clear hxe hrd hk hl1 hi1 hkd
        by_cases hxk : x.f0 = key
        · have k2 : (x.f0 != key) = false := by rw [hxk]; exact bne_self_eq_false key
          have k3 : (x.f0 == key) = true := beq_iff_eq.2 hxk
          clear hxk
          go_wp2
          go_roundg g
          case measure => omega
          case rel => exact ⟨k + 1, L, by go_num, by have := HK.out; omega, HA, HLL, HIN, HBK, HB⟩
        · have k2 : (x.f0 != key) = true := bne_iff_ne.2 hxk
          have k3 : (x.f0 == key) = false := beq_eq_false_iff_ne.2 hxk
          have HXK := Aside0.mk hxk
          have HAX := Aside0.mk (add_calls wr _ _ b L HBK.out HA.out x (fun q hq => Nat.le_trans HB.out.size hq) (by have := HLL.out; omega))
          have HLX := Aside0.mk (bookAdd_len L x HA.out)
          clear hxk
          go_wp2_with (first | (go_at_call 17; go_loud ((with_reducible refine HAX.out.mono ?_); rintro e w8 ⟨rfl, hbk8, hk8⟩; have HBK8 := Aside0.mk hbk8; have HB8 := Aside0.mk (HB.out.trans (hk8.belowOf (fun k h => h) HB.out.size)); clear hbk8 hk8)))
          go_roundg g
          case measure => omega
          case rel => exact ⟨k + 1, (bookAdd L x).1, by go_num, by have := HK.out; omega, ⟨bookAdd_asc L x HA.out⟩, ⟨by have := HLX.out; have := HLL.out; omega⟩, ⟨by rw [bookAdd_other L x key HA.out HXK.out]; exact HIN.out⟩, HBK8, HB8⟩
      | zero =>
        have g1 : decide ((k : Int) < (l1.length : Int)) = false := decide_eq_false (by omega)
        have g2 : decide (k < l1.length) = false := decide_eq_false (by omega)
        have HX8 := Aside0.mk (blk_below HX5.out HB.out)
        have hx0 := (blk_cell HX8.out 0).trans rfl
        have hx1 := (blk_cell HX8.out 1).trans rfl
        have hx2 := (blk_cell HX8.out 2).trans rfl
        have hx3 := (blk_cell HX8.out 3).trans rfl
        have hx4 := (blk_cell HX8.out 4).trans rfl
        have hz : (wr.alloc (.cells #[.int .i64 0, .int .i64 0, .string ⟨#[]⟩, .string ⟨#[]⟩, .string ⟨#[]⟩] 56 (0, 0))).heap[wr.heap.size]? = some (.cells #[.int .i64 0, .int .i64 0, .string ⟨#[]⟩, .string ⟨#[]⟩, .string ⟨#[]⟩] 56 (0, 0)) := blk_new wr _
        have hz0 := (blk_cell hz 0).trans rfl
        have hz1 := (blk_cell hz 1).trans rfl
        have hz2 := (blk_cell hz 2).trans rfl
        have hz3 := (blk_cell hz 3).trans rfl
        have hz4 := (blk_cell hz 4).trans rfl
        have hf0 := blk_frozen hz 0
        have hf1 := blk_frozen hz 1
        have hf2 := blk_frozen hz 2
        have hf3 := blk_frozen hz 3
        have hf4 := blk_frozen hz 4
        have hwq : IntKind.i64.wrap (c.f1.tdiv 2) = c.f1.tdiv 2 := (i64_w _).trans (by have := tdiv2 c.f1 hcb; unfold wrap64; omega)
        have HB9 := Aside0.mk (HB.out.trans ((below_alloc (Below.refl _ _) (.cells #[.int .i64 c.f0, .int .i64 (c.f1.tdiv 2), .string c.f2, .string c.f3, .string c.f4] 56 (0, 0))).mono HB.out.size))
        have HBK9 := Aside0.mk (HBK.out.below (below_alloc (Below.refl _ _) (.cells #[.int .i64 c.f0, .int .i64 (c.f1.tdiv 2), .string c.f2, .string c.f3, .string c.f4] 56 (0, 0))))
        have HO9 : Aside0 ((wr.alloc (.cells #[.int .i64 c.f0, .int .i64 (c.f1.tdiv 2), .string c.f2, .string c.f3, .string c.f4] 56 (0, 0))).heap[wr.heap.size]? = some (.cells #[.int .i64 c.f0, .int .i64 (c.f1.tdiv 2), .string c.f2, .string c.f3, .string c.f4] 56 (0, 0))) := ⟨blk_new wr _⟩
        have HFI : Aside0 (∀ (W : World) (ok : Nat → Prop) (base b : Nat), BookAt W ok base b L → Calls Tryd.prog 19 #[.pointer (some ⟨b, 0, none⟩), .int .u64 key] W fun e w' => e = .returned (.tuple #[.agg #[.int .u64 key, .int .i64 2, .string ⟨#[97, 110, 110]⟩, .string ⟨#[]⟩], .bool true]) ∧ Below W.heap.size W w') := ⟨fun W ok base b hB => by
          have h := decide_Book_Find.calls W ok base b L hB key
          rw [HIN.out, Option.getD_some, Option.isSome_some, HDD.out] at h
          exact h⟩
        have HPI : Aside0 (∀ (W : World) (ok : Nat → Prop) (base b g : Nat), BookAt W ok base b L → Glob W → Kd.C k56 W (some ⟨g, 0, none⟩) 1 [c] → Calls Tryd.prog 27 #[.pointer (some ⟨b, 0, none⟩), .slice (some ⟨g, 0, none⟩) 1 1] W fun e w' => ∃ v0 v1, e = .returned (.tuple #[v0, v1]) ∧ k62.R 62 w' W.heap.size (fun _ => True) v0 [⟨key, 2⟩] ∧ k56.R 56 w' W.heap.size (fun _ => True) v1 ([] : List S56) ∧ Below W.heap.size W w') := ⟨fun W ok base b g hB hg hC => by
          have h := decide_Book_Picks.calls W hg ok base b L hB (some ⟨g, 0, none⟩) 1 [c] hC (by simp) (fun y hy => by rw [List.mem_singleton.1 hy]; exact hfc)
          rw [picks_one (d := d1) (by rw [← HKE.out]; exact HIN.out), ← HKE.out, HDD.out] at h
          exact h⟩
        have HPJ : Aside0 (∀ (W : World) (ok : Nat → Prop) (base b g : Nat), BookAt W ok base b L → Glob W → Kd.C k56 W (some ⟨g, 0, none⟩) 2 [(⟨c.f0, c.f1.tdiv 2, c.f2, c.f3, c.f4⟩ : S56), c] → Calls Tryd.prog 27 #[.pointer (some ⟨b, 0, none⟩), .slice (some ⟨g, 0, none⟩) 2 2] W fun e w' => ∃ v0 v1, e = .returned (.tuple #[v0, v1]) ∧ k62.R 62 w' W.heap.size (fun _ => True) v0 [⟨key, 2⟩] ∧ k56.R 56 w' W.heap.size (fun _ => True) v1 ([] : List S56) ∧ Below W.heap.size W w') := ⟨fun W ok base b g hB hg hC => by
          have h := decide_Book_Picks.calls W hg ok base b L hB (some ⟨g, 0, none⟩) 2 [(⟨c.f0, c.f1.tdiv 2, c.f2, c.f3, c.f4⟩ : S56), c] hC (by simp) (fun y hy => by
            rcases List.mem_cons.1 hy with e | hy
            · rw [e]
              exact hfc
            · rw [List.mem_singleton.1 hy]
              exact hfc)
          rw [picks_two (a := (⟨c.f0, c.f1.tdiv 2, c.f2, c.f3, c.f4⟩ : S56)) (c := c) (d := d1) rfl (by rw [← HKE.out]; exact HIN.out), ← HKE.out, HDD.out] at h
          exact h⟩
        obtain ⟨ko, hko⟩ := (conflict_key_ev (⟨c.f0, c.f1.tdiv 2, c.f2, c.f3, c.f4⟩ : S56) hfc).rounds
        have HKO := Aside0.mk (show conflict_Key.f ko c.f0 (c.f1.tdiv 2) c.f2 c.f3 c.f4 = some key by rw [HKE.out]; exact hko)
        clear hk hz hl1 hi1 hkd hko
        go_wp2_with (first | (go_at_call 19; go_loud (clear hz0 hz1 hz2 hz3 hz4 hf0 hf1 hf2 hf3 hf4 hx0 hx1 hx2 hx3 hx4; (with_reducible refine (HFI.out _ _ _ b HBK9.out).mono ?_); rintro e w10 ⟨rfl, hb10⟩; have HB10 := Aside0.mk (HB9.out.trans (hb10.mono HB9.out.size)); have HBK11 := Aside0.mk (HBK9.out.below (below_alloc hb10 (.cells #[.int .u64 key, .int .i64 2, .string ⟨#[97, 110, 110]⟩, .string ⟨#[]⟩] 35 (0, 0)))); have HB11 := Aside0.mk (HB10.out.trans ((below_alloc (Below.refl _ _) (.cells #[.int .u64 key, .int .i64 2, .string ⟨#[97, 110, 110]⟩, .string ⟨#[]⟩] 35 (0, 0))).mono HB10.out.size)); have HO11 := Aside0.mk (blk_alloc (blk_below HO9.out hb10) (.cells #[.int .u64 key, .int .i64 2, .string ⟨#[97, 110, 110]⟩, .string ⟨#[]⟩] 35 (0, 0))); have HX11 := Aside0.mk (blk_below HX5.out HB11.out); have hx0 := (blk_cell HX11.out 0).trans rfl; have hx1 := (blk_cell HX11.out 1).trans rfl; have hx2 := (blk_cell HX11.out 2).trans rfl; have hx3 := (blk_cell HX11.out 3).trans rfl; have hx4 := (blk_cell HX11.out 4).trans rfl; have HY11 : Aside0 ((w10.alloc (.cells #[.int .u64 key, .int .i64 2, .string ⟨#[97, 110, 110]⟩, .string ⟨#[]⟩] 35 (0, 0))).heap[w10.heap.size]? = some (.cells #[.int .u64 key, .int .i64 2, .string ⟨#[97, 110, 110]⟩, .string ⟨#[]⟩] 35 (0, 0))) := ⟨blk_new w10 _⟩; have hz : (w10.alloc (.cells #[.int .u64 0, .int .i64 0, .string ⟨#[]⟩, .string ⟨#[]⟩] 35 (0, 0))).heap[w10.heap.size]? = some (.cells #[.int .u64 0, .int .i64 0, .string ⟨#[]⟩, .string ⟨#[]⟩] 35 (0, 0)) := blk_new w10 _; have hz0 := (blk_cell hz 0).trans rfl; have hz1 := (blk_cell hz 1).trans rfl; have hz2 := (blk_cell hz 2).trans rfl; have hz3 := (blk_cell hz 3).trans rfl; have hf0 := blk_frozen hz 0; have hf1 := blk_frozen hz 1; have hf2 := blk_frozen hz 2; have hf3 := blk_frozen hz 3; have HB12 := Aside0.mk (HB11.out.trans ((below_alloc (Below.refl _ _) (.cells #[.int .i64 c.f0, .int .i64 c.f1, .string c.f2, .string c.f3, .string c.f4] 56 (0, 0))).mono HB11.out.size)); have HBK12 := Aside0.mk (HBK11.out.below (below_alloc (Below.refl _ _) (.cells #[.int .i64 c.f0, .int .i64 c.f1, .string c.f2, .string c.f3, .string c.f4] 56 (0, 0)))); have HO12 := Aside0.mk (blk_alloc HO11.out (.cells #[.int .i64 c.f0, .int .i64 c.f1, .string c.f2, .string c.f3, .string c.f4] 56 (0, 0))); have HY12 := Aside0.mk (blk_alloc HY11.out (.cells #[.int .i64 c.f0, .int .i64 c.f1, .string c.f2, .string c.f3, .string c.f4] 56 (0, 0))); have HS12 : Aside0 (Kd.C k56 ((w10.alloc (.cells #[.int .u64 key, .int .i64 2, .string ⟨#[97, 110, 110]⟩, .string ⟨#[]⟩] 35 (0, 0))).alloc (.cells #[.int .i64 c.f0, .int .i64 c.f1, .string c.f2, .string c.f3, .string c.f4] 56 (0, 0))) (some ⟨w10.heap.size + 1, 0, none⟩) 1 [c]) := ⟨by have h := C56_one (blk_new (w10.alloc (.cells #[.int .u64 key, .int .i64 2, .string ⟨#[97, 110, 110]⟩, .string ⟨#[]⟩] 35 (0, 0))) (.cells #[.int .i64 c.f0, .int .i64 c.f1, .string c.f2, .string c.f3, .string c.f4] 56 (0, 0))); rw [sz_alloc] at h; exact h⟩; clear hb10 hz)) | (go_at_call 27; go_loud (clear hz0 hz1 hz2 hz3 hf0 hf1 hf2 hf3 hx0 hx1 hx2 hx3 hx4; (with_reducible refine (HPI.out _ _ _ b _ HBK12.out (HG.out _ (below_step HB5.out HB12.out)) HS12.out).mono ?_); rintro e w13 ⟨v0, v1, rfl, hp, ho, hb13⟩; obtain ⟨gp, cp, rfl, _, _, _⟩ := Kd.R_form hp (by simp); obtain ⟨Aq, cq, rfl⟩ := Kd.R_slice ho; have HP13 := Aside0.mk (Kd.R_reads' hp).2.2; have HB13 := Aside0.mk (HB12.out.trans (hb13.mono HB12.out.size)); have HO13 := Aside0.mk (blk_below HO12.out hb13); have ho0 := (blk_cell HO13.out 0).trans rfl; have ho1 := (blk_cell HO13.out 1).trans rfl; have ho2 := (blk_cell HO13.out 2).trans rfl; have ho3 := (blk_cell HO13.out 3).trans rfl; have ho4 := (blk_cell HO13.out 4).trans rfl; have HX13 := Aside0.mk (blk_below HX5.out HB13.out); have hx0 := (blk_cell HX13.out 0).trans rfl; have hx1 := (blk_cell HX13.out 1).trans rfl; have hx2 := (blk_cell HX13.out 2).trans rfl; have hx3 := (blk_cell HX13.out 3).trans rfl; have hx4 := (blk_cell HX13.out 4).trans rfl; have HY13 := Aside0.mk (blk_below HY12.out hb13); have HB14 := Aside0.mk (HB13.out.trans ((below_alloc (Below.refl _ _) (.cells #[.int .i64 c.f0, .int .i64 (c.f1.tdiv 2), .string c.f2, .string c.f3, .string c.f4, .int .i64 c.f0, .int .i64 c.f1, .string c.f2, .string c.f3, .string c.f4] 56 (0, 0))).mono HB13.out.size)); have HBK14 := Aside0.mk ((HBK12.out.below hb13).below (below_alloc (Below.refl _ _) (.cells #[.int .i64 c.f0, .int .i64 (c.f1.tdiv 2), .string c.f2, .string c.f3, .string c.f4, .int .i64 c.f0, .int .i64 c.f1, .string c.f2, .string c.f3, .string c.f4] 56 (0, 0)))); have HS14 := Aside0.mk (C56_two (a := ⟨c.f0, c.f1.tdiv 2, c.f2, c.f3, c.f4⟩) (c := c) (blk_new w13 (.cells #[.int .i64 c.f0, .int .i64 (c.f1.tdiv 2), .string c.f2, .string c.f3, .string c.f4, .int .i64 c.f0, .int .i64 c.f1, .string c.f2, .string c.f3, .string c.f4] 56 (0, 0)))); clear hb13 hp ho)) | (go_at_call 27; go_loud (clear ho0 ho1 ho2 ho3 ho4 hx0 hx1 hx2 hx3 hx4; (with_reducible refine (HPJ.out _ _ _ b _ HBK14.out (HG.out _ (below_step HB5.out HB14.out)) HS14.out).mono ?_); rintro e w15 ⟨v0, v1, rfl, hp, ho, hb15⟩; obtain ⟨Ar, cr, rfl⟩ := Kd.R_slice hp; obtain ⟨As, cs, rfl⟩ := Kd.R_slice ho; have HB15 := Aside0.mk (HB14.out.trans (hb15.mono HB14.out.size)); have hba := below_step (below_alloc (Below.refl _ _) (.cells #[.int .i64 c.f0, .int .i64 (c.f1.tdiv 2), .string c.f2, .string c.f3, .string c.f4, .int .i64 c.f0, .int .i64 c.f1, .string c.f2, .string c.f3, .string c.f4] 56 (0, 0))) hb15; have HBK15 := Aside0.mk (HBK14.out.below hb15); have HW15 := Aside0.mk (below_step HB5.out HB15.out); have HO15 := Aside0.mk (blk_below HO13.out hba); have ho0 := (blk_cell HO15.out 0).trans rfl; have ho1 := (blk_cell HO15.out 1).trans rfl; have ho2 := (blk_cell HO15.out 2).trans rfl; have ho3 := (blk_cell HO15.out 3).trans rfl; have ho4 := (blk_cell HO15.out 4).trans rfl; have HX15 := Aside0.mk (blk_below HX5.out HB15.out); have HD15 := Aside0.mk (blk_below HD5.out HB15.out); have hd0 := (blk_cell HD15.out 0).trans rfl; have hd1 := (blk_cell HD15.out 1).trans rfl; have hd2 := (blk_cell HD15.out 2).trans rfl; have hd3 := (blk_cell HD15.out 3).trans rfl; have HY15 := Aside0.mk (blk_below HY13.out hba); have hy0 := (blk_cell HY15.out 0).trans rfl; have hy1 := (blk_cell HY15.out 1).trans rfl; have hy2 := (blk_cell HY15.out 2).trans rfl; have hy3 := (blk_cell HY15.out 3).trans rfl; obtain ⟨ap, ep, hpa, hpb⟩ := at_T62 (Kd.C_below HP13.out hba) 0 (by decide) (by simp); cases ep; have hp0 : w15.cell? ⟨gp, 0, none⟩ = some (.int .u64 key) := hpa; have hp1 : w15.cell? ⟨gp, 1, none⟩ = some (.int .i64 2) := hpb; clear hpa hpb; clear hb15 hba ho)))
        have HFC := Aside0.mk hfc
        clear hc0 hc1 hr0 hr1 hv1 hlen hlen1 hL0 hfc hwq
        go_region_held3 (fun w' => w'.cell? ⟨w10.heap.size, 0, none⟩ = some (.int .u64 key) ∧ w'.cell? ⟨w10.heap.size, 1, none⟩ = some (.int .i64 2) ∧ w'.cell? ⟨w10.heap.size, 2, none⟩ = some (.string ⟨#[97, 110, 110]⟩) ∧ w'.cell? ⟨w10.heap.size, 3, none⟩ = some (.string ⟨#[]⟩) ∧ w'.cell? ⟨gd, 0, none⟩ = some (.int .u64 key) ∧ w'.cell? ⟨gd, 1, none⟩ = some (.int .i64 2) ∧ w'.cell? ⟨gd, 2, none⟩ = some (.string ⟨#[97, 110, 110]⟩) ∧ w'.cell? ⟨gd, 3, none⟩ = some (.string ⟨#[]⟩) ∧ w'.cell? ⟨gp, 0, none⟩ = some (.int .u64 key) ∧ w'.cell? ⟨gp, 1, none⟩ = some (.int .i64 2) ∧ w'.cell? ⟨wr.heap.size, 0, none⟩ = some (.int .i64 c.f0) ∧ w'.cell? ⟨wr.heap.size, 1, none⟩ = some (.int .i64 (c.f1.tdiv 2)) ∧ w'.cell? ⟨wr.heap.size, 2, none⟩ = some (.string c.f2) ∧ w'.cell? ⟨wr.heap.size, 3, none⟩ = some (.string c.f3) ∧ w'.cell? ⟨wr.heap.size, 4, none⟩ = some (.string c.f4)) (first | go_keep | exact ⟨pw_cell_below HQ16.out hy0, pw_cell_below HQ16.out hy1, pw_cell_below HQ16.out hy2, pw_cell_below HQ16.out hy3, pw_cell_below HQ16.out hd0, pw_cell_below HQ16.out hd1, pw_cell_below HQ16.out hd2, pw_cell_below HQ16.out hd3, pw_cell_below HQ16.out hp0, pw_cell_below HQ16.out hp1, pw_cell_below HQ16.out ho0, pw_cell_below HQ16.out ho1, pw_cell_below HQ16.out ho2, pw_cell_below HQ16.out ho3, pw_cell_below HQ16.out ho4⟩) (first | (go_at_call 26; go_loud ((with_reducible refine (conflict_Key.calls ko _ _ _ _ _ _ _ (HG.out _ (by repeat (first | (with_reducible first | exact HW15.out | apply pw_below_drewN | apply below_drew1) | exact HW15.out))) HKO.out).mono ?_); rintro e w16 ⟨rfl, hb16⟩; have HQ16 := Aside0.mk hb16; clear hb16)))
        have hb16 := below_step (pw_below_drewN (Below.refl w15.heap.size w15) 1) HQ16.out
        have HB16 := Aside0.mk (HB15.out.trans (hb16.mono HB15.out.size))
        have HBK16 := Aside0.mk (HBK15.out.below hb16)
        have HFN : Aside0 (∀ (W : World) (ok : Nat → Prop) (base b : Nat), BookAt W ok base b (bookDel L key) → Calls Tryd.prog 19 #[.pointer (some ⟨b, 0, none⟩), .int .u64 key] W fun e w' => e = .returned (.tuple #[.agg #[.int .u64 0, .int .i64 0, .string ⟨#[]⟩, .string ⟨#[]⟩], .bool false]) ∧ Below W.heap.size W w') := ⟨fun W ok base b hB => by
          have h := decide_Book_Find.calls W ok base b _ hB key
          rw [bookIn_del, if_pos rfl, Option.getD_none, Option.isSome_none] at h
          exact h⟩
        have HPO : Aside0 (∀ (W : World) (ok : Nat → Prop) (base b g : Nat), BookAt W ok base b (bookDel L key) → Glob W → Kd.C k56 W (some ⟨g, 0, none⟩) 1 [c] → Calls Tryd.prog 27 #[.pointer (some ⟨b, 0, none⟩), .slice (some ⟨g, 0, none⟩) 1 1] W fun e w' => ∃ v0 v1, e = .returned (.tuple #[v0, v1]) ∧ k62.R 62 w' W.heap.size (fun _ => True) v0 ([] : List S62) ∧ k56.R 56 w' W.heap.size (fun _ => True) v1 [c] ∧ Below W.heap.size W w') := ⟨fun W ok base b g hB hg hC => by
          have h := decide_Book_Picks.calls W hg ok base b _ hB (some ⟨g, 0, none⟩) 1 [c] hC (by simp) (fun y hy => by rw [List.mem_singleton.1 hy]; exact HFC.out)
          rw [picks_off (by rw [← HKE.out, bookIn_del, if_pos rfl])] at h
          exact h⟩
        clear hb16 hy0 hy1 hy2 hy3 hd0 hd1 hd2 hd3 hp0 hp1 ho0 ho1 ho2 ho3 ho4
        go_wp2_with (first | (go_at_call 28; go_loud ((with_reducible refine (remD w16 _ _ b L HBK16.out HA.out key d1 (by have := HLL.out; omega) HIN.out).mono ?_); rintro e w17 ⟨rfl, hbk17, hk17⟩; have HBK17 := Aside0.mk hbk17; have HB17 := Aside0.mk (HB16.out.trans (hk17.belowOf (fun k h => h) HB16.out.size)); clear hbk17 hk17)) | (go_at_call 19; go_loud ((with_reducible refine (HFN.out _ _ _ b HBK17.out).mono ?_); rintro e w18 ⟨rfl, hb18⟩; have hz : (w18.alloc (.cells #[.int .u64 0, .int .i64 0, .string ⟨#[]⟩, .string ⟨#[]⟩] 35 (0, 0))).heap[w18.heap.size]? = some (.cells #[.int .u64 0, .int .i64 0, .string ⟨#[]⟩, .string ⟨#[]⟩] 35 (0, 0)) := blk_new w18 _; have hz0 := (blk_cell hz 0).trans rfl; have hz1 := (blk_cell hz 1).trans rfl; have hz2 := (blk_cell hz 2).trans rfl; have hz3 := (blk_cell hz 3).trans rfl; have hf0 := blk_frozen hz 0; have hf1 := blk_frozen hz 1; have hf2 := blk_frozen hz 2; have hf3 := blk_frozen hz 3; have HB18 := Aside0.mk (HB17.out.trans ((below_alloc hb18 (.cells #[.int .u64 0, .int .i64 0, .string ⟨#[]⟩, .string ⟨#[]⟩] 35 (0, 0))).mono HB17.out.size)); have HX18 := Aside0.mk (blk_below HX5.out HB18.out); have hx0 := (blk_cell HX18.out 0).trans rfl; have hx1 := (blk_cell HX18.out 1).trans rfl; have hx2 := (blk_cell HX18.out 2).trans rfl; have hx3 := (blk_cell HX18.out 3).trans rfl; have hx4 := (blk_cell HX18.out 4).trans rfl; have HB19 := Aside0.mk (HB18.out.trans ((below_alloc (Below.refl _ _) (.cells #[.int .i64 c.f0, .int .i64 c.f1, .string c.f2, .string c.f3, .string c.f4] 56 (0, 0))).mono HB18.out.size)); have HBK19 := Aside0.mk ((HBK17.out.below (below_alloc hb18 (.cells #[.int .u64 0, .int .i64 0, .string ⟨#[]⟩, .string ⟨#[]⟩] 35 (0, 0)))).below (below_alloc (Below.refl _ _) (.cells #[.int .i64 c.f0, .int .i64 c.f1, .string c.f2, .string c.f3, .string c.f4] 56 (0, 0)))); have HS19 : Aside0 (Kd.C k56 ((w18.alloc (.cells #[.int .u64 0, .int .i64 0, .string ⟨#[]⟩, .string ⟨#[]⟩] 35 (0, 0))).alloc (.cells #[.int .i64 c.f0, .int .i64 c.f1, .string c.f2, .string c.f3, .string c.f4] 56 (0, 0))) (some ⟨w18.heap.size + 1, 0, none⟩) 1 [c]) := ⟨by have h := C56_one (blk_new (w18.alloc (.cells #[.int .u64 0, .int .i64 0, .string ⟨#[]⟩, .string ⟨#[]⟩] 35 (0, 0))) (.cells #[.int .i64 c.f0, .int .i64 c.f1, .string c.f2, .string c.f3, .string c.f4] 56 (0, 0))); rw [sz_alloc] at h; exact h⟩; clear hb18 hz)) | (go_at_call 27; go_loud (clear hz0 hz1 hz2 hz3 hf0 hf1 hf2 hf3 hx0 hx1 hx2 hx3 hx4; (with_reducible refine (HPO.out _ _ _ b _ HBK19.out (HG.out _ (below_step HB5.out HB19.out)) HS19.out).mono ?_); rintro e w20 ⟨v0, v1, rfl, hp, ho, hb20⟩; obtain ⟨Ar2, cr2, rfl⟩ := Kd.R_slice hp; obtain ⟨gq, cq2, rfl, _, _, _⟩ := Kd.R_form ho (by simp); have HB20 := Aside0.mk (HB19.out.trans (hb20.mono HB19.out.size)); have HW20 := Aside0.mk (below_step HB5.out HB20.out); have HX20 := Aside0.mk (blk_below HX5.out HB20.out); have hx0 := (blk_cell HX20.out 0).trans rfl; have hx1 := (blk_cell HX20.out 1).trans rfl; have hx2 := (blk_cell HX20.out 2).trans rfl; have hx3 := (blk_cell HX20.out 3).trans rfl; have hx4 := (blk_cell HX20.out 4).trans rfl; obtain ⟨ap, ep, ha0, ha1, ha2, ha3, ha4⟩ := at_T56 (Kd.R_reads' ho).2.2 0 (by decide) (by simp); cases ep; have hq0 : w20.cell? ⟨gq, 0, none⟩ = some (.int .i64 c.f0) := ha0; have hq1 : w20.cell? ⟨gq, 1, none⟩ = some (.int .i64 c.f1) := ha1; have hq2 : w20.cell? ⟨gq, 2, none⟩ = some (.string c.f2) := ha2; have hq3 : w20.cell? ⟨gq, 3, none⟩ = some (.string c.f3) := ha3; have hq4 : w20.cell? ⟨gq, 4, none⟩ = some (.string c.f4) := ha4; clear ha0 ha1 ha2 ha3 ha4 hb20 hp ho)))
        go_region_held3 (fun w' => w'.cell? ⟨gq, 0, none⟩ = some (.int .i64 c.f0) ∧ w'.cell? ⟨gq, 1, none⟩ = some (.int .i64 c.f1) ∧ w'.cell? ⟨gq, 2, none⟩ = some (.string c.f2) ∧ w'.cell? ⟨gq, 3, none⟩ = some (.string c.f3) ∧ w'.cell? ⟨gq, 4, none⟩ = some (.string c.f4) ∧ w'.cell? ⟨w.heap.size, 0, none⟩ = some (.int .i64 c.f0) ∧ w'.cell? ⟨w.heap.size, 1, none⟩ = some (.int .i64 c.f1) ∧ w'.cell? ⟨w.heap.size, 2, none⟩ = some (.string c.f2) ∧ w'.cell? ⟨w.heap.size, 3, none⟩ = some (.string c.f3) ∧ w'.cell? ⟨w.heap.size, 4, none⟩ = some (.string c.f4)) (first | go_keep | exact ⟨pw_cell_below HQ21.out hq0, pw_cell_below HQ21.out hq1, pw_cell_below HQ21.out hq2, pw_cell_below HQ21.out hq3, pw_cell_below HQ21.out hq4, pw_cell_below HQ21.out hx0, pw_cell_below HQ21.out hx1, pw_cell_below HQ21.out hx2, pw_cell_below HQ21.out hx3, pw_cell_below HQ21.out hx4⟩) (first | (go_at_call 10; go_loud ((with_reducible refine (awake_calls _ (HG.out _ (by repeat (first | (with_reducible first | exact HW20.out | apply pw_below_drewN | apply below_drew1) | exact HW20.out)))).mono ?_); rintro e w21 ⟨rfl, hk21⟩; have HQ21 := Aside0.mk hk21.asBelow; clear hk21)))
        have hb21 := below_step (pw_below_drewN (Below.refl w20.heap.size w20) 1) HQ21.out
        have HB21 := Aside0.mk (HB20.out.trans (hb21.mono HB20.out.size))
        go_wp2
        go_ret
        exact ⟨rfl, below_step HB5.out HB21.out⟩
  | true =>
    have HADD : Aside0 (∀ (W : World) (ok : Nat → Prop) (base b : Nat), BookAt W ok base b L0 → (∀ k, W.heap.size ≤ k → ok k) → Calls Tryd.prog 17 #[.pointer (some ⟨b, 0, none⟩), .agg #[.int .u64 key, .int .i64 1, .string ⟨#[97, 110, 110]⟩, .string ⟨#[]⟩]] W fun e w' => e = .returned (.int .i64 0) ∧ BookAt w' ok base b (bookPut L0 (⟨key, 1, annB, ⟨#[]⟩⟩ : S35)) ∧ KeptS W w' ok) := ⟨fun W ok base b hB hk => by
      have := add_calls W ok base b L0 hB HA0.out (⟨key, 1, annB, ⟨#[]⟩⟩ : S35) hk (by omega)
      rw [bookAdd_ok L0 (⟨key, 1, annB, ⟨#[]⟩⟩ : S35) (fault_ann 1 (by decide)) (by omega)] at this
      exact this⟩
    go_enter Tryd.func8, Tryd.ntmps8
    go_wp2_with (first | (go_at_call 20; go_loud ((with_reducible refine (treemergelaw36_valid.calls kv A0 c0 l0 true _ (Kd.C_below HC0.out HB0.out) hc0 HKV.out).mono ?_); rintro e w1 ⟨rfl, hb1⟩; have HB1 := Aside0.mk (below_step HB0.out hb1); have HX1 := Aside0.mk (blk_below HBX.out hb1); clear hb1)) | (go_at_call 20; go_loud ((with_reducible refine (treemergelaw36_valid.calls kw A1 c1 l1 true _ (Kd.C_below HC1.out HB1.out) hc1 HKW.out).mono ?_); rintro e w2 ⟨rfl, hb2⟩; have HB2 := Aside0.mk (below_alloc (below_step HB1.out hb2) (.cells #[.int .i64 c.f0, .int .i64 c.f1, .string c.f2, .string c.f3, .string c.f4] 56 (0, 0))); have HX2 := Aside0.mk (blk_below HX1.out hb2); have hx0 := (blk_cell HX2.out 0).trans rfl; have hx1 := (blk_cell HX2.out 1).trans rfl; have hx2 := (blk_cell HX2.out 2).trans rfl; have hx3 := (blk_cell HX2.out 3).trans rfl; have hx4 := (blk_cell HX2.out 4).trans rfl; have HCS := Aside0.mk (C56_one (blk_new w2 (.cells #[.int .i64 c.f0, .int .i64 c.f1, .string c.f2, .string c.f3, .string c.f4] 56 (0, 0)))); clear hb2)) | (go_at_call 24; go_loud ((with_reducible refine (HFW.out _ _ HCS.out).mono ?_); clear hx0 hx1 hx2 hx3 hx4; rintro e w3 ⟨rfl, hb3⟩; have HB3 := Aside0.mk (below_step HB2.out hb3.below); have HX3 := Aside0.mk (blk_below (blk_alloc HX2.out (.cells #[.int .i64 c.f0, .int .i64 c.f1, .string c.f2, .string c.f3, .string c.f4] 56 (0, 0))) hb3.below); have hx0 := (blk_cell HX3.out 0).trans rfl; have hx1 := (blk_cell HX3.out 1).trans rfl; have hx2 := (blk_cell HX3.out 2).trans rfl; have hx3 := (blk_cell HX3.out 3).trans rfl; have hx4 := (blk_cell HX3.out 4).trans rfl; clear hb3)) | (go_at_call 26; go_loud ((with_reducible refine (conflict_Key.calls kk _ _ _ _ _ _ _ (HG.out _ HB3.out) HKK.out).mono ?_); clear hx0 hx1 hx2 hx3 hx4; rintro e w4 ⟨rfl, hb4⟩; have HB4 := Aside0.mk (below_step HB3.out hb4); have HX4 := Aside0.mk (blk_below HX3.out hb4); have hz : (w4.alloc (.cells #[.int .u64 0, .int .i64 0, .string ⟨#[]⟩, .string ⟨#[]⟩] 35 (0, 0))).heap[w4.heap.size]? = some (.cells #[.int .u64 0, .int .i64 0, .string ⟨#[]⟩, .string ⟨#[]⟩] 35 (0, 0)) := blk_new w4 _; have hz0 := (blk_cell hz 0).trans rfl; have hz1 := (blk_cell hz 1).trans rfl; have hz2 := (blk_cell hz 2).trans rfl; have hz3 := (blk_cell hz 3).trans rfl; have hf0 := blk_frozen hz 0; have hf1 := blk_frozen hz 1; have hf2 := blk_frozen hz 2; have hf3 := blk_frozen hz 3; have HB5 := Aside0.mk (below_alloc HB4.out (.cells #[.int .u64 key, .int .i64 1, .string ⟨#[97, 110, 110]⟩, .string ⟨#[]⟩] 35 (0, 0))); have HX5 := Aside0.mk (blk_alloc HX4.out (.cells #[.int .u64 key, .int .i64 1, .string ⟨#[97, 110, 110]⟩, .string ⟨#[]⟩] 35 (0, 0))); have HD5 : Aside0 ((w4.alloc (.cells #[.int .u64 key, .int .i64 1, .string ⟨#[97, 110, 110]⟩, .string ⟨#[]⟩] 35 (0, 0))).heap[w4.heap.size]? = some (.cells #[.int .u64 key, .int .i64 1, .string ⟨#[97, 110, 110]⟩, .string ⟨#[]⟩] 35 (0, 0))) := ⟨blk_new w4 _⟩; have hq : (w4.alloc (.cells #[.int .u64 key, .int .i64 2, .string ⟨#[97, 110, 110]⟩, .string ⟨#[]⟩] 35 (0, 0))).heap[w4.heap.size]? = some (.cells #[.int .u64 key, .int .i64 2, .string ⟨#[97, 110, 110]⟩, .string ⟨#[]⟩] 35 (0, 0)) := blk_new w4 _; have hq0 := (blk_cell hq 0).trans rfl; have hq1 := (blk_cell hq 1).trans rfl; have hq2 := (blk_cell hq 2).trans rfl; have hq3 := (blk_cell hq 3).trans rfl; have hg0 := blk_frozen hq 0; have hg1 := blk_frozen hq 1; have hg2 := blk_frozen hq 2; have hg3 := blk_frozen hq 3; clear hq; clear hb4 hz)) | (go_at_call 21; go_loud ((with_reducible refine (HAD.out _ (Kd.C_below HC0.out HB5.out)).mono ?_); rintro e w6 ⟨b, rfl, hbk6, hk6⟩; clear hz0 hz1 hz2 hz3 hf0 hf1 hf2 hf3 hq0 hq1 hq2 hq3 hg0 hg1 hg2 hg3; have HBK6 := Aside0.mk (hbk6.mono (ok' := fun k => (w4.alloc (.cells #[.int .u64 key, .int .i64 1, .string ⟨#[97, 110, 110]⟩, .string ⟨#[]⟩] 35 (0, 0))).heap.size ≤ k) (fun k h => h.1)); have HB6 := Aside0.mk hk6.asBelow; have HD6 := Aside0.mk (blk_below HD5.out hk6.asBelow); have hd0 := (blk_cell HD6.out 0).trans rfl; have hd1 := (blk_cell HD6.out 1).trans rfl; have hd2 := (blk_cell HD6.out 2).trans rfl; have hd3 := (blk_cell HD6.out 3).trans rfl; clear hbk6 hk6)) | (go_at_call 17; go_loud ((with_reducible refine (HADD.out _ _ _ b HBK6.out (fun q hq => Nat.le_trans HB6.out.size hq)).mono ?_); rintro e w7 ⟨rfl, hbk7, hk7⟩; clear hd0 hd1 hd2 hd3; have HBK7 := Aside0.mk hbk7; have HB7 := Aside0.mk (HB6.out.trans (hk7.belowOf (fun k h => h) HB6.out.size)); clear hbk7 hk7)))
    have HA1 := Aside0.mk (bookPut_asc L0 (⟨key, 1, annB, ⟨#[]⟩⟩ : S35) HA0.out)
    have hl1 : (bookPut L0 (⟨key, 1, annB, ⟨#[]⟩⟩ : S35)).length ≤ 256 := by
      have := bookAdd_len L0 (⟨key, 1, annB, ⟨#[]⟩⟩ : S35) HA0.out
      rw [bookAdd_ok L0 (⟨key, 1, annB, ⟨#[]⟩⟩ : S35) (fault_ann 1 (by decide)) (by omega)] at this
      have e : max L0.length 256 = 256 := by omega
      rw [e] at this
      exact this
    have hi1 : bookIn (bookPut L0 (⟨key, 1, annB, ⟨#[]⟩⟩ : S35)) key = some (⟨key, 1, annB, ⟨#[]⟩⟩ : S35) := by
      have := bookIn_put L0 (⟨key, 1, annB, ⟨#[]⟩⟩ : S35) key HA0.out
      rw [if_pos rfl] at this
      exact this
    obtain ⟨W5, hW5⟩ : ∃ W5, W5 = (w4.alloc (.cells #[.int .u64 key, .int .i64 1, .string ⟨#[97, 110, 110]⟩, .string ⟨#[]⟩] 35 (0, 0))) := ⟨_, rfl⟩
    obtain ⟨gd, hgd⟩ : ∃ gd, gd = w4.heap.size := ⟨_, rfl⟩
    obtain ⟨d1, hd1⟩ : ∃ d1, d1 = (⟨key, 1, annB, ⟨#[]⟩⟩ : S35) := ⟨_, rfl⟩
    have HDD := Aside0.mk hd1
    have hkd : keyS c = d1.f0 := by rw [hd1]; exact HKE.out.symm
    rw [← hW5] at HB5 HX5 HD5 HBK7 HB7
    rw [← hgd] at HD5
    rw [← hd1] at HA1 hl1 hi1 HBK7
    rw [← hgd]
    clear hW5 hgd HB6 HBK6 HD6 HADD HX4 HB4 HX3 HB3 HX2 HB2 HX1 HB1 hd1
    generalize bookPut L0 d1 = L1 at *
    go_loopg [12] l1.length (fun gk v12 w' => ∃ (k : Nat) (L : List S35), v12 = .int .i64 k ∧ k + gk = l1.length ∧ Aside0 (Asc L) ∧ Aside0 (L.length ≤ 256) ∧ Aside0 (bookIn L key = some d1) ∧ Aside0 (BookAt w' (fun k => W5.heap.size ≤ k) W5.heap.size b L) ∧ Aside0 (Below W5.heap.size W5 w'))
    case atStart => exact ⟨0, L1, rfl, by omega, HA1, ⟨hl1⟩, ⟨hi1⟩, HBK7, HB7⟩
    case round =>
      obtain ⟨k, L, rfl, hk, HA, HLL, HIN, HBK, HB⟩ := hrel
      obtain ⟨go, rfl⟩ : ∃ go, go = gk := ⟨gk, rfl⟩
      have HK := Aside0.mk hk
      cases go with
      | succ g =>
        have hkl : k < l1.length := by omega
        have g1 : decide ((k : Int) < (l1.length : Int)) = true := decide_eq_true (by omega)
        have g2 : decide (k < l1.length) = true := decide_eq_true (by omega)
        have p12 : 0 ≤ (k : Int) := by omega
        have q12 : (k : Int) < (l1.length : Int) := by omega
        obtain ⟨ad, e, hx0, hx1, hx2, hx3⟩ := at_T35 (Kd.C_below (Kd.C_below HC1.out HB5.out) HB.out) (k : Int) p12 q12
        cases e
        have hrd : rd_T35 l1 (k : Int) = l1[k] := by simp [rd_T35, List.getD_eq_getElem?_getD, List.getElem?_eq_getElem hkl]
        rw [Int.toNat_natCast, hrd] at hx0 hx1 hx2 hx3
        obtain ⟨x, hxe⟩ : ∃ x, x = l1[k] := ⟨_, rfl⟩
        rw [← hxe] at hx0 hx1 hx2 hx3
        have hwk : IntKind.i64.wrap ((k : Int) + 1) = (k : Int) + 1 := (i64_w _).trans (by unfold wrap64; omega)
        clear hxe hrd hk hl1 hi1 hkd
        by_cases hxk : x.f0 = key
        · have k2 : (x.f0 != key) = false := by rw [hxk]; exact bne_self_eq_false key
          have k3 : (x.f0 == key) = true := beq_iff_eq.2 hxk
          clear hxk
          go_wp2
          go_roundg g
          case measure => omega
          case rel => exact ⟨k + 1, L, by go_num, by have := HK.out; omega, HA, HLL, HIN, HBK, HB⟩
        · have k2 : (x.f0 != key) = true := bne_iff_ne.2 hxk
          have k3 : (x.f0 == key) = false := beq_eq_false_iff_ne.2 hxk
          have HXK := Aside0.mk hxk
          have HAX := Aside0.mk (add_calls wr _ _ b L HBK.out HA.out x (fun q hq => Nat.le_trans HB.out.size hq) (by have := HLL.out; omega))
          have HLX := Aside0.mk (bookAdd_len L x HA.out)
          clear hxk
          go_wp2_with (first | (go_at_call 17; go_loud ((with_reducible refine HAX.out.mono ?_); rintro e w8 ⟨rfl, hbk8, hk8⟩; have HBK8 := Aside0.mk hbk8; have HB8 := Aside0.mk (HB.out.trans (hk8.belowOf (fun k h => h) HB.out.size)); clear hbk8 hk8)))
          go_roundg g
          case measure => omega
          case rel => exact ⟨k + 1, (bookAdd L x).1, by go_num, by have := HK.out; omega, ⟨bookAdd_asc L x HA.out⟩, ⟨by have := HLX.out; have := HLL.out; omega⟩, ⟨by rw [bookAdd_other L x key HA.out HXK.out]; exact HIN.out⟩, HBK8, HB8⟩
      | zero =>
        have g1 : decide ((k : Int) < (l1.length : Int)) = false := decide_eq_false (by omega)
        have g2 : decide (k < l1.length) = false := decide_eq_false (by omega)
        have HX8 := Aside0.mk (blk_below HX5.out HB.out)
        have hx0 := (blk_cell HX8.out 0).trans rfl
        have hx1 := (blk_cell HX8.out 1).trans rfl
        have hx2 := (blk_cell HX8.out 2).trans rfl
        have hx3 := (blk_cell HX8.out 3).trans rfl
        have hx4 := (blk_cell HX8.out 4).trans rfl
        have hz : (wr.alloc (.cells #[.int .i64 0, .int .i64 0, .string ⟨#[]⟩, .string ⟨#[]⟩, .string ⟨#[]⟩] 56 (0, 0))).heap[wr.heap.size]? = some (.cells #[.int .i64 0, .int .i64 0, .string ⟨#[]⟩, .string ⟨#[]⟩, .string ⟨#[]⟩] 56 (0, 0)) := blk_new wr _
        have hz0 := (blk_cell hz 0).trans rfl
        have hz1 := (blk_cell hz 1).trans rfl
        have hz2 := (blk_cell hz 2).trans rfl
        have hz3 := (blk_cell hz 3).trans rfl
        have hz4 := (blk_cell hz 4).trans rfl
        have hf0 := blk_frozen hz 0
        have hf1 := blk_frozen hz 1
        have hf2 := blk_frozen hz 2
        have hf3 := blk_frozen hz 3
        have hf4 := blk_frozen hz 4
        have hwq : IntKind.i64.wrap (c.f1.tdiv 2) = c.f1.tdiv 2 := (i64_w _).trans (by have := tdiv2 c.f1 hcb; unfold wrap64; omega)
        have HB9 := Aside0.mk (HB.out.trans ((below_alloc (Below.refl _ _) (.cells #[.int .i64 c.f0, .int .i64 (c.f1.tdiv 2), .string c.f2, .string c.f3, .string c.f4] 56 (0, 0))).mono HB.out.size))
        have HBK9 := Aside0.mk (HBK.out.below (below_alloc (Below.refl _ _) (.cells #[.int .i64 c.f0, .int .i64 (c.f1.tdiv 2), .string c.f2, .string c.f3, .string c.f4] 56 (0, 0))))
        have HO9 : Aside0 ((wr.alloc (.cells #[.int .i64 c.f0, .int .i64 (c.f1.tdiv 2), .string c.f2, .string c.f3, .string c.f4] 56 (0, 0))).heap[wr.heap.size]? = some (.cells #[.int .i64 c.f0, .int .i64 (c.f1.tdiv 2), .string c.f2, .string c.f3, .string c.f4] 56 (0, 0))) := ⟨blk_new wr _⟩
        have HFI : Aside0 (∀ (W : World) (ok : Nat → Prop) (base b : Nat), BookAt W ok base b L → Calls Tryd.prog 19 #[.pointer (some ⟨b, 0, none⟩), .int .u64 key] W fun e w' => e = .returned (.tuple #[.agg #[.int .u64 key, .int .i64 1, .string ⟨#[97, 110, 110]⟩, .string ⟨#[]⟩], .bool true]) ∧ Below W.heap.size W w') := ⟨fun W ok base b hB => by
          have h := decide_Book_Find.calls W ok base b L hB key
          rw [HIN.out, Option.getD_some, Option.isSome_some, HDD.out] at h
          exact h⟩
        have HPI : Aside0 (∀ (W : World) (ok : Nat → Prop) (base b g : Nat), BookAt W ok base b L → Glob W → Kd.C k56 W (some ⟨g, 0, none⟩) 1 [c] → Calls Tryd.prog 27 #[.pointer (some ⟨b, 0, none⟩), .slice (some ⟨g, 0, none⟩) 1 1] W fun e w' => ∃ v0 v1, e = .returned (.tuple #[v0, v1]) ∧ k62.R 62 w' W.heap.size (fun _ => True) v0 [⟨key, 1⟩] ∧ k56.R 56 w' W.heap.size (fun _ => True) v1 ([] : List S56) ∧ Below W.heap.size W w') := ⟨fun W ok base b g hB hg hC => by
          have h := decide_Book_Picks.calls W hg ok base b L hB (some ⟨g, 0, none⟩) 1 [c] hC (by simp) (fun y hy => by rw [List.mem_singleton.1 hy]; exact hfc)
          rw [picks_one (d := d1) (by rw [← HKE.out]; exact HIN.out), ← HKE.out, HDD.out] at h
          exact h⟩
        have HPJ : Aside0 (∀ (W : World) (ok : Nat → Prop) (base b g : Nat), BookAt W ok base b L → Glob W → Kd.C k56 W (some ⟨g, 0, none⟩) 2 [(⟨c.f0, c.f1.tdiv 2, c.f2, c.f3, c.f4⟩ : S56), c] → Calls Tryd.prog 27 #[.pointer (some ⟨b, 0, none⟩), .slice (some ⟨g, 0, none⟩) 2 2] W fun e w' => ∃ v0 v1, e = .returned (.tuple #[v0, v1]) ∧ k62.R 62 w' W.heap.size (fun _ => True) v0 [⟨key, 1⟩] ∧ k56.R 56 w' W.heap.size (fun _ => True) v1 ([] : List S56) ∧ Below W.heap.size W w') := ⟨fun W ok base b g hB hg hC => by
          have h := decide_Book_Picks.calls W hg ok base b L hB (some ⟨g, 0, none⟩) 2 [(⟨c.f0, c.f1.tdiv 2, c.f2, c.f3, c.f4⟩ : S56), c] hC (by simp) (fun y hy => by
            rcases List.mem_cons.1 hy with e | hy
            · rw [e]
              exact hfc
            · rw [List.mem_singleton.1 hy]
              exact hfc)
          rw [picks_two (a := (⟨c.f0, c.f1.tdiv 2, c.f2, c.f3, c.f4⟩ : S56)) (c := c) (d := d1) rfl (by rw [← HKE.out]; exact HIN.out), ← HKE.out, HDD.out] at h
          exact h⟩
        obtain ⟨ko, hko⟩ := (conflict_key_ev (⟨c.f0, c.f1.tdiv 2, c.f2, c.f3, c.f4⟩ : S56) hfc).rounds
        have HKO := Aside0.mk (show conflict_Key.f ko c.f0 (c.f1.tdiv 2) c.f2 c.f3 c.f4 = some key by rw [HKE.out]; exact hko)
        clear hk hz hl1 hi1 hkd hko
        go_wp2_with (first | (go_at_call 19; go_loud (clear hz0 hz1 hz2 hz3 hz4 hf0 hf1 hf2 hf3 hf4 hx0 hx1 hx2 hx3 hx4; (with_reducible refine (HFI.out _ _ _ b HBK9.out).mono ?_); rintro e w10 ⟨rfl, hb10⟩; have HB10 := Aside0.mk (HB9.out.trans (hb10.mono HB9.out.size)); have HBK11 := Aside0.mk (HBK9.out.below (below_alloc hb10 (.cells #[.int .u64 key, .int .i64 1, .string ⟨#[97, 110, 110]⟩, .string ⟨#[]⟩] 35 (0, 0)))); have HB11 := Aside0.mk (HB10.out.trans ((below_alloc (Below.refl _ _) (.cells #[.int .u64 key, .int .i64 1, .string ⟨#[97, 110, 110]⟩, .string ⟨#[]⟩] 35 (0, 0))).mono HB10.out.size)); have HO11 := Aside0.mk (blk_alloc (blk_below HO9.out hb10) (.cells #[.int .u64 key, .int .i64 1, .string ⟨#[97, 110, 110]⟩, .string ⟨#[]⟩] 35 (0, 0))); have HX11 := Aside0.mk (blk_below HX5.out HB11.out); have hx0 := (blk_cell HX11.out 0).trans rfl; have hx1 := (blk_cell HX11.out 1).trans rfl; have hx2 := (blk_cell HX11.out 2).trans rfl; have hx3 := (blk_cell HX11.out 3).trans rfl; have hx4 := (blk_cell HX11.out 4).trans rfl; have HY11 : Aside0 ((w10.alloc (.cells #[.int .u64 key, .int .i64 1, .string ⟨#[97, 110, 110]⟩, .string ⟨#[]⟩] 35 (0, 0))).heap[w10.heap.size]? = some (.cells #[.int .u64 key, .int .i64 1, .string ⟨#[97, 110, 110]⟩, .string ⟨#[]⟩] 35 (0, 0))) := ⟨blk_new w10 _⟩; have hz : (w10.alloc (.cells #[.int .u64 0, .int .i64 0, .string ⟨#[]⟩, .string ⟨#[]⟩] 35 (0, 0))).heap[w10.heap.size]? = some (.cells #[.int .u64 0, .int .i64 0, .string ⟨#[]⟩, .string ⟨#[]⟩] 35 (0, 0)) := blk_new w10 _; have hz0 := (blk_cell hz 0).trans rfl; have hz1 := (blk_cell hz 1).trans rfl; have hz2 := (blk_cell hz 2).trans rfl; have hz3 := (blk_cell hz 3).trans rfl; have hf0 := blk_frozen hz 0; have hf1 := blk_frozen hz 1; have hf2 := blk_frozen hz 2; have hf3 := blk_frozen hz 3; have HB12 := Aside0.mk (HB11.out.trans ((below_alloc (Below.refl _ _) (.cells #[.int .i64 c.f0, .int .i64 c.f1, .string c.f2, .string c.f3, .string c.f4] 56 (0, 0))).mono HB11.out.size)); have HBK12 := Aside0.mk (HBK11.out.below (below_alloc (Below.refl _ _) (.cells #[.int .i64 c.f0, .int .i64 c.f1, .string c.f2, .string c.f3, .string c.f4] 56 (0, 0)))); have HO12 := Aside0.mk (blk_alloc HO11.out (.cells #[.int .i64 c.f0, .int .i64 c.f1, .string c.f2, .string c.f3, .string c.f4] 56 (0, 0))); have HY12 := Aside0.mk (blk_alloc HY11.out (.cells #[.int .i64 c.f0, .int .i64 c.f1, .string c.f2, .string c.f3, .string c.f4] 56 (0, 0))); have HS12 : Aside0 (Kd.C k56 ((w10.alloc (.cells #[.int .u64 key, .int .i64 1, .string ⟨#[97, 110, 110]⟩, .string ⟨#[]⟩] 35 (0, 0))).alloc (.cells #[.int .i64 c.f0, .int .i64 c.f1, .string c.f2, .string c.f3, .string c.f4] 56 (0, 0))) (some ⟨w10.heap.size + 1, 0, none⟩) 1 [c]) := ⟨by have h := C56_one (blk_new (w10.alloc (.cells #[.int .u64 key, .int .i64 1, .string ⟨#[97, 110, 110]⟩, .string ⟨#[]⟩] 35 (0, 0))) (.cells #[.int .i64 c.f0, .int .i64 c.f1, .string c.f2, .string c.f3, .string c.f4] 56 (0, 0))); rw [sz_alloc] at h; exact h⟩; clear hb10 hz)) | (go_at_call 27; go_loud (clear hz0 hz1 hz2 hz3 hf0 hf1 hf2 hf3 hx0 hx1 hx2 hx3 hx4; (with_reducible refine (HPI.out _ _ _ b _ HBK12.out (HG.out _ (below_step HB5.out HB12.out)) HS12.out).mono ?_); rintro e w13 ⟨v0, v1, rfl, hp, ho, hb13⟩; obtain ⟨gp, cp, rfl, _, _, _⟩ := Kd.R_form hp (by simp); obtain ⟨Aq, cq, rfl⟩ := Kd.R_slice ho; have HP13 := Aside0.mk (Kd.R_reads' hp).2.2; have HB13 := Aside0.mk (HB12.out.trans (hb13.mono HB12.out.size)); have HO13 := Aside0.mk (blk_below HO12.out hb13); have ho0 := (blk_cell HO13.out 0).trans rfl; have ho1 := (blk_cell HO13.out 1).trans rfl; have ho2 := (blk_cell HO13.out 2).trans rfl; have ho3 := (blk_cell HO13.out 3).trans rfl; have ho4 := (blk_cell HO13.out 4).trans rfl; have HX13 := Aside0.mk (blk_below HX5.out HB13.out); have hx0 := (blk_cell HX13.out 0).trans rfl; have hx1 := (blk_cell HX13.out 1).trans rfl; have hx2 := (blk_cell HX13.out 2).trans rfl; have hx3 := (blk_cell HX13.out 3).trans rfl; have hx4 := (blk_cell HX13.out 4).trans rfl; have HY13 := Aside0.mk (blk_below HY12.out hb13); have HB14 := Aside0.mk (HB13.out.trans ((below_alloc (Below.refl _ _) (.cells #[.int .i64 c.f0, .int .i64 (c.f1.tdiv 2), .string c.f2, .string c.f3, .string c.f4, .int .i64 c.f0, .int .i64 c.f1, .string c.f2, .string c.f3, .string c.f4] 56 (0, 0))).mono HB13.out.size)); have HBK14 := Aside0.mk ((HBK12.out.below hb13).below (below_alloc (Below.refl _ _) (.cells #[.int .i64 c.f0, .int .i64 (c.f1.tdiv 2), .string c.f2, .string c.f3, .string c.f4, .int .i64 c.f0, .int .i64 c.f1, .string c.f2, .string c.f3, .string c.f4] 56 (0, 0)))); have HS14 := Aside0.mk (C56_two (a := ⟨c.f0, c.f1.tdiv 2, c.f2, c.f3, c.f4⟩) (c := c) (blk_new w13 (.cells #[.int .i64 c.f0, .int .i64 (c.f1.tdiv 2), .string c.f2, .string c.f3, .string c.f4, .int .i64 c.f0, .int .i64 c.f1, .string c.f2, .string c.f3, .string c.f4] 56 (0, 0)))); clear hb13 hp ho)) | (go_at_call 27; go_loud (clear ho0 ho1 ho2 ho3 ho4 hx0 hx1 hx2 hx3 hx4; (with_reducible refine (HPJ.out _ _ _ b _ HBK14.out (HG.out _ (below_step HB5.out HB14.out)) HS14.out).mono ?_); rintro e w15 ⟨v0, v1, rfl, hp, ho, hb15⟩; obtain ⟨Ar, cr, rfl⟩ := Kd.R_slice hp; obtain ⟨As, cs, rfl⟩ := Kd.R_slice ho; have HB15 := Aside0.mk (HB14.out.trans (hb15.mono HB14.out.size)); have hba := below_step (below_alloc (Below.refl _ _) (.cells #[.int .i64 c.f0, .int .i64 (c.f1.tdiv 2), .string c.f2, .string c.f3, .string c.f4, .int .i64 c.f0, .int .i64 c.f1, .string c.f2, .string c.f3, .string c.f4] 56 (0, 0))) hb15; have HBK15 := Aside0.mk (HBK14.out.below hb15); have HW15 := Aside0.mk (below_step HB5.out HB15.out); have HO15 := Aside0.mk (blk_below HO13.out hba); have ho0 := (blk_cell HO15.out 0).trans rfl; have ho1 := (blk_cell HO15.out 1).trans rfl; have ho2 := (blk_cell HO15.out 2).trans rfl; have ho3 := (blk_cell HO15.out 3).trans rfl; have ho4 := (blk_cell HO15.out 4).trans rfl; have HX15 := Aside0.mk (blk_below HX5.out HB15.out); have HD15 := Aside0.mk (blk_below HD5.out HB15.out); have hd0 := (blk_cell HD15.out 0).trans rfl; have hd1 := (blk_cell HD15.out 1).trans rfl; have hd2 := (blk_cell HD15.out 2).trans rfl; have hd3 := (blk_cell HD15.out 3).trans rfl; have HY15 := Aside0.mk (blk_below HY13.out hba); have hy0 := (blk_cell HY15.out 0).trans rfl; have hy1 := (blk_cell HY15.out 1).trans rfl; have hy2 := (blk_cell HY15.out 2).trans rfl; have hy3 := (blk_cell HY15.out 3).trans rfl; obtain ⟨ap, ep, hpa, hpb⟩ := at_T62 (Kd.C_below HP13.out hba) 0 (by decide) (by simp); cases ep; have hp0 : w15.cell? ⟨gp, 0, none⟩ = some (.int .u64 key) := hpa; have hp1 : w15.cell? ⟨gp, 1, none⟩ = some (.int .i64 1) := hpb; clear hpa hpb; clear hb15 hba ho)))
        have HFC := Aside0.mk hfc
        clear hc0 hc1 hr0 hr1 hv1 hlen hlen1 hL0 hfc hwq
        go_region_held3 (fun w' => w'.cell? ⟨w10.heap.size, 0, none⟩ = some (.int .u64 key) ∧ w'.cell? ⟨w10.heap.size, 1, none⟩ = some (.int .i64 1) ∧ w'.cell? ⟨w10.heap.size, 2, none⟩ = some (.string ⟨#[97, 110, 110]⟩) ∧ w'.cell? ⟨w10.heap.size, 3, none⟩ = some (.string ⟨#[]⟩) ∧ w'.cell? ⟨gd, 0, none⟩ = some (.int .u64 key) ∧ w'.cell? ⟨gd, 1, none⟩ = some (.int .i64 1) ∧ w'.cell? ⟨gd, 2, none⟩ = some (.string ⟨#[97, 110, 110]⟩) ∧ w'.cell? ⟨gd, 3, none⟩ = some (.string ⟨#[]⟩) ∧ w'.cell? ⟨gp, 0, none⟩ = some (.int .u64 key) ∧ w'.cell? ⟨gp, 1, none⟩ = some (.int .i64 1) ∧ w'.cell? ⟨wr.heap.size, 0, none⟩ = some (.int .i64 c.f0) ∧ w'.cell? ⟨wr.heap.size, 1, none⟩ = some (.int .i64 (c.f1.tdiv 2)) ∧ w'.cell? ⟨wr.heap.size, 2, none⟩ = some (.string c.f2) ∧ w'.cell? ⟨wr.heap.size, 3, none⟩ = some (.string c.f3) ∧ w'.cell? ⟨wr.heap.size, 4, none⟩ = some (.string c.f4)) (first | go_keep | exact ⟨pw_cell_below HQ16.out hy0, pw_cell_below HQ16.out hy1, pw_cell_below HQ16.out hy2, pw_cell_below HQ16.out hy3, pw_cell_below HQ16.out hd0, pw_cell_below HQ16.out hd1, pw_cell_below HQ16.out hd2, pw_cell_below HQ16.out hd3, pw_cell_below HQ16.out hp0, pw_cell_below HQ16.out hp1, pw_cell_below HQ16.out ho0, pw_cell_below HQ16.out ho1, pw_cell_below HQ16.out ho2, pw_cell_below HQ16.out ho3, pw_cell_below HQ16.out ho4⟩) (first | (go_at_call 26; go_loud ((with_reducible refine (conflict_Key.calls ko _ _ _ _ _ _ _ (HG.out _ (by repeat (first | (with_reducible first | exact HW15.out | apply pw_below_drewN | apply below_drew1) | exact HW15.out))) HKO.out).mono ?_); rintro e w16 ⟨rfl, hb16⟩; have HQ16 := Aside0.mk hb16; clear hb16)))
        have hb16 := below_step (pw_below_drewN (Below.refl w15.heap.size w15) 1) HQ16.out
        have HB16 := Aside0.mk (HB15.out.trans (hb16.mono HB15.out.size))
        have HBK16 := Aside0.mk (HBK15.out.below hb16)
        have HFN : Aside0 (∀ (W : World) (ok : Nat → Prop) (base b : Nat), BookAt W ok base b (bookDel L key) → Calls Tryd.prog 19 #[.pointer (some ⟨b, 0, none⟩), .int .u64 key] W fun e w' => e = .returned (.tuple #[.agg #[.int .u64 0, .int .i64 0, .string ⟨#[]⟩, .string ⟨#[]⟩], .bool false]) ∧ Below W.heap.size W w') := ⟨fun W ok base b hB => by
          have h := decide_Book_Find.calls W ok base b _ hB key
          rw [bookIn_del, if_pos rfl, Option.getD_none, Option.isSome_none] at h
          exact h⟩
        have HPO : Aside0 (∀ (W : World) (ok : Nat → Prop) (base b g : Nat), BookAt W ok base b (bookDel L key) → Glob W → Kd.C k56 W (some ⟨g, 0, none⟩) 1 [c] → Calls Tryd.prog 27 #[.pointer (some ⟨b, 0, none⟩), .slice (some ⟨g, 0, none⟩) 1 1] W fun e w' => ∃ v0 v1, e = .returned (.tuple #[v0, v1]) ∧ k62.R 62 w' W.heap.size (fun _ => True) v0 ([] : List S62) ∧ k56.R 56 w' W.heap.size (fun _ => True) v1 [c] ∧ Below W.heap.size W w') := ⟨fun W ok base b g hB hg hC => by
          have h := decide_Book_Picks.calls W hg ok base b _ hB (some ⟨g, 0, none⟩) 1 [c] hC (by simp) (fun y hy => by rw [List.mem_singleton.1 hy]; exact HFC.out)
          rw [picks_off (by rw [← HKE.out, bookIn_del, if_pos rfl])] at h
          exact h⟩
        clear hb16 hy0 hy1 hy2 hy3 hd0 hd1 hd2 hd3 hp0 hp1 ho0 ho1 ho2 ho3 ho4
        go_wp2_with (first | (go_at_call 28; go_loud ((with_reducible refine (remD w16 _ _ b L HBK16.out HA.out key d1 (by have := HLL.out; omega) HIN.out).mono ?_); rintro e w17 ⟨rfl, hbk17, hk17⟩; have HBK17 := Aside0.mk hbk17; have HB17 := Aside0.mk (HB16.out.trans (hk17.belowOf (fun k h => h) HB16.out.size)); clear hbk17 hk17)) | (go_at_call 19; go_loud ((with_reducible refine (HFN.out _ _ _ b HBK17.out).mono ?_); rintro e w18 ⟨rfl, hb18⟩; have hz : (w18.alloc (.cells #[.int .u64 0, .int .i64 0, .string ⟨#[]⟩, .string ⟨#[]⟩] 35 (0, 0))).heap[w18.heap.size]? = some (.cells #[.int .u64 0, .int .i64 0, .string ⟨#[]⟩, .string ⟨#[]⟩] 35 (0, 0)) := blk_new w18 _; have hz0 := (blk_cell hz 0).trans rfl; have hz1 := (blk_cell hz 1).trans rfl; have hz2 := (blk_cell hz 2).trans rfl; have hz3 := (blk_cell hz 3).trans rfl; have hf0 := blk_frozen hz 0; have hf1 := blk_frozen hz 1; have hf2 := blk_frozen hz 2; have hf3 := blk_frozen hz 3; have HB18 := Aside0.mk (HB17.out.trans ((below_alloc hb18 (.cells #[.int .u64 0, .int .i64 0, .string ⟨#[]⟩, .string ⟨#[]⟩] 35 (0, 0))).mono HB17.out.size)); have HX18 := Aside0.mk (blk_below HX5.out HB18.out); have hx0 := (blk_cell HX18.out 0).trans rfl; have hx1 := (blk_cell HX18.out 1).trans rfl; have hx2 := (blk_cell HX18.out 2).trans rfl; have hx3 := (blk_cell HX18.out 3).trans rfl; have hx4 := (blk_cell HX18.out 4).trans rfl; have HB19 := Aside0.mk (HB18.out.trans ((below_alloc (Below.refl _ _) (.cells #[.int .i64 c.f0, .int .i64 c.f1, .string c.f2, .string c.f3, .string c.f4] 56 (0, 0))).mono HB18.out.size)); have HBK19 := Aside0.mk ((HBK17.out.below (below_alloc hb18 (.cells #[.int .u64 0, .int .i64 0, .string ⟨#[]⟩, .string ⟨#[]⟩] 35 (0, 0)))).below (below_alloc (Below.refl _ _) (.cells #[.int .i64 c.f0, .int .i64 c.f1, .string c.f2, .string c.f3, .string c.f4] 56 (0, 0)))); have HS19 : Aside0 (Kd.C k56 ((w18.alloc (.cells #[.int .u64 0, .int .i64 0, .string ⟨#[]⟩, .string ⟨#[]⟩] 35 (0, 0))).alloc (.cells #[.int .i64 c.f0, .int .i64 c.f1, .string c.f2, .string c.f3, .string c.f4] 56 (0, 0))) (some ⟨w18.heap.size + 1, 0, none⟩) 1 [c]) := ⟨by have h := C56_one (blk_new (w18.alloc (.cells #[.int .u64 0, .int .i64 0, .string ⟨#[]⟩, .string ⟨#[]⟩] 35 (0, 0))) (.cells #[.int .i64 c.f0, .int .i64 c.f1, .string c.f2, .string c.f3, .string c.f4] 56 (0, 0))); rw [sz_alloc] at h; exact h⟩; clear hb18 hz)) | (go_at_call 27; go_loud (clear hz0 hz1 hz2 hz3 hf0 hf1 hf2 hf3 hx0 hx1 hx2 hx3 hx4; (with_reducible refine (HPO.out _ _ _ b _ HBK19.out (HG.out _ (below_step HB5.out HB19.out)) HS19.out).mono ?_); rintro e w20 ⟨v0, v1, rfl, hp, ho, hb20⟩; obtain ⟨Ar2, cr2, rfl⟩ := Kd.R_slice hp; obtain ⟨gq, cq2, rfl, _, _, _⟩ := Kd.R_form ho (by simp); have HB20 := Aside0.mk (HB19.out.trans (hb20.mono HB19.out.size)); have HW20 := Aside0.mk (below_step HB5.out HB20.out); have HX20 := Aside0.mk (blk_below HX5.out HB20.out); have hx0 := (blk_cell HX20.out 0).trans rfl; have hx1 := (blk_cell HX20.out 1).trans rfl; have hx2 := (blk_cell HX20.out 2).trans rfl; have hx3 := (blk_cell HX20.out 3).trans rfl; have hx4 := (blk_cell HX20.out 4).trans rfl; obtain ⟨ap, ep, ha0, ha1, ha2, ha3, ha4⟩ := at_T56 (Kd.R_reads' ho).2.2 0 (by decide) (by simp); cases ep; have hq0 : w20.cell? ⟨gq, 0, none⟩ = some (.int .i64 c.f0) := ha0; have hq1 : w20.cell? ⟨gq, 1, none⟩ = some (.int .i64 c.f1) := ha1; have hq2 : w20.cell? ⟨gq, 2, none⟩ = some (.string c.f2) := ha2; have hq3 : w20.cell? ⟨gq, 3, none⟩ = some (.string c.f3) := ha3; have hq4 : w20.cell? ⟨gq, 4, none⟩ = some (.string c.f4) := ha4; clear ha0 ha1 ha2 ha3 ha4 hb20 hp ho)))
        go_region_held3 (fun w' => w'.cell? ⟨gq, 0, none⟩ = some (.int .i64 c.f0) ∧ w'.cell? ⟨gq, 1, none⟩ = some (.int .i64 c.f1) ∧ w'.cell? ⟨gq, 2, none⟩ = some (.string c.f2) ∧ w'.cell? ⟨gq, 3, none⟩ = some (.string c.f3) ∧ w'.cell? ⟨gq, 4, none⟩ = some (.string c.f4) ∧ w'.cell? ⟨w.heap.size, 0, none⟩ = some (.int .i64 c.f0) ∧ w'.cell? ⟨w.heap.size, 1, none⟩ = some (.int .i64 c.f1) ∧ w'.cell? ⟨w.heap.size, 2, none⟩ = some (.string c.f2) ∧ w'.cell? ⟨w.heap.size, 3, none⟩ = some (.string c.f3) ∧ w'.cell? ⟨w.heap.size, 4, none⟩ = some (.string c.f4)) (first | go_keep | exact ⟨pw_cell_below HQ21.out hq0, pw_cell_below HQ21.out hq1, pw_cell_below HQ21.out hq2, pw_cell_below HQ21.out hq3, pw_cell_below HQ21.out hq4, pw_cell_below HQ21.out hx0, pw_cell_below HQ21.out hx1, pw_cell_below HQ21.out hx2, pw_cell_below HQ21.out hx3, pw_cell_below HQ21.out hx4⟩) (first | (go_at_call 10; go_loud ((with_reducible refine (awake_calls _ (HG.out _ (by repeat (first | (with_reducible first | exact HW20.out | apply pw_below_drewN | apply below_drew1) | exact HW20.out)))).mono ?_); rintro e w21 ⟨rfl, hk21⟩; have HQ21 := Aside0.mk hk21.asBelow; clear hk21)))
        have hb21 := below_step (pw_below_drewN (Below.refl w20.heap.size w20) 1) HQ21.out
        have HB21 := Aside0.mk (HB20.out.trans (hb21.mono HB20.out.size))
        go_wp2
        go_ret
        exact ⟨rfl, below_step HB5.out HB21.out⟩

set_option maxHeartbeats 8000000 in
set_option maxRecDepth 100000 in
theorem DecideRecalls_w1 (A0 : Option Addr) (c0 : Nat) (l0 : List S35) (c : S56) (left : Bool) (A1 : Option Addr) (c1 : Nat) (l1 : List S35) (w : World) (hG : Glob w) (hr0 : Kd.C k35 w A0 l0.length l0) (hc0 : l0.length ≤ c0) (hr1 : Kd.C k35 w A1 l1.length l1) (hc1 : l1.length ≤ c1) (hl0 : l0.length ≤ 140737488351232) (hl1 : l1.length ≤ 140737488351232) (hv : ¬ ValidL l0) : Calls Tryd.prog 8 #[.slice A0 l0.length c0, .agg #[.int .i64 c.f0, .int .i64 c.f1, .string c.f2, .string c.f3, .string c.f4], .bool left, .slice A1 l1.length c1] w fun e w' => e = .returned (.bool true) ∧ Below w.heap.size w w' := by
  have HG := Aside0.mk (fun W (hb : Below w.heap.size w W) => Glob.below hb hG)
  have HC0 := Aside0.mk hr0
  have HC1 := Aside0.mk hr1
  have HBX := Aside0.mk (blk_new w (.cells #[.int .i64 c.f0, .int .i64 c.f1, .string c.f2, .string c.f3, .string c.f4] 56 (0, 0)))
  have HB0 := Aside0.mk (below_alloc (Below.refl w.heap.size w) (.cells #[.int .i64 c.f0, .int .i64 c.f1, .string c.f2, .string c.f3, .string c.f4] 56 (0, 0)))
  obtain ⟨kv, hkv⟩ := (valid36_ev l0 hl0).rounds
  rw [decide_eq_false hv] at hkv
  have HKV := Aside0.mk hkv
  clear hG
  go_enter Tryd.func8, Tryd.ntmps8
  go_wp2_with (first | (go_at_call 20; go_loud ((with_reducible refine (treemergelaw36_valid.calls kv A0 c0 l0 false _ (Kd.C_below HC0.out HB0.out) hc0 HKV.out).mono ?_); rintro e w1 ⟨rfl, hb1⟩; have HB1 := Aside0.mk (below_step HB0.out hb1); have HX1 := Aside0.mk (blk_below HBX.out hb1); clear hb1)) | (go_at_call 10; go_loud ((with_reducible refine (awake_calls _ (HG.out _ HB1.out)).mono ?_); rintro e w9 ⟨rfl, hk9⟩; have HB9 := Aside0.mk (below_step HB1.out hk9.asBelow); clear hk9)))
  go_ret
  exact ⟨rfl, HB9.out⟩
set_option maxHeartbeats 8000000 in
set_option maxRecDepth 100000 in
theorem DecideRecalls_w2 (A0 : Option Addr) (c0 : Nat) (l0 : List S35) (c : S56) (left : Bool) (A1 : Option Addr) (c1 : Nat) (l1 : List S35) (w : World) (hG : Glob w) (hr0 : Kd.C k35 w A0 l0.length l0) (hc0 : l0.length ≤ c0) (hr1 : Kd.C k35 w A1 l1.length l1) (hc1 : l1.length ≤ c1) (hl0 : l0.length ≤ 140737488351232) (hl1 : l1.length ≤ 140737488351232) (hv : ValidL l0) (hv1 : ¬ ValidL l1) : Calls Tryd.prog 8 #[.slice A0 l0.length c0, .agg #[.int .i64 c.f0, .int .i64 c.f1, .string c.f2, .string c.f3, .string c.f4], .bool left, .slice A1 l1.length c1] w fun e w' => e = .returned (.bool true) ∧ Below w.heap.size w w' := by
  have HG := Aside0.mk (fun W (hb : Below w.heap.size w W) => Glob.below hb hG)
  have HC0 := Aside0.mk hr0
  have HC1 := Aside0.mk hr1
  have HBX := Aside0.mk (blk_new w (.cells #[.int .i64 c.f0, .int .i64 c.f1, .string c.f2, .string c.f3, .string c.f4] 56 (0, 0)))
  have HB0 := Aside0.mk (below_alloc (Below.refl w.heap.size w) (.cells #[.int .i64 c.f0, .int .i64 c.f1, .string c.f2, .string c.f3, .string c.f4] 56 (0, 0)))
  obtain ⟨kv, hkv⟩ := (valid36_ev l0 hl0).rounds
  rw [decide_eq_true hv] at hkv
  have HKV := Aside0.mk hkv
  obtain ⟨kw, hkw⟩ := (valid36_ev l1 hl1).rounds
  rw [decide_eq_false hv1] at hkw
  have HKW := Aside0.mk hkw
  clear hG
  go_enter Tryd.func8, Tryd.ntmps8
  go_wp2_with (first | (go_at_call 20; go_loud ((with_reducible refine (treemergelaw36_valid.calls kv A0 c0 l0 true _ (Kd.C_below HC0.out HB0.out) hc0 HKV.out).mono ?_); rintro e w1 ⟨rfl, hb1⟩; have HB1 := Aside0.mk (below_step HB0.out hb1); have HX1 := Aside0.mk (blk_below HBX.out hb1); clear hb1)) | (go_at_call 20; go_loud ((with_reducible refine (treemergelaw36_valid.calls kw A1 c1 l1 false _ (Kd.C_below HC1.out HB1.out) hc1 HKW.out).mono ?_); rintro e w2 ⟨rfl, hb2⟩; have HB2 := Aside0.mk (below_step HB1.out hb2); have HX2 := Aside0.mk (blk_below HX1.out hb2); have hx0 := (blk_cell HX2.out 0).trans rfl; have hx1 := (blk_cell HX2.out 1).trans rfl; have hx2 := (blk_cell HX2.out 2).trans rfl; have hx3 := (blk_cell HX2.out 3).trans rfl; have hx4 := (blk_cell HX2.out 4).trans rfl; have HB2a := Aside0.mk (below_alloc HB2.out (.cells #[.int .i64 c.f0, .int .i64 c.f1, .string c.f2, .string c.f3, .string c.f4] 56 (0, 0))); have HCS := Aside0.mk (C56_one (blk_new w2 (.cells #[.int .i64 c.f0, .int .i64 c.f1, .string c.f2, .string c.f3, .string c.f4] 56 (0, 0)))); clear hb2)) | (go_at_call 10; go_loud ((with_reducible refine (awake_calls _ (HG.out _ HB2.out)).mono ?_); rintro e w9 ⟨rfl, hk9⟩; have HB9 := Aside0.mk (below_step HB2.out hk9.asBelow); clear hk9)))
  go_ret
  exact ⟨rfl, HB9.out⟩
set_option maxHeartbeats 8000000 in
set_option maxRecDepth 100000 in
theorem DecideRecalls_w3 (A0 : Option Addr) (c0 : Nat) (l0 : List S35) (c : S56) (left : Bool) (A1 : Option Addr) (c1 : Nat) (l1 : List S35) (w : World) (hG : Glob w) (hr0 : Kd.C k35 w A0 l0.length l0) (hc0 : l0.length ≤ c0) (hr1 : Kd.C k35 w A1 l1.length l1) (hc1 : l1.length ≤ c1) (hl0 : l0.length ≤ 140737488351232) (hl1 : l1.length ≤ 140737488351232) (hv : ValidL l0) (hv1 : ValidL l1) (hf : ¬ FewL [c] 1) : Calls Tryd.prog 8 #[.slice A0 l0.length c0, .agg #[.int .i64 c.f0, .int .i64 c.f1, .string c.f2, .string c.f3, .string c.f4], .bool left, .slice A1 l1.length c1] w fun e w' => e = .returned (.bool true) ∧ Below w.heap.size w w' := by
  have HG := Aside0.mk (fun W (hb : Below w.heap.size w W) => Glob.below hb hG)
  have HC0 := Aside0.mk hr0
  have HC1 := Aside0.mk hr1
  have HBX := Aside0.mk (blk_new w (.cells #[.int .i64 c.f0, .int .i64 c.f1, .string c.f2, .string c.f3, .string c.f4] 56 (0, 0)))
  have HB0 := Aside0.mk (below_alloc (Below.refl w.heap.size w) (.cells #[.int .i64 c.f0, .int .i64 c.f1, .string c.f2, .string c.f3, .string c.f4] 56 (0, 0)))
  obtain ⟨kv, hkv⟩ := (valid36_ev l0 hl0).rounds
  rw [decide_eq_true hv] at hkv
  have HKV := Aside0.mk hkv
  obtain ⟨kw, hkw⟩ := (valid36_ev l1 hl1).rounds
  rw [decide_eq_true hv1] at hkw
  have HKW := Aside0.mk hkw
  obtain ⟨kf, hkf⟩ := (few36_ev [c] 1 (by decide) (by simp)).rounds
  rw [decide_eq_false hf] at hkf
  have HKF := Aside0.mk (show treemergelaw36_few.f kf [c] 1 = some false from hkf)
  have HFW : Aside0 (∀ (W : World) (g : Nat), Kd.C k56 W (some ⟨g, 0, none⟩) 1 [c] → Calls Tryd.prog 24 #[.slice (some ⟨g, 0, none⟩) 1 1, .int .i64 1] W fun e w' => e = .returned (.bool false) ∧ Drawn0 W w') := ⟨fun W g hC => treemergelaw36_few.calls kf _ 1 [c] 1 false W hC (Nat.le_refl 1) HKF.out⟩
  clear hG
  go_enter Tryd.func8, Tryd.ntmps8
  go_wp2_with (first | (go_at_call 20; go_loud ((with_reducible refine (treemergelaw36_valid.calls kv A0 c0 l0 true _ (Kd.C_below HC0.out HB0.out) hc0 HKV.out).mono ?_); rintro e w1 ⟨rfl, hb1⟩; have HB1 := Aside0.mk (below_step HB0.out hb1); have HX1 := Aside0.mk (blk_below HBX.out hb1); clear hb1)) | (go_at_call 20; go_loud ((with_reducible refine (treemergelaw36_valid.calls kw A1 c1 l1 true _ (Kd.C_below HC1.out HB1.out) hc1 HKW.out).mono ?_); rintro e w2 ⟨rfl, hb2⟩; have HB2 := Aside0.mk (below_step HB1.out hb2); have HX2 := Aside0.mk (blk_below HX1.out hb2); have hx0 := (blk_cell HX2.out 0).trans rfl; have hx1 := (blk_cell HX2.out 1).trans rfl; have hx2 := (blk_cell HX2.out 2).trans rfl; have hx3 := (blk_cell HX2.out 3).trans rfl; have hx4 := (blk_cell HX2.out 4).trans rfl; have HB2a := Aside0.mk (below_alloc HB2.out (.cells #[.int .i64 c.f0, .int .i64 c.f1, .string c.f2, .string c.f3, .string c.f4] 56 (0, 0))); have HCS := Aside0.mk (C56_one (blk_new w2 (.cells #[.int .i64 c.f0, .int .i64 c.f1, .string c.f2, .string c.f3, .string c.f4] 56 (0, 0)))); clear hb2)) | (go_at_call 24; go_loud ((with_reducible refine (HFW.out _ _ HCS.out).mono ?_); clear hx0 hx1 hx2 hx3 hx4; rintro e w3 ⟨rfl, hb3⟩; have HB3 := Aside0.mk (below_step HB2a.out hb3.below); clear hb3)) | (go_at_call 10; go_loud ((with_reducible refine (awake_calls _ (HG.out _ HB3.out)).mono ?_); rintro e w9 ⟨rfl, hk9⟩; have HB9 := Aside0.mk (below_step HB3.out hk9.asBelow); clear hk9)))
  go_ret
  exact ⟨rfl, HB9.out⟩
theorem DecideRecalls_row {w : World} (A0 : Option Addr) (c0 : Nat) (l0 : List S35) (hr0 : Kd.C k35 w A0 l0.length l0) (hc0 : l0.length ≤ c0) (hy0 : l0.length * 48 ≤ 140737488351232) (hok0 : ∀ x ∈ l0, WfD x) (c : S56) (hc : WfC c) (left : Bool) (A1 : Option Addr) (c1 : Nat) (l1 : List S35) (hr1 : Kd.C k35 w A1 l1.length l1) (hc1 : l1.length ≤ c1) (hy1 : l1.length * 48 ≤ 140737488351232) (hok1 : ∀ x ∈ l1, WfD x) (hG : Glob w) : Calls Tryd.prog 8 #[.slice A0 l0.length c0, .agg #[.int .i64 c.f0, .int .i64 c.f1, .string c.f2, .string c.f3, .string c.f4], .bool left, .slice A1 l1.length c1] w fun e w' => e = .returned (.bool true) ∧ Below w.heap.size w w' := by
  by_cases hv : ValidL l0
  · by_cases hv1 : ValidL l1
    · by_cases hf : FewL [c] 1
      · have hb := bounds_i64 hc.2.1
        exact DecideRecalls_calls A0 c0 l0 c left A1 c1 l1 w hG hr0 hc0 hr1 hc1 hv hv1 hf (fewC_of hc (hf.2 c (List.mem_singleton.2 rfl))) ⟨by omega, by omega⟩
      · exact DecideRecalls_w3 A0 c0 l0 c left A1 c1 l1 w hG hr0 hc0 hr1 hc1 (by omega) (by omega) hv hv1 hf
    · exact DecideRecalls_w2 A0 c0 l0 c left A1 c1 l1 w hG hr0 hc0 hr1 hc1 (by omega) (by omega) hv hv1
  · exact DecideRecalls_w1 A0 c0 l0 c left A1 c1 l1 w hG hr0 hc0 hr1 hc1 (by omega) (by omega) hv

end Go.Proofs.YtfajgjmhfpabiaaDoor.Scratch
