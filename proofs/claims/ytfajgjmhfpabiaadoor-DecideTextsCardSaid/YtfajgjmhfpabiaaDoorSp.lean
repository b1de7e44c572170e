/- DecideTexts returns true: proved here by steps through the program's text; no condition but those that stand in each theorem. -/
import Derived.WalkSpells
import Derived.Deep.RegionLaw
import Derived.Lib.OthersKept
import Derived.Test.YtfajgjmhfpabiaaDoorShelf
import Derived.Test.YtfajgjmhfpabiaaDoorQ0
import Derived.Test.YtfajgjmhfpabiaaDoorQ2
import Derived.Test.YtfajgjmhfpabiaaDoorQ3
import Derived.Test.YtfajgjmhfpabiaaDoorQ4
import Derived.Test.YtfajgjmhfpabiaaDoorQ5
import Derived.Test.YtfajgjmhfpabiaaDoorSb
import Derived.Test.YtfajgjmhfpabiaaDoorSc
import Derived.Test.YtfajgjmhfpabiaaDoorSe
import Derived.Test.YtfajgjmhfpabiaaDoorSf
import Derived.Test.YtfajgjmhfpabiaaDoorSg
import Derived.Test.YtfajgjmhfpabiaaDoorSh
import Derived.Test.YtfajgjmhfpabiaaDoorSi
import Derived.Test.YtfajgjmhfpabiaaDoorSj
import Derived.Test.YtfajgjmhfpabiaaDoorSk
import Derived.Test.YtfajgjmhfpabiaaDoorSl
import Derived.Test.YtfajgjmhfpabiaaDoorSm
import Derived.Test.YtfajgjmhfpabiaaDoorSn
import Derived.Test.YtfajgjmhfpabiaaDoorSo
import Derived.Test.YtfajgjmhfpabiaaDoorQ6
import Derived.OpenShut
import Derived.Deep.QuietTactic
import Derived.BigQuiet
namespace Go.Proofs.YtfajgjmhfpabiaaDoor.Scratch
set_option linter.unusedVariables false
open Go.RowKit Go.Proofs.YtfajgjmhfpabiaaDoorW.PrintWords Go.Proofs.YtfajgjmhfpabiaaDoorW.PrintLast Go.Proofs.YtfajgjmhfpabiaaDoorW.PrintMore Go.Proofs.YtfajgjmhfpabiaaDoor.Q
attribute [local go_sem] max2_int min2_int max_two min_two max_three min_three max_four min_four
theorem addAll_mem : ∀ (l L : List S35) (d : S35), d ∈ addAll L l → d ∈ L ∨ (d ∈ l ∧ faultS d.f1 d.f2 d.f3 = 0)
  | [], L, d, h => .inl h
  | x :: l, L, d, h => by
    rcases addAll_mem l (bookAdd L x).1 d h with q | ⟨q, f⟩
    · unfold bookAdd at q
      split at q
      · exact .inl q
      · rename_i c
        have hf : faultS x.f1 x.f2 x.f3 = 0 := by simpa using c
        split at q
        · rcases bookPut_mem L x d q with e | e
          · exact .inr ⟨by rw [e]; exact List.mem_cons_self, by rw [e]; exact hf⟩
          · exact .inl e
        · split at q
          · exact .inl q
          · rcases bookPut_mem L x d q with e | e
            · exact .inr ⟨by rw [e]; exact List.mem_cons_self, by rw [e]; exact hf⟩
            · exact .inl e
    · exact .inr ⟨List.mem_cons_of_mem _ q, f⟩
theorem addAll_le : ∀ (l L : List S35), Asc L → (addAll L l).length ≤ L.length + l.length
  | [], L, _ => Nat.le_add_right _ _
  | x :: l, L, h => by
    have h1 := addAll_le l (bookAdd L x).1 (bookAdd_asc L x h)
    have h2 : (bookAdd L x).1.length ≤ L.length + 1 := by
      unfold bookAdd
      split
      · exact Nat.le_succ _
      · split
        · rename_i q
          obtain ⟨d0, hd⟩ := Option.isSome_iff_exists.1 q
          rw [bookPut_len_in L x d0 h hd]
          exact Nat.le_succ _
        · rename_i q
          split
          · exact Nat.le_succ _
          · rw [bookPut_len_new L x h (by simpa using q)]
            exact Nat.le_refl _
    show (addAll (bookAdd L x).1 l).length ≤ _
    rw [List.length_cons]
    omega
/-- A decision that can be printed and read. -/
def GoodD (d : S35) : Prop := (0 ≤ d.f0 ∧ d.f0 < 2 ^ 64) ∧ faultS d.f1 d.f2 d.f3 = 0
def lineA35 (d : S35) : ByteArray := lineS d.f0 d.f1 d.f2 d.f3
theorem line_body (d : S35) (h : GoodD d) : ∃ b : List UInt8, (lineA35 d).data.toList = b ++ [10] ∧ (10 : UInt8) ∉ b := by
  obtain ⟨h1, h2, h3, h4, h5⟩ := fault_zero h.2
  refine ⟨_, lineS_list _ _ _ _, ?_⟩
  have hx := hex_chars d.f0
  have n1 : (10 : UInt8) ∉ (hexS d.f0).data.toList := fun m => by
    have := hx 10 m
    have e : (10 : UInt8).toNat = 10 := rfl
    omega
  have n2 : (10 : UInt8) ∉ sideL d.f1 := by
    unfold sideL
    split <;> decide
  have n3 : (10 : UInt8) ∉ d.f2.data.toList := no_byte h4 (show 10 < 33 by decide) 10 rfl
  have n4 : (10 : UInt8) ∉ d.f3.data.toList := no_byte h5 (show 10 < 32 by decide) 10 rfl
  have n5 : (10 : UInt8) ∉ whyL d.f3 := by
    unfold whyL
    split
    · decide
    · intro m
      rcases List.mem_cons.1 m with m | m
      · exact absurd m (by decide)
      · exact n4 m
  intro m
  rcases List.mem_append.1 m with m | m
  · exact n1 m
  · rcases List.mem_cons.1 m with m | m
    · exact absurd m (by decide)
    · rcases List.mem_append.1 m with m | m
      · exact n2 m
      · rcases List.mem_cons.1 m with m | m
        · exact absurd m (by decide)
        · rcases List.mem_append.1 m with m | m
          · exact n3 m
          · exact n5 m
theorem splitL_line (s : ByteArray) (b r : List UInt8) (g i : Nat) (out : List ByteArray) (hd : s.data.toList.drop i = (b ++ [10]) ++ r) (hb : (10 : UInt8) ∉ b) : splitL s (b.length + (g + 1)) i i out = splitL s g (i + b.length + 1) (i + b.length + 1) (out ++ [⟨(b ++ [10]).toArray⟩]) := by
  have hlen : i + b.length + 1 + r.length = s.data.toList.length ∨ s.data.toList.length ≤ i := by
    have := congrArg List.length hd
    simp only [List.length_drop, List.length_append, List.length_cons, List.length_nil] at this
    omega
  have hlen : i + b.length + 1 + r.length = s.data.toList.length := by
    rcases hlen with h | h
    · exact h
    · rw [List.drop_of_length_le h] at hd
      have := congrArg List.length hd
      simp at this
  have hget : ∀ j (hj : j < b.length + 1), ∃ (h : i + j < s.data.toList.length), s.data.toList[i + j] = (b ++ [10])[j]'(by simp; omega) := fun j hj => by
    have h1 : i + j < s.data.toList.length := by omega
    refine ⟨h1, ?_⟩
    have h2 : (s.data.toList.drop i)[j]? = ((b ++ [10]) ++ r)[j]? := by rw [hd]
    have h3 : j < (b ++ [(10 : UInt8)]).length := by rw [List.length_append, List.length_singleton]; exact hj
    rw [List.getElem?_drop, List.getElem?_eq_getElem h1, List.getElem?_append_left h3, List.getElem?_eq_getElem h3] at h2
    exact Option.some.inj h2
  rw [splitL_skip s b.length (g + 1) i i out (fun j q1 q2 => by
    obtain ⟨h1, h2⟩ := hget (j - i) (by omega)
    have e : i + (j - i) = j := by omega
    simp only [e] at h1 h2
    rw [bt_get s j h1, h2, List.getElem_append_left (by omega)]
    intro e2
    exact hb (by rw [show (10 : UInt8) = b[j - i]'(by omega) from UInt8.toNat_inj.1 (by have : (10 : UInt8).toNat = 10 := rfl; omega)]; exact List.getElem_mem _)), splitL]
  obtain ⟨h1, h2⟩ := hget b.length (by omega)
  rw [if_pos (by rw [bt_get s _ h1, h2]; simp)]
  have e : s.extract i (i + b.length + 1) = ⟨(b ++ [10]).toArray⟩ := ba_ext (by
    rw [ext_list, hd, show i + b.length + 1 - i = (b ++ [(10 : UInt8)]).length by simp; omega, List.take_left])
  rw [e]
theorem split_print : ∀ (M : List S35) (s : ByteArray) (i : Nat) (out : List ByteArray), (∀ d ∈ M, GoodD d) → i ≤ s.data.toList.length → s.data.toList.drop i = printB M → splitL s (printB M).length i i out = out ++ M.map lineA35
  | [], s, i, out, _, hi, hd => by
    have hz := ba_len s
    have := congrArg List.length hd
    rw [List.length_drop, printB, List.length_nil] at this
    rw [printB, List.length_nil, splitL, if_neg (by omega)]
    simp
  | d :: M, s, i, out, hg, hi, hd => by
    obtain ⟨b, e1, e2⟩ := line_body d (hg d List.mem_cons_self)
    have e0 : printB (d :: M) = (lineA35 d).data.toList ++ printB M := rfl
    rw [e0, e1] at hd
    have hz := congrArg List.length hd
    simp only [List.length_drop, List.length_append, List.length_cons, List.length_nil] at hz
    rw [e0, e1, show ((b ++ [(10 : UInt8)]) ++ printB M).length = b.length + ((printB M).length + 1) by rw [List.length_append, List.length_append, List.length_singleton]; omega, splitL_line s b (printB M) (printB M).length i out hd e2,
      split_print M s (i + b.length + 1) _ (fun x hx => hg x (List.mem_cons_of_mem _ hx)) (by omega) (by
        rw [show i + b.length + 1 = i + (b ++ [(10 : UInt8)]).length by simp; omega, ← List.drop_drop, hd, List.drop_left])]
    have e3 : (⟨(b ++ [10]).toArray⟩ : ByteArray) = lineA35 d := ba_ext (by rw [e1])
    rw [e3]
    simp
theorem lastK_lt (acc : List S35) (d : S35) (h : Asc (acc ++ [d])) (h0 : 0 ≤ d.f0) : ¬ d.f0 ≤ lastK acc := by
  unfold lastK
  cases e : acc.getLast? with
  | none => simp; omega
  | some x =>
    have hx : x ∈ acc := List.mem_of_getLast? e
    have := (List.pairwise_append.1 h).2.2 x hx d (by simp)
    simp
    omega
theorem parse_lines : ∀ (M acc : List S35), (∀ d ∈ M, GoodD d) → Asc (acc ++ M) → (acc ++ M).length ≤ 256 → parseGo (M.map lineA35) acc = (some (acc ++ M), 0, 0)
  | [], acc, _, _, _ => by rw [List.map_nil, parseGo, List.append_nil]
  | d :: M, acc, hg, ha, hl => by
    have hd := hg d List.mem_cons_self
    rw [List.length_append, List.length_cons] at hl
    have ha2 : Asc ((acc ++ [d]) ++ M) := by simpa using ha
    rw [List.map_cons, parseGo, if_neg (by omega), readS_line d hd.1.1 hd.1.2 hd.2 (lineA35 d) rfl]
    dsimp only
    rw [if_neg (lastK_lt acc d (List.pairwise_append.1 ha2).1 hd.1.1), parse_lines M (acc ++ [d]) (fun x hx => hg x (List.mem_cons_of_mem _ hx)) ha2 (by simp; omega)]
    simp
theorem parse_print (L : List S35) (hg : ∀ d ∈ L, GoodD d) (ha : Asc L) (hl : L.length ≤ 256) (s : ByteArray) (hs : s.data.toList = printB L) : parseGo (splitL s s.size 0 0 []) [] = (some L, 0, 0) := by
  have := split_print L s 0 [] hg (Nat.zero_le _) (by rw [List.drop_zero, hs])
  rw [← ba_len, hs, this, List.nil_append, parse_lines L [] hg (by simpa using ha) (by simpa using hl), List.nil_append]
theorem splitL_join (s : ByteArray) : ∀ (g i fr : Nat) (out : List ByteArray), i + g = s.size → fr ≤ i → (splitL s g i fr out).flatMap (fun x => x.data.toList) = out.flatMap (fun x => x.data.toList) ++ s.data.toList.drop fr
  | 0, i, fr, out, hi, hf => by
    rw [splitL]
    by_cases c : fr < s.size
    · rw [if_pos c, List.flatMap_append]
      simp only [List.flatMap_cons, List.flatMap_nil, List.append_nil]
      rw [ext_list, List.take_of_length_le (by rw [List.length_drop, ba_len]; exact Nat.le_refl _)]
    · rw [if_neg c, List.drop_of_length_le (by rw [ba_len]; omega), List.append_nil]
  | g + 1, i, fr, out, hi, hf => by
    rw [splitL]
    split
    · rw [splitL_join s g (i + 1) (i + 1) _ (by omega) (by omega), List.flatMap_append]
      simp only [List.flatMap_cons, List.flatMap_nil, List.append_nil]
      rw [ext_list, List.append_assoc]
      congr 1
      conv => rhs; rw [← List.take_append_drop (i + 1 - fr) (s.data.toList.drop fr)]
      rw [List.drop_drop, show fr + (i + 1 - fr) = i + 1 by omega]
    · exact splitL_join s g (i + 1) fr out (by omega) (by omega)
theorem parse_back36 : ∀ (l : List ByteArray) (acc M : List S35) (a b : Int), parseGo l acc = (some M, a, b) → ∃ N, M = acc ++ N ∧ l.flatMap (fun x => x.data.toList) = printB N
  | [], acc, M, a, b, h => by
    rw [parseGo] at h
    cases h
    exact ⟨[], by simp, rfl⟩
  | x :: xs, acc, M, a, b, h => by
    rw [parseGo] at h
    split at h
    · cases h
    · cases hr : readS x with
      | none =>
        rw [hr] at h
        cases h
      | some d =>
        rw [hr] at h
        dsimp only at h
        split at h
        · cases h
        · obtain ⟨N, e1, e2⟩ := parse_back36 xs (acc ++ [d]) M a b h
          obtain ⟨_, _, e3⟩ := readS_plain x d hr
          refine ⟨d :: N, by rw [e1]; simp, ?_⟩
          rw [List.flatMap_cons, e2]
          show _ = (lineS d.f0 d.f1 d.f2 d.f3).data.toList ++ printB N
          rw [← toList_eq, ← toList_eq, e3]
theorem parse_is_print (s : ByteArray) (L : List S35) (a b : Int) (h : parseGo (splitL s s.size 0 0 []) [] = (some L, a, b)) : printB L = s.data.toList := by
  obtain ⟨N, e1, e2⟩ := parse_back36 _ [] L a b h
  rw [splitL_join s s.size 0 0 [] (by omega) (Nat.le_refl _)] at e2
  rw [e1, List.nil_append, ← e2]
  simp
theorem print_len : ∀ (L : List S35), (∀ d ∈ L, GoodD d) → (printB L).length ≤ L.length * 258
  | [], _ => Nat.zero_le _
  | d :: L, h => by
    have h1 := print_len L (fun x hx => h x (List.mem_cons_of_mem _ hx))
    obtain ⟨_, z2, z3, _, _⟩ := fault_zero (h d List.mem_cons_self).2
    have h2 := lineS_size d.f0 d.f1 d.f2 d.f3
    show ((lineS d.f0 d.f1 d.f2 d.f3).data.toList ++ printB L).length ≤ _
    rw [List.length_append, ba_len, List.length_cons]
    omega

theorem parse_good : ∀ (l : List ByteArray) (acc M : List S35) (a b : Int), parseGo l acc = (some M, a, b) → Asc acc → acc.length ≤ 256 → (∀ d ∈ acc, GoodD d) → Asc M ∧ M.length ≤ 256 ∧ ∀ d ∈ M, GoodD d
  | [], acc, M, a, b, h, h1, h2, h3 => by
    rw [parseGo] at h
    cases h
    exact ⟨h1, h2, h3⟩
  | x :: xs, acc, M, a, b, h, h1, h2, h3 => by
    rw [parseGo] at h
    split at h
    · cases h
    · rename_i c
      cases hr : readS x with
      | none =>
        rw [hr] at h
        cases h
      | some d =>
        rw [hr] at h
        dsimp only at h
        split at h
        · cases h
        · rename_i c2
          have hd := readS_plain x d hr
          have ht := last_top acc d.f0 h1 (by omega)
          refine parse_good xs (acc ++ [d]) M a b h (List.pairwise_append.2 ⟨h1, List.pairwise_singleton _ _, fun y hy z hz => ?_⟩) (by rw [List.length_append, List.length_singleton]; omega) (fun y hy => ?_)
          · rw [List.mem_singleton.1 hz]
            exact ht y hy
          · rcases List.mem_append.1 hy with hy | hy
            · exact h3 y hy
            · rw [List.mem_singleton.1 hy]
              exact ⟨hd.1, hd.2.1⟩
set_option maxHeartbeats 8000000 in
set_option maxRecDepth 100000 in
theorem DecideTexts_bad (A0 : Option Addr) (c0 : Nat) (l0 : List S35) (s : ByteArray) (w : World) (hG : Glob w) (hr0 : Kd.C k35 w A0 l0.length l0) (hc0 : l0.length ≤ c0) (hv : ValidL l0) (hs : s.size ≤ 3000) (hok : ∀ d ∈ l0, 0 ≤ d.f0 ∧ d.f0 < 2 ^ 64) (er at_ : Int) (hp : parseGo (splitL s s.size 0 0 []) [] = (none, er, at_)) : Calls Tryd.prog 5 #[.slice A0 l0.length c0, .string s] w fun e w' => e = .returned (.bool true) ∧ KeptS w w' (fun _ => False) := by
  obtain ⟨kv, hkv⟩ := (valid36_ev l0 (by have := hv.1; omega)).rounds
  rw [decide_eq_true hv] at hkv
  have HKV := Aside0.mk hkv
  have hlen := hv.1
  have HG := Aside0.mk hG
  have HC0 := Aside0.mk hr0
  have HAD := Aside0.mk (fun W (hC : Kd.C k35 W A0 l0.length l0) => added_calls A0 c0 l0 W hC hc0 (by omega))
  have hA := addAll_asc l0 [] List.Pairwise.nil
  have hL := addAll_le l0 [] List.Pairwise.nil
  have hGD : ∀ d ∈ addAll [] l0, GoodD d := fun d hd => by
    rcases addAll_mem l0 [] d hd with q | q
    · cases q
    · exact ⟨hok d q.1, q.2⟩
  rw [List.length_nil, Nat.zero_add] at hL
  generalize addAll [] l0 = L at *
  have hPL : ∀ d ∈ L, PlainD d := fun d hd => by
    obtain ⟨_, z2, z3, _, _⟩ := fault_zero (hGD d hd).2
    exact ⟨(hGD d hd).1.1, (hGD d hd).1.2, by omega, by omega⟩
  have hpl := print_len L hGD
  have HPR := Aside0.mk (fun W ok base b hg hB => decide_Book_Print.calls W hg ok base b L hB hA.nodup (by omega) hPL)
  have hpp := parse_print L hGD hA (by omega) ⟨(printB L).toArray⟩ (by simp)
  have hz : (⟨(printB L).toArray⟩ : ByteArray).size ≤ 60000 := by rw [← ba_len]; simp; omega
  generalize (⟨(printB L).toArray⟩ : ByteArray) = P at *
  have HP1 : Aside0 (∀ W, Glob W → Calls Tryd.prog 11 #[.string P] W fun e w' => (∃ b, e = .returned (.tuple #[.pointer (some ⟨b, 0, none⟩), .int .i64 0, .int .i64 0]) ∧ BookAt w' (fun k => W.heap.size ≤ k ∧ k < w'.heap.size) W.heap.size b L) ∧ KeptS W w' (fun _ => False)) := ⟨fun W hW => (decide_Parse.calls P hz W hW).mono fun e w' q => by
    rw [hpp] at q
    obtain ⟨⟨L, h1, h3, h4, b, h5, h6⟩ | ⟨e1, a1, h1, h2⟩, hk⟩ := q
    · cases h1
      exact ⟨⟨b, h5, h6⟩, hk⟩
    · cases h1⟩
  obtain ⟨ks, hks⟩ := (same_ev L (by omega)).rounds
  have HKS := Aside0.mk hks
  have HASC := Aside0.mk hA
  have hne := parseGo_none _ _ _ _ hp
  have e1 : (er == 0) = false := beq_eq_false_iff_ne.2 hne
  have e2 : (er != 0) = true := bne_iff_ne.2 hne
  have HP2 : Aside0 (∀ W, Glob W → Calls Tryd.prog 11 #[.string s] W fun e w' => e = .returned (.tuple #[.pointer none, .int .i64 er, .int .i64 at_]) ∧ KeptS W w' (fun _ => False)) := ⟨fun W hW => (decide_Parse.calls s (by omega) W hW).mono fun e w' q => by
    rw [hp] at q
    obtain ⟨⟨L, h1, _⟩ | ⟨e1, a1, h1, h2⟩, hk⟩ := q
    · cases h1
    · cases h1
      exact ⟨h2, hk⟩⟩
  have g1 : decide ((s.size : Int) > 3000) = false := decide_eq_false (by omega)
  have g2 : decide (3000 < (s.size : Int)) = false := decide_eq_false (by omega)
  have g3 : decide (3000 < s.size) = false := decide_eq_false (by omega)
  clear hkv hG hv hks hA hGD hPL hpl hpp hz hok hs hp hne
  go_enter Tryd.func5, Tryd.ntmps5
  go_wp2_with (first | (go_at_call 20; go_loud ((with_reducible refine (treemergelaw36_valid.calls kv A0 c0 l0 true _ HC0.out hc0 HKV.out).mono ?_); rintro e w1 ⟨rfl, hb1⟩; have HK1 := Aside0.mk (KeptS.of_below hb1 (fun _ => False)); have HC1 := Aside0.mk (Kd.C_below HC0.out hb1); clear hb1)) | (go_at_call 21; go_loud ((with_reducible refine (HAD.out _ HC1.out).mono ?_); rintro e w2 ⟨b1, rfl, hbk2, hk2⟩; have HBK2 := Aside0.mk hbk2; have HK2 := Aside0.mk (HK1.out.then_ hk2 (fun _ h => h.elim)); have HG2 := Aside0.mk (Glob.keptGS HK2.out (fun _ h => h.elim) HG.out); clear hbk2 hk2)) | (go_at_call 22; go_loud ((with_reducible refine (HPR.out _ _ _ b1 HG2.out HBK2.out).mono ?_); rintro e w3 ⟨rfl, hb3⟩; have HBK3 := Aside0.mk (HBK2.out.below hb3); have HK3 := Aside0.mk (HK2.out.below hb3); have HG3 := Aside0.mk (Glob.keptGS HK3.out (fun _ h => h.elim) HG.out); clear hb3)) | (go_at_call 11; go_loud ((with_reducible refine (HP1.out _ HG3.out).mono ?_); rintro e w4 ⟨⟨b2, rfl, hbk4⟩, hk4⟩; have HPB4 := Aside0.mk hbk4; have HBK4 := Aside0.mk (HBK3.out.keptS hk4 (fun _ _ h => h)); have HK4 := Aside0.mk (HK3.out.then_ hk4 (fun _ h => h.elim)); clear hbk4 hk4)) | (go_at_call 14; go_loud ((with_reducible refine (decide_Book_List.calls _ _ _ b2 L HPB4.out HASC.out.nodup (by omega)).mono ?_); rintro e w5 ⟨v5, rfl, hr5, hb5⟩; obtain ⟨A5, c5, rfl⟩ := Kd.R_slice hr5; have HR5 := Aside0.mk hr5; have HK5 := Aside0.mk (HK4.out.below hb5); have HBK5 := Aside0.mk (HBK4.out.below hb5); clear hr5 hb5)) | (go_at_call 14; go_loud ((with_reducible refine (decide_Book_List.calls _ _ _ b1 L HBK5.out HASC.out.nodup (by omega)).mono ?_); rintro e w6 ⟨v6, rfl, hr6, hb6⟩; obtain ⟨A6, c6, rfl⟩ := Kd.R_slice hr6; have HR6 := Aside0.mk hr6; have HQ6 := Aside0.mk (Kd.R_below HR5.out hb6); have HK6 := Aside0.mk (HK5.out.below hb6); clear hr6 hb6)) | (go_at_call 13; go_loud ((with_reducible refine (treemergeref36_Same.calls ks _ _ L _ _ L true _ (Kd.R_reads' HQ6.out).2.2 (Kd.R_reads' HQ6.out).2.1 (Kd.R_reads' HR6.out).2.2 (Kd.R_reads' HR6.out).2.1 HKS.out).mono ?_); rintro e w7 ⟨rfl, hb7⟩; have HK7 := Aside0.mk (HK6.out.below hb7.below); have HG7 := Aside0.mk (Glob.keptGS HK7.out (fun _ h => h.elim) HG.out); clear hb7)) | (go_at_call 11; go_loud ((with_reducible refine (HP2.out _ HG7.out).mono ?_); rintro e w8 ⟨rfl, hk8⟩; have HK8 := Aside0.mk (HK7.out.then_ hk8 (fun _ h => h.elim)); have HG8 := Aside0.mk (Glob.keptGS HK8.out (fun _ h => h.elim) HG.out); clear hk8)) | (go_at_call 10; go_loud ((with_reducible refine (awake_calls _ HG8.out).mono ?_); rintro e w9 ⟨rfl, hk9⟩; have HK10 := Aside0.mk (HK8.out.then_ hk9 (fun _ h => h.elim)); clear hk9)))
  go_ret
  exact ⟨rfl, HK10.out⟩
set_option maxHeartbeats 8000000 in
set_option maxRecDepth 100000 in
theorem DecideTexts_good (A0 : Option Addr) (c0 : Nat) (l0 : List S35) (s : ByteArray) (w : World) (hG : Glob w) (hr0 : Kd.C k35 w A0 l0.length l0) (hc0 : l0.length ≤ c0) (hv : ValidL l0) (hs : s.size ≤ 3000) (hok : ∀ d ∈ l0, 0 ≤ d.f0 ∧ d.f0 < 2 ^ 64) (M : List S35) (hp : parseGo (splitL s s.size 0 0 []) [] = (some M, 0, 0)) : Calls Tryd.prog 5 #[.slice A0 l0.length c0, .string s] w fun e w' => e = .returned (.bool true) ∧ KeptS w w' (fun _ => False) := by
  obtain ⟨kv, hkv⟩ := (valid36_ev l0 (by have := hv.1; omega)).rounds
  rw [decide_eq_true hv] at hkv
  have HKV := Aside0.mk hkv
  have hlen := hv.1
  have HG := Aside0.mk hG
  have HC0 := Aside0.mk hr0
  have HAD := Aside0.mk (fun W (hC : Kd.C k35 W A0 l0.length l0) => added_calls A0 c0 l0 W hC hc0 (by omega))
  have hA := addAll_asc l0 [] List.Pairwise.nil
  have hL := addAll_le l0 [] List.Pairwise.nil
  have hGD : ∀ d ∈ addAll [] l0, GoodD d := fun d hd => by
    rcases addAll_mem l0 [] d hd with q | q
    · cases q
    · exact ⟨hok d q.1, q.2⟩
  rw [List.length_nil, Nat.zero_add] at hL
  generalize addAll [] l0 = L at *
  have hPL : ∀ d ∈ L, PlainD d := fun d hd => by
    obtain ⟨_, z2, z3, _, _⟩ := fault_zero (hGD d hd).2
    exact ⟨(hGD d hd).1.1, (hGD d hd).1.2, by omega, by omega⟩
  have hpl := print_len L hGD
  have HPR := Aside0.mk (fun W ok base b hg hB => decide_Book_Print.calls W hg ok base b L hB hA.nodup (by omega) hPL)
  have hpp := parse_print L hGD hA (by omega) ⟨(printB L).toArray⟩ (by simp)
  have hz : (⟨(printB L).toArray⟩ : ByteArray).size ≤ 60000 := by rw [← ba_len]; simp; omega
  generalize (⟨(printB L).toArray⟩ : ByteArray) = P at *
  have HP1 : Aside0 (∀ W, Glob W → Calls Tryd.prog 11 #[.string P] W fun e w' => (∃ b, e = .returned (.tuple #[.pointer (some ⟨b, 0, none⟩), .int .i64 0, .int .i64 0]) ∧ BookAt w' (fun k => W.heap.size ≤ k ∧ k < w'.heap.size) W.heap.size b L) ∧ KeptS W w' (fun _ => False)) := ⟨fun W hW => (decide_Parse.calls P hz W hW).mono fun e w' q => by
    rw [hpp] at q
    obtain ⟨⟨L, h1, h3, h4, b, h5, h6⟩ | ⟨e1, a1, h1, h2⟩, hk⟩ := q
    · cases h1
      exact ⟨⟨b, h5, h6⟩, hk⟩
    · cases h1⟩
  obtain ⟨ks, hks⟩ := (same_ev L (by omega)).rounds
  have HKS := Aside0.mk hks
  have HASC := Aside0.mk hA
  have hMP := parse_is_print s M 0 0 hp
  have HP2 : Aside0 (∀ W, Glob W → Calls Tryd.prog 11 #[.string s] W fun e w' => (∃ b, e = .returned (.tuple #[.pointer (some ⟨b, 0, none⟩), .int .i64 0, .int .i64 0]) ∧ BookAt w' (fun k => W.heap.size ≤ k ∧ k < w'.heap.size) W.heap.size b M) ∧ KeptS W w' (fun _ => False)) := ⟨fun W hW => (decide_Parse.calls s (by omega) W hW).mono fun e w' q => by
    rw [hp] at q
    obtain ⟨⟨L, h1, h3, h4, b, h5, h6⟩ | ⟨e1, a1, h1, h2⟩, hk⟩ := q
    · cases h1
      exact ⟨⟨b, h5, h6⟩, hk⟩
    · cases h1⟩
  have HPS : Aside0 (∀ (W : World) (ok : Nat → Prop) (base b : Nat), Glob W → BookAt W ok base b M → Calls Tryd.prog 22 #[.pointer (some ⟨b, 0, none⟩)] W fun e w' => e = .returned (.string s) ∧ Below W.heap.size W w') := ⟨fun W ok base b hg hB => by
    obtain ⟨h3, h4, h5⟩ := parse_good _ [] M 0 0 hp List.Pairwise.nil (Nat.zero_le _) (fun _ h => by cases h)
    have := decide_Book_Print.calls W hg ok base b M hB h3.nodup (by omega) (fun d hd => by
      obtain ⟨_, z2, z3, _, _⟩ := fault_zero (h5 d hd).2
      exact ⟨(h5 d hd).1.1, (h5 d hd).1.2, by omega, by omega⟩)
    rw [show (⟨(printB M).toArray⟩ : ByteArray) = s from ba_ext (by simpa using hMP)] at this
    exact this⟩
  clear hMP
  have g1 : decide ((s.size : Int) > 3000) = false := decide_eq_false (by omega)
  have g2 : decide (3000 < (s.size : Int)) = false := decide_eq_false (by omega)
  have g3 : decide (3000 < s.size) = false := decide_eq_false (by omega)
  clear hkv hG hv hks hA hGD hPL hpl hpp hz hok hs hp
  go_enter Tryd.func5, Tryd.ntmps5
  go_wp2_with (first | (go_at_call 20; go_loud ((with_reducible refine (treemergelaw36_valid.calls kv A0 c0 l0 true _ HC0.out hc0 HKV.out).mono ?_); rintro e w1 ⟨rfl, hb1⟩; have HK1 := Aside0.mk (KeptS.of_below hb1 (fun _ => False)); have HC1 := Aside0.mk (Kd.C_below HC0.out hb1); clear hb1)) | (go_at_call 21; go_loud ((with_reducible refine (HAD.out _ HC1.out).mono ?_); rintro e w2 ⟨b1, rfl, hbk2, hk2⟩; have HBK2 := Aside0.mk hbk2; have HK2 := Aside0.mk (HK1.out.then_ hk2 (fun _ h => h.elim)); have HG2 := Aside0.mk (Glob.keptGS HK2.out (fun _ h => h.elim) HG.out); clear hbk2 hk2)) | (go_at_call 22; go_loud ((with_reducible refine (HPR.out _ _ _ b1 HG2.out HBK2.out).mono ?_); rintro e w3 ⟨rfl, hb3⟩; have HBK3 := Aside0.mk (HBK2.out.below hb3); have HK3 := Aside0.mk (HK2.out.below hb3); have HG3 := Aside0.mk (Glob.keptGS HK3.out (fun _ h => h.elim) HG.out); clear hb3)) | (go_at_call 11; go_loud ((with_reducible refine (HP1.out _ HG3.out).mono ?_); rintro e w4 ⟨⟨b2, rfl, hbk4⟩, hk4⟩; have HPB4 := Aside0.mk hbk4; have HBK4 := Aside0.mk (HBK3.out.keptS hk4 (fun _ _ h => h)); have HK4 := Aside0.mk (HK3.out.then_ hk4 (fun _ h => h.elim)); clear hbk4 hk4)) | (go_at_call 14; go_loud ((with_reducible refine (decide_Book_List.calls _ _ _ b2 L HPB4.out HASC.out.nodup (by omega)).mono ?_); rintro e w5 ⟨v5, rfl, hr5, hb5⟩; obtain ⟨A5, c5, rfl⟩ := Kd.R_slice hr5; have HR5 := Aside0.mk hr5; have HK5 := Aside0.mk (HK4.out.below hb5); have HBK5 := Aside0.mk (HBK4.out.below hb5); clear hr5 hb5)) | (go_at_call 14; go_loud ((with_reducible refine (decide_Book_List.calls _ _ _ b1 L HBK5.out HASC.out.nodup (by omega)).mono ?_); rintro e w6 ⟨v6, rfl, hr6, hb6⟩; obtain ⟨A6, c6, rfl⟩ := Kd.R_slice hr6; have HR6 := Aside0.mk hr6; have HQ6 := Aside0.mk (Kd.R_below HR5.out hb6); have HK6 := Aside0.mk (HK5.out.below hb6); clear hr6 hb6)) | (go_at_call 13; go_loud ((with_reducible refine (treemergeref36_Same.calls ks _ _ L _ _ L true _ (Kd.R_reads' HQ6.out).2.2 (Kd.R_reads' HQ6.out).2.1 (Kd.R_reads' HR6.out).2.2 (Kd.R_reads' HR6.out).2.1 HKS.out).mono ?_); rintro e w7 ⟨rfl, hb7⟩; have HK7 := Aside0.mk (HK6.out.below hb7.below); have HG7 := Aside0.mk (Glob.keptGS HK7.out (fun _ h => h.elim) HG.out); clear hb7)) | (go_at_call 11; go_loud ((with_reducible refine (HP2.out _ HG7.out).mono ?_); rintro e w8 ⟨⟨b3, rfl, hbk8⟩, hk8⟩; have HPB8 := Aside0.mk hbk8; have HK8 := Aside0.mk (HK7.out.then_ hk8 (fun _ h => h.elim)); have HG8 := Aside0.mk (Glob.keptGS HK8.out (fun _ h => h.elim) HG.out); clear hbk8 hk8)) | (go_at_call 10; go_loud ((with_reducible refine (awake_calls _ HG8.out).mono ?_); rintro e w9 ⟨rfl, hk9⟩; have HK9 := Aside0.mk (HK8.out.then_ hk9 (fun _ h => h.elim)); have HPB9 := Aside0.mk (HPB8.out.keptS hk9 (fun _ _ h => h)); have HG9 := Aside0.mk (Glob.keptGS HK9.out (fun _ h => h.elim) HG.out); clear hk9)) | (go_at_call 22; go_loud ((with_reducible refine (HPS.out _ _ _ b3 HG9.out HPB9.out).mono ?_); rintro e w10 ⟨rfl, hb10⟩; have HK10 := Aside0.mk (HK9.out.below hb10); clear hb10)))
  go_ret
  exact ⟨rfl, HK10.out⟩
set_option maxHeartbeats 8000000 in
set_option maxRecDepth 100000 in
theorem DecideTexts_wide (A0 : Option Addr) (c0 : Nat) (l0 : List S35) (s : ByteArray) (w : World) (hG : Glob w) (hr0 : Kd.C k35 w A0 l0.length l0) (hc0 : l0.length ≤ c0) (hl : l0.length ≤ 140737488351232) (hv : ¬ ValidL l0) : Calls Tryd.prog 5 #[.slice A0 l0.length c0, .string s] w fun e w' => e = .returned (.bool true) ∧ KeptS w w' (fun _ => False) := by
  obtain ⟨kv, hkv⟩ := (valid36_ev l0 hl).rounds
  rw [decide_eq_false hv] at hkv
  have HKV := Aside0.mk hkv
  have HG := Aside0.mk hG
  have HC0 := Aside0.mk hr0
  clear hkv hG hv
  go_enter Tryd.func5, Tryd.ntmps5
  go_wp2_with (first | (go_at_call 20; go_loud ((with_reducible refine (treemergelaw36_valid.calls kv A0 c0 l0 false _ HC0.out hc0 HKV.out).mono ?_); rintro e w1 ⟨rfl, hb1⟩; have HK1 := Aside0.mk (KeptS.of_below hb1 (fun _ => False)); have HG1 := Aside0.mk (Glob.keptGS HK1.out (fun _ h => h.elim) HG.out); clear hb1)) | (go_at_call 10; go_loud ((with_reducible refine (awake_calls _ HG1.out).mono ?_); rintro e w9 ⟨rfl, hk9⟩; have HK9 := Aside0.mk (HK1.out.then_ hk9 (fun _ h => h.elim)); clear hk9)))
  go_ret
  exact ⟨rfl, HK9.out⟩
set_option maxHeartbeats 8000000 in
set_option maxRecDepth 100000 in
theorem DecideTexts_long (A0 : Option Addr) (c0 : Nat) (l0 : List S35) (s : ByteArray) (w : World) (hG : Glob w) (hr0 : Kd.C k35 w A0 l0.length l0) (hc0 : l0.length ≤ c0) (hl : l0.length ≤ 140737488351232) (hv : ValidL l0) (hs : ¬ s.size ≤ 3000) : Calls Tryd.prog 5 #[.slice A0 l0.length c0, .string s] w fun e w' => e = .returned (.bool true) ∧ KeptS w w' (fun _ => False) := by
  obtain ⟨kv, hkv⟩ := (valid36_ev l0 hl).rounds
  rw [decide_eq_true hv] at hkv
  have HKV := Aside0.mk hkv
  have HG := Aside0.mk hG
  have HC0 := Aside0.mk hr0
  have g1 : decide ((s.size : Int) > 3000) = true := decide_eq_true (by omega)
  have g2 : decide (3000 < (s.size : Int)) = true := decide_eq_true (by omega)
  have g3 : decide (3000 < s.size) = true := decide_eq_true (by omega)
  clear hkv hG hv hs
  go_enter Tryd.func5, Tryd.ntmps5
  go_wp2_with (first | (go_at_call 20; go_loud ((with_reducible refine (treemergelaw36_valid.calls kv A0 c0 l0 true _ HC0.out hc0 HKV.out).mono ?_); rintro e w1 ⟨rfl, hb1⟩; have HK1 := Aside0.mk (KeptS.of_below hb1 (fun _ => False)); have HG1 := Aside0.mk (Glob.keptGS HK1.out (fun _ h => h.elim) HG.out); clear hb1)) | (go_at_call 10; go_loud ((with_reducible refine (awake_calls _ HG1.out).mono ?_); rintro e w9 ⟨rfl, hk9⟩; have HK9 := Aside0.mk (HK1.out.then_ hk9 (fun _ h => h.elim)); clear hk9)))
  go_ret
  exact ⟨rfl, HK9.out⟩
theorem DecideTexts_row {w : World} (A0 : Option Addr) (c0 : Nat) (l0 : List S35) (hr0 : Kd.C k35 w A0 l0.length l0) (hc0 : l0.length ≤ c0) (hy : l0.length * 48 ≤ 140737488351232) (hok : ∀ x ∈ l0, (Lit.int .u64 x.f0).wf = true ∧ (Lit.int .i64 x.f1).wf = true ∧ x.f2.size ≤ 140737488351232 ∧ x.f3.size ≤ 140737488351232) (s : ByteArray) (hs : s.size ≤ 140737488351232) (hG : Glob w) : Calls Tryd.prog 5 #[.slice A0 l0.length c0, .string s] w fun e w' => e = .returned (.bool true) ∧ Below w.heap.size w w' := by
  by_cases hv : ValidL l0
  · by_cases hz : s.size ≤ 3000
    · have hr : ∀ d ∈ l0, 0 ≤ d.f0 ∧ d.f0 < 2 ^ 64 := fun d hd => by
        have := bounds_u64 (hok d hd).1
        omega
      obtain ⟨o, er, at_, e⟩ : ∃ o er at_, parseGo (splitL s s.size 0 0 []) [] = (o, er, at_) := ⟨_, _, _, rfl⟩
      cases o with
      | none => exact (DecideTexts_bad A0 c0 l0 s w hG hr0 hc0 hv hz hr er at_ e).mono fun e w' q => ⟨q.1, q.2.asBelow⟩
      | some L =>
        obtain ⟨rfl, rfl⟩ := parseGo_some _ _ _ _ _ e
        exact (DecideTexts_good A0 c0 l0 s w hG hr0 hc0 hv hz hr L e).mono fun e w' q => ⟨q.1, q.2.asBelow⟩
    · exact (DecideTexts_long A0 c0 l0 s w hG hr0 hc0 (by omega) hv hz).mono fun e w' q => ⟨q.1, q.2.asBelow⟩
  · exact (DecideTexts_wide A0 c0 l0 s w hG hr0 hc0 (by omega) hv).mono fun e w' q => ⟨q.1, q.2.asBelow⟩

end Go.Proofs.YtfajgjmhfpabiaaDoor.Scratch
