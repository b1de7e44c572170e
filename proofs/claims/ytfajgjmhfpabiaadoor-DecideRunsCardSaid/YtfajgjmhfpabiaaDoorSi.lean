/- Add in one contract, and the books of the laws: proved here by steps through the program's text; no condition but those that stand in each theorem. -/
import Derived.WalkSpells
import Derived.Deep.RegionLaw
import Derived.Lib.OthersKept
import Derived.Test.YtfajgjmhfpabiaaDoorShelf
import Derived.Test.YtfajgjmhfpabiaaDoorQ0
import Derived.Test.YtfajgjmhfpabiaaDoorQ4
import Derived.Test.YtfajgjmhfpabiaaDoorQ5
import Derived.Test.YtfajgjmhfpabiaaDoorSb
import Derived.Test.YtfajgjmhfpabiaaDoorSc
import Derived.Test.YtfajgjmhfpabiaaDoorSf
import Derived.Test.YtfajgjmhfpabiaaDoorSg
import Derived.Test.YtfajgjmhfpabiaaDoorSh
import Derived.Deep.QuietTactic
import Derived.BigQuiet
namespace Go.Proofs.YtfajgjmhfpabiaaDoor.Scratch
set_option linter.unusedVariables false
open Go.RowKit Go.Proofs.YtfajgjmhfpabiaaDoorW.PrintWords Go.Proofs.YtfajgjmhfpabiaaDoorW.PrintLast Go.Proofs.YtfajgjmhfpabiaaDoorW.PrintMore Go.Proofs.YtfajgjmhfpabiaaDoor.Q
attribute [local go_sem] max2_int min2_int max_two min_two max_three min_three max_four min_four
/-- What Add makes of a list, and its answer. -/
def bookAdd (L : List S35) (d : S35) : List S35 × Int := if faultS d.f1 d.f2 d.f3 ≠ 0 then (L, faultS d.f1 d.f2 d.f3) else if (bookIn L d.f0).isSome = true then (bookPut L d, 0) else if 256 ≤ L.length then (L, 3) else (bookPut L d, 0)
theorem bookAdd_asc (L : List S35) (d : S35) (h : Asc L) : Asc (bookAdd L d).1 := by
  unfold bookAdd
  repeat' split
  all_goals first | exact h | exact bookPut_asc L d h
theorem bookAdd_len (L : List S35) (d : S35) (h : Asc L) : (bookAdd L d).1.length ≤ max L.length 256 := by
  unfold bookAdd
  split
  · exact Nat.le_max_left _ _
  · split
    · rename_i q
      obtain ⟨d0, hd⟩ := Option.isSome_iff_exists.1 q
      rw [bookPut_len_in L d d0 h hd]
      exact Nat.le_max_left _ _
    · rename_i q
      split
      · exact Nat.le_max_left _ _
      · rename_i n
        have hd : bookIn L d.f0 = none := by simpa using q
        rw [bookPut_len_new L d h hd]
        omega
theorem add_calls (w : World) (ok : Nat → Prop) (base b : Nat) (L : List S35) (hB : BookAt w ok base b L) (ha : Asc L) (d : S35) (hfr : ∀ k, w.heap.size ≤ k → ok k) (hl9 : L.length ≤ 1000) : Calls Tryd.prog 17 #[.pointer (some ⟨b, 0, none⟩), .agg #[.int .u64 d.f0, .int .i64 d.f1, .string d.f2, .string d.f3]] w fun e w' => e = .returned (.int .i64 (bookAdd L d).2) ∧ BookAt w' ok base b (bookAdd L d).1 ∧ KeptS w w' ok := by
  have hf := fault_is d.f0 d.f1 d.f2 d.f3
  unfold bookAdd
  by_cases h0 : faultS d.f1 d.f2 d.f3 = 0
  · rw [if_neg (by simpa using h0)]
    rw [h0] at hf
    cases hin : bookIn L d.f0 with
    | some d0 =>
      rw [if_pos (by rfl)]
      exact addB w ok base b L hB ha d d0 1000 hf hin
    | none =>
      rw [if_neg (by simp)]
      by_cases hl : 256 ≤ L.length
      · rw [if_pos hl]
        exact (addC w ok base b L hB ha d hfr hl hl9 1000 hf hin).mono fun e w' q => ⟨q.1, hB.below q.2, KeptS.of_below q.2 _⟩
      · rw [if_neg hl]
        exact addD w ok base b L hB ha d hfr (by omega) 1000 hf hin
  · rw [if_pos h0]
    exact (addA w ok base b L hB d _ 1000 hf h0).mono fun e w' q => ⟨q.1, hB.below q.2, KeptS.of_below q.2 _⟩

theorem k35_heap : Kd.Heap k35 := by
  unfold k35
  repeat' first
    | exact Kd.heap_int _
    | exact Kd.heap_string
    | refine Kd.heap_iso _ ?_
    | refine Kd.heap_pair ?_ ?_
def addAll (L l : List S35) : List S35 := l.foldl (fun L d => (bookAdd L d).1) L
theorem addAll_asc : ∀ (l L : List S35), Asc L → Asc (addAll L l)
  | [], _, h => h
  | d :: l, L, h => addAll_asc l _ (bookAdd_asc L d h)
theorem addAll_len : ∀ (l L : List S35), Asc L → (addAll L l).length ≤ max L.length 256
  | [], _, _ => Nat.le_max_left _ _
  | d :: l, L, h => by
    have h1 := addAll_len l _ (bookAdd_asc L d h)
    have h2 := bookAdd_len L d h
    show (addAll (bookAdd L d).1 l).length ≤ _
    omega
theorem addAll_take (l : List S35) (k : Nat) (h : k < l.length) : addAll [] (l.take (k + 1)) = (bookAdd (addAll [] (l.take k)) l[k]).1 := by
  unfold addAll
  rw [List.take_succ_eq_append_getElem h, List.foldl_append]
  rfl
set_option maxHeartbeats 8000000 in
set_option maxRecDepth 100000 in
theorem added_calls (A0 : Option Addr) (c0 : Nat) (l0 : List S35) (w : World) (hr0 : Kd.C k35 w A0 l0.length l0) (hc0 : l0.length ≤ c0) (hl : l0.length ≤ 1000) : Calls Tryd.prog 21 #[.slice A0 l0.length c0] w fun e w' => ∃ b, e = .returned (.pointer (some ⟨b, 0, none⟩)) ∧ BookAt w' (fun k => w.heap.size ≤ k ∧ k < w'.heap.size) w.heap.size b (addAll [] l0) ∧ KeptS w w' (fun _ => False) := by
  have hC := Aside0.mk (C_keptS_came (S := fun k => w.heap.size ≤ k) k35_heap hr0 (Below.refl _ _) (fun _ h => h))
  clear hr0
  go_enter Tryd.func21, Tryd.ntmps21
  go_wp2_with (first | (go_at_call 16; ((with_reducible refine (decide_New.calls2 _).mono ?_); rintro e w1 ⟨b, rfl, hbk, hb1⟩; have HBK1 := Aside0.mk (hbk.mono (ok' := fun k => w.heap.size ≤ k) (fun k hk => hk.1)); have HK1 := Aside0.mk (KeptS.of_below hb1 (fun _ => False)); clear hbk hb1)))
  go_loopg [4] l0.length (fun gk v4 w' => ∃ k : Nat, v4 = .int .i64 k ∧ k + gk = l0.length ∧ Aside0 (BookAt w' (fun k => w.heap.size ≤ k) w.heap.size b (addAll [] (l0.take k))) ∧ Aside0 (KeptS w w' (fun _ => False)))
  case atStart => exact ⟨0, rfl, by omega, HBK1, HK1⟩
  case round =>
    obtain ⟨k, rfl, hk, HBK, HKP⟩ := hrel
    obtain ⟨go, rfl⟩ : ∃ go, go = gk := ⟨gk, rfl⟩
    have HK := Aside0.mk hk
    cases go with
    | zero =>
      have g1 : decide ((k : Int) < (l0.length : Int)) = false := decide_eq_false (by omega)
      have g2 : decide (k < l0.length) = false := decide_eq_false (by omega)
      have hT : l0.take k = l0 := List.take_of_length_le (by omega)
      rw [hT] at HBK
      clear hT hk
      go_wp2
      go_ret
      exact ⟨b, rfl, HBK.out.bound.mono (fun k hk => hk.2), HKP.out⟩
    | succ g =>
      have hkl : k < l0.length := by omega
      have g1 : decide ((k : Int) < (l0.length : Int)) = true := decide_eq_true (by omega)
      have g2 : decide (k < l0.length) = true := decide_eq_true (by omega)
      have p12 : 0 ≤ (k : Int) := by omega
      have q12 : (k : Int) < (l0.length : Int) := by omega
      have hCk := hC.out wr (HKP.out.mono (fun _ h => h.elim))
      obtain ⟨ad, e, hx0, hx1, hx2, hx3⟩ := at_T35 hCk (k : Int) p12 q12
      cases e
      have hrd : rd_T35 l0 (k : Int) = l0[k] := by simp [rd_T35, List.getD_eq_getElem?_getD, List.getElem?_eq_getElem hkl]
      rw [Int.toNat_natCast, hrd] at hx0 hx1 hx2 hx3
      have HT := Aside0.mk (addAll_take l0 k hkl)
      have hA := addAll_asc (l0.take k) [] List.Pairwise.nil
      have hN := addAll_len (l0.take k) [] List.Pairwise.nil
      have HAD := Aside0.mk (add_calls wr _ w.heap.size b _ HBK.out hA l0[k] (fun q hq => Nat.le_trans HKP.out.1 hq) (by simp at hN; omega))
      obtain ⟨x, hxe⟩ : ∃ x, x = l0[k] := ⟨_, rfl⟩
      rw [← hxe] at hx0 hx1 hx2 hx3 HT HAD
      have hwk : IntKind.i64.wrap ((k : Int) + 1) = (k : Int) + 1 := (i64_w _).trans (by unfold wrap64; omega)
      clear hxe hrd hk hCk hN hA
      go_wp2_with (go_at_call 17; go_loud ((with_reducible refine HAD.out.mono ?_); rintro e w6 ⟨rfl, hbk6, hk6⟩; have HBK6 := Aside0.mk hbk6; have HK6 := Aside0.mk hk6; clear hbk6 hk6))
      go_roundg g
      case measure => omega
      case rel => exact ⟨k + 1, by go_num, by have := HK.out; omega, ⟨by rw [HT.out]; exact HBK6.out⟩, ⟨HKP.out.then_ HK6.out (fun q hq => .inr hq)⟩⟩

end Go.Proofs.YtfajgjmhfpabiaaDoor.Scratch
