/- Hexadecimal forms and the form of a line: proved here by steps through the program's text; no condition but those that stand in each theorem. -/
import Derived.WalkSpells
import Derived.Deep.RegionLaw
import Derived.Lib.OthersKept
import Derived.Test.YtfajgjmhfpabiaaDoorShelf
import Derived.Test.YtfajgjmhfpabiaaDoorQ0
import Derived.Test.YtfajgjmhfpabiaaDoorQ4
import Derived.Test.YtfajgjmhfpabiaaDoorQ5
import Derived.Test.YtfajgjmhfpabiaaDoorSc
import Derived.Laws.Bits64
namespace Go.Proofs.YtfajgjmhfpabiaaDoor.Scratch
set_option linter.unusedVariables false
open Go.RowKit Go.Proofs.YtfajgjmhfpabiaaDoorW.PrintWords Go.Proofs.YtfajgjmhfpabiaaDoorW.PrintLast Go.Proofs.YtfajgjmhfpabiaaDoorW.PrintMore Go.Proofs.YtfajgjmhfpabiaaDoor.Q
attribute [local go_sem] max2_int min2_int max_two min_two max_three min_three max_four min_four
theorem bt_get (s : ByteArray) (i : Nat) (h : i < s.data.toList.length) : bt s (i : Int) = ((s.data.toList[i]).toNat : Int) := by
  have h' : i < s.size := by simpa using h
  unfold bt
  simp only [Int.toNat_natCast]
  rw [dif_pos h']
  rfl
theorem toList_eq (s : ByteArray) : s.toList = s.data.toList := ByteArray.toList_eq s
theorem upto_spec (c : Nat) (h : c < 256) : upto (c : Int) 16 = if 48 ≤ c ∧ c ≤ 57 then (c : Int) - 48 else if 97 ≤ c ∧ c ≤ 102 then (c : Int) - 87 else -1 := by
  have : ∀ c : Nat, c < 256 → upto (c : Int) 16 = if 48 ≤ c ∧ c ≤ 57 then (c : Int) - 48 else if 97 ≤ c ∧ c ≤ 102 then (c : Int) - 87 else -1 := by decide +kernel
  exact this c h
theorem upto_lt (c : Nat) (h : c < 256) : upto (c : Int) 16 < 16 := by
  rw [upto_spec c h]
  split
  · omega
  · split <;> omega
theorem upto_back (c : Nat) (h : c < 256) (h0 : 0 ≤ upto (c : Int) 16) : digv (upto (c : Int) 16).toNat = c := by
  have : ∀ c : Nat, c < 256 → 0 ≤ upto ((c : Nat) : Int) 16 → digv (upto (c : Int) 16).toNat = c := by decide +kernel
  exact this c h h0
theorem upto_digv (v : Nat) (h : v < 16) : upto (digv v) 16 = v := by
  have : ∀ v : Nat, v < 16 → upto (digv v) 16 = (v : Int) := by decide +kernel
  exact this v h
theorem bt_nat (s : ByteArray) (i : Int) : ∃ c : Nat, c < 256 ∧ bt s i = (c : Int) := by
  unfold bt
  split
  · exact ⟨_, UInt8.toNat_lt _, rfl⟩
  · exact ⟨0, by decide, rfl⟩
theorem join16 (x k : Int) (hk0 : 0 ≤ k) (hk : k < 16) : Go.bits .or .u64 (IntKind.u64.wrap (x * 16)) (IntKind.u64.wrap k) = IntKind.u64.wrap (IntKind.u64.wrap (x * 16) + IntKind.u64.wrap k) := by
  have hw : IntKind.u64.wrap k = k := by rw [IntKind.wrap_u64]; omega
  rw [hw, bits_join .u64 64 (by decide) wraps_u64 4 _ _ (by rw [IntKind.wrap_u64]; omega) (by rw [IntKind.wrap_u64]; omega) (by rw [IntKind.wrap_u64]; omega) hk0 (by omega) (by omega)]
  rw [IntKind.wrap_u64, IntKind.wrap_u64]
  omega
theorem or16 (n k : Int) (hn0 : 0 ≤ n) (hn : n < 2 ^ 60) (hk0 : 0 ≤ k) (hk : k < 16) : Go.bits .or .u64 (IntKind.u64.wrap (n * 16)) (IntKind.u64.wrap k) = n * 16 + k := by
  rw [join16 n k hk0 hk, IntKind.wrap_u64, IntKind.wrap_u64, IntKind.wrap_u64]
  omega
theorem pow16 (g : Nat) : (2 : Int) ^ (4 * g) = 16 ^ g := by
  rw [Int.pow_mul]
  rfl
theorem nib_16 (d : Int) (i g : Nat) (h : i + (g + 1) = 16) : nib d i = d / 16 ^ g % 16 := by
  unfold nib
  rw [show 60 - 4 * i = 4 * g from by omega, pow16]
theorem pow_le (i : Nat) (h : i ≤ 15) : (16 : Int) ^ i ≤ 2 ^ 60 := by
  have : ∀ i : Nat, i ≤ 15 → (16 : Int) ^ i ≤ 2 ^ 60 := by
    intro i hi
    have : ∀ i : Nat, i < 16 → (16 : Int) ^ i ≤ 2 ^ 60 := by decide +kernel
    exact this i (by omega)
  exact this i h
theorem div_step (d : Int) (g : Nat) : d / 16 ^ (g + 1) = d / 16 ^ g / 16 := by
  rw [Int.pow_succ, Int.ediv_ediv_of_nonneg]
  exact Int.pow_nonneg (by decide)
/-- What is read of what is written. -/
theorem bt_hex (d : Int) (i : Nat) (h : i < 16) : bt (hexS d) (i : Int) = digv (nib d i).toNat := by
  have hl : i < (hexS d).data.toList.length := by simp [hexS]; omega
  rw [bt_get _ i hl]
  have hx := digv_range (nib d i).toNat
  simp only [hexS, hexc, List.getElem_map, List.getElem_range]
  simp
  omega
theorem parse_hex (d : Int) (h0 : 0 ≤ d) (h1 : d < 2 ^ 64) : ∀ (g i : Nat), i + g = 16 → parseL (hexS d) g (i : Int) (d / 16 ^ g) = (d, 0) := by
  intro g
  induction g with
  | zero =>
    intro i _
    simp [parseL]
  | succ g ih =>
    intro i hi
    have hn := nib_16 d i g hi
    have n0 := nib_lo d i
    have n1 := nib_hi d i
    have e : bt (hexS d) (i : Int) = digv (nib d i).toNat := bt_hex d i (by omega)
    have e2 : upto (bt (hexS d) (i : Int)) 16 = nib d i := by
      rw [e, upto_digv _ (by omega)]
      omega
    rw [parseL, e2, if_neg (by omega)]
    have hq : 0 ≤ d / 16 ^ (g + 1) := Int.ediv_nonneg h0 (Int.pow_nonneg (by decide))
    have hq2 : d / 16 ^ (g + 1) < 2 ^ 60 := by
      rw [Int.ediv_lt_iff_lt_mul (Int.pow_pos (by decide))]
      have : (16 : Int) ≤ 16 ^ (g + 1) := by
        have h2 : (1 : Int) ≤ 16 ^ g := Int.pow_pos (n := 16) (by decide)
        rw [Int.pow_succ]
        omega
      omega
    rw [or16 _ _ hq hq2 n0 n1]
    have e3 : d / 16 ^ (g + 1) * 16 + nib d i = d / 16 ^ g := by
      rw [div_step, hn]
      omega
    rw [e3]
    exact ih (i + 1) (by omega)
/-- What is written of what was read. -/
theorem parse_back (s : ByteArray) : ∀ (g i : Nat) (n m : Int), i + g = 16 → 0 ≤ n → n < 16 ^ i → parseL s g (i : Int) n = (m, 0) → m / 16 ^ g = n ∧ 0 ≤ m ∧ m < 2 ^ 64 ∧ ∀ j : Nat, i ≤ j → j < 16 → digv (nib m j).toNat = bt s (j : Int) := by
  intro g
  induction g with
  | zero =>
    intro i n m hi h0 h1 h
    simp only [parseL, Prod.mk.injEq, and_true] at h
    subst h
    have : i = 16 := by omega
    subst this
    refine ⟨by simp, h0, by simpa using h1, fun j h2 h3 => by omega⟩
  | succ g ih =>
    intro i n m hi h0 h1 h
    obtain ⟨c, hc, e⟩ := bt_nat s (i : Int)
    rw [parseL, e] at h
    by_cases hk : upto (c : Int) 16 < 0
    · rw [if_pos hk] at h
      simp at h
    · rw [if_neg hk] at h
      have hk0 : 0 ≤ upto (c : Int) 16 := by omega
      have hk1 := upto_lt c hc
      have hp := pow_le i (by omega)
      rw [or16 _ _ h0 (by omega) hk0 hk1] at h
      obtain ⟨q1, q2, q3, q4⟩ := ih (i + 1) (n * 16 + upto (c : Int) 16) m (by omega) (by omega) (by rw [Int.pow_succ]; omega) h
      have hni : nib m i = upto (c : Int) 16 := by
        rw [nib_16 m i g hi, q1]
        omega
      refine ⟨by rw [div_step, q1]; omega, q2, q3, fun j h2 h3 => ?_⟩
      by_cases hj : j = i
      · subst hj
        rw [hni, upto_back c hc hk0, e]
      · exact q4 j (by omega) h3
theorem hex_back (s : ByteArray) (m : Int) (hs : s.size = 16) (h : parseL s 16 0 0 = (m, 0)) : (0 ≤ m ∧ m < 2 ^ 64) ∧ (hexS m).toList = s.toList := by
  obtain ⟨_, h0, h1, h2⟩ := parse_back s 16 0 0 m (by omega) (by omega) (by decide) h
  refine ⟨⟨h0, h1⟩, ?_⟩
  rw [toList_eq, toList_eq]
  apply List.ext_getElem
  · simp [hexS, hs]
  · intro i q1 q2
    have hi : i < 16 := by simpa [hexS] using q1
    have := h2 i (by omega) hi
    rw [← bt_hex m i hi, bt_get _ i q1, bt_get _ i q2] at this
    exact UInt8.toNat_inj.1 (by omega)

def okc (lo : Int) (c : UInt8) : Bool := decide (lo ≤ (c.toNat : Int)) && decide ((c.toNat : Int) ≤ 126)
theorem printable_is (s : ByteArray) (lo : Int) (hs : s.size < 2 ^ 62) (m : Nat) : ∀ (g i : Nat), i + g = s.size → decide_printable.l0 (g + 1 + m) s lo (i : Int) = some ((s.data.toList.drop i).all (okc lo))
  | 0, i, h => by
    rw [show 0 + 1 + m = m + 1 by omega, decide_printable.l0, if_neg (by omega), List.drop_of_length_le (by rw [Array.length_toList]; show s.size ≤ i; omega)]
    rfl
  | g + 1, i, h => by
    have hi : i < s.size := by omega
    have hl : i < s.data.toList.length := by rw [Array.length_toList]; exact hi
    have hb : bt s (i : Int) = ((s.data.toList[i]'hl).toNat : Int) := by
      rw [bt_idx s i hi]
      rfl
    have hw : wrap64 ((i : Int) + 1) = ((i + 1 : Nat) : Int) := by
      unfold wrap64
      omega
    rw [show g + 1 + 1 + m = (g + 1 + m) + 1 by omega, decide_printable.l0, if_pos (by omega), if_pos (by omega), hb, hw, printable_is s lo hs m g (i + 1) (by omega), List.drop_eq_getElem_cons hl, List.all_cons]
    by_cases c1 : ((s.data.toList[i]'hl).toNat : Int) < lo
    · rw [if_pos c1, okc, decide_eq_false (by omega)]
      rfl
    · rw [if_neg c1]
      by_cases c2 : ((s.data.toList[i]'hl).toNat : Int) > 126
      · rw [if_pos c2, okc, decide_eq_true (show lo ≤ _ by omega), decide_eq_false (show ¬ ((s.data.toList[i]'hl).toNat : Int) ≤ 126 by omega)]
        rfl
      · rw [if_neg c2, okc, decide_eq_true (show lo ≤ _ by omega), decide_eq_true (show ((s.data.toList[i]'hl).toNat : Int) ≤ 126 by omega)]
        rfl
def faultS (a1 : Int) (a2 a3 : ByteArray) : Int :=
  if a1 ≠ 1 ∧ a1 ≠ 2 then 2 else if a2.toList = [] then 1 else if (a2.size : Int) > 32 then 1 else if (a2.data.toList.all (okc 33)) = true then (if (a3.size : Int) > 200 then 1 else if (a3.data.toList.all (okc 32)) = true then 0 else 1) else 1
theorem fault_is (a0 a1 : Int) (a2 a3 : ByteArray) : decide_fault.f 1000 a0 a1 a2 a3 = some (faultS a1 a2 a3) := by
  have hj : ∀ x, decide_fault.j0 1000 x a0 a1 a2 a3 = some (if x = true then 2 else if a2.toList = [] then 1 else if (a2.size : Int) > 32 then 1 else if (a2.data.toList.all (okc 33)) = true then (if (a3.size : Int) > 200 then 1 else if (a3.data.toList.all (okc 32)) = true then 0 else 1) else 1) := fun x => by
    rw [decide_fault.j0]
    by_cases c0 : x = true
    · rw [if_pos c0, if_pos c0]
    · rw [if_neg c0, if_neg c0]
      by_cases c1 : a2.toList = []
      · rw [if_pos c1, if_pos c1]
      · rw [if_neg c1, if_neg c1]
        by_cases c2 : (a2.size : Int) > 32
        · rw [if_pos c2, if_pos c2]
        · rw [if_neg c2, if_neg c2]
          have h2 := printable_is a2 33 (by omega) (998 - a2.size) a2.size 0 (by omega)
          rw [show a2.size + 1 + (998 - a2.size) = 999 by omega, List.drop_zero] at h2
          rw [decide_printable.f, show (0 : Int) = ((0 : Nat) : Int) from rfl, h2, Option.bind_some]
          by_cases c3 : a2.data.toList.all (okc 33) = true
          · rw [if_pos c3, if_pos c3]
            by_cases c4 : (a3.size : Int) > 200
            · rw [if_pos c4, if_pos c4]
            · rw [if_neg c4, if_neg c4]
              have h3 := printable_is a3 32 (by omega) (998 - a3.size) a3.size 0 (by omega)
              rw [show a3.size + 1 + (998 - a3.size) = 999 by omega, List.drop_zero] at h3
              rw [decide_printable.f, show (0 : Int) = ((0 : Nat) : Int) from rfl, h3, Option.bind_some]
              by_cases c5 : a3.data.toList.all (okc 32) = true
              · rw [if_pos c5, if_pos c5]
              · rw [if_neg c5, if_neg c5]
          · rw [if_neg c3, if_neg c3]
  unfold decide_fault.f faultS
  by_cases h1 : a1 = 1
  · rw [if_pos h1, hj]
    simp [h1]
  · rw [if_neg h1, hj]
    by_cases h2 : a1 = 2
    · simp [h2]
    · have : (a1 != 2) = true := bne_iff_ne.2 h2
      simp [h1, h2]

end Go.Proofs.YtfajgjmhfpabiaaDoor.Scratch
