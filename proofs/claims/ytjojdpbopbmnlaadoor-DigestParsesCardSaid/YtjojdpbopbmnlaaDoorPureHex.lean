/- The hexadecimal form: what is read, what is written. -/
import Derived.Test.YtjojdpbopbmnlaaDoorPureBase
import Derived.Laws.Bits64
namespace Go.Proofs.YtjojdpbopbmnlaaDoor.Pure
open Go.RowKit Go.Proofs.YtjojdpbopbmnlaaDoor.Q Go.Proofs.YtjojdpbopbmnlaaDoorW.PrintWords Go.Proofs.YtjojdpbopbmnlaaDoorW.PrintLast

theorem upto_spec (c : Nat) (h : c < 256) : upto (c : Int) 16 = if 48 ≤ c ∧ c ≤ 57 then (c : Int) - 48 else if 97 ≤ c ∧ c ≤ 102 then (c : Int) - 87 else -1 := by
  have : ∀ c : Nat, c < 256 → upto (c : Int) 16 = if 48 ≤ c ∧ c ≤ 57 then (c : Int) - 48 else if 97 ≤ c ∧ c ≤ 102 then (c : Int) - 87 else -1 := by decide +kernel
  exact this c h
theorem upto_lt (c : Nat) (h : c < 256) : upto (c : Int) 16 < 16 := by
  rw [upto_spec c h]
  split
  · omega
  · split <;> omega
theorem upto_back (c : Nat) (h : c < 256) (h0 : 0 ≤ upto (c : Int) 16) : digv (upto (c : Int) 16).toNat = c := by
  have : ∀ c : Nat, c < 256 → 0 ≤ upto ((c : Nat) : Int) 16 → digv (upto (c : Int) 16).toNat = c := by decide +kernel
  exact this c h h0
theorem upto_digv (v : Nat) (h : v < 16) : upto (digv v) 16 = v := by
  have : ∀ v : Nat, v < 16 → upto (digv v) 16 = (v : Int) := by decide +kernel
  exact this v h
theorem bt_nat (s : ByteArray) (i : Int) : ∃ c : Nat, c < 256 ∧ bt s i = (c : Int) := by
  unfold bt
  split
  · exact ⟨_, UInt8.toNat_lt _, rfl⟩
  · exact ⟨0, by decide, rfl⟩
theorem digit_ev (c : Nat) (h : c < 256) : Ev (fun k => treemergeref02_digit.f k (c : Int)) (upto (c : Int) 16) := by
  rw [upto_spec c h]
  unfold treemergeref02_digit.f
  by_cases h1 : 48 ≤ c
  · refine Ev.pos (by omega) ?_
    by_cases h2 : c ≤ 57
    · rw [if_pos ⟨h1, h2⟩]
      refine Ev.step (fun k => by rw [treemergeref02_digit.j0, if_pos (decide_eq_true (by omega)), show wrap64 (wrap64 (c : Int) - 48) = (c : Int) - 48 from by unfold wrap64; omega]) (Ev.now _)
    · rw [if_neg (by omega)]
      by_cases h3 : 97 ≤ c ∧ c ≤ 102
      · rw [if_pos h3]
        refine Ev.step (fun k => by rw [treemergeref02_digit.j0, if_neg (by simp; omega), if_pos (by omega), if_pos (by omega), show wrap64 (wrap64 (wrap64 (c : Int) - 97) + 10) = (c : Int) - 87 from by unfold wrap64; omega]) (Ev.now _)
      · rw [if_neg h3]
        by_cases h4 : 97 ≤ c
        · exact Ev.step (fun k => by rw [treemergeref02_digit.j0, if_neg (by simp; omega), if_pos (by omega), if_neg (by omega)]) (Ev.now _)
        · exact Ev.step (fun k => by rw [treemergeref02_digit.j0, if_neg (by simp; omega), if_neg (by omega)]) (Ev.now _)
  · refine Ev.neg (by omega) ?_
    rw [if_neg (by omega), if_neg (by omega)]
    exact Ev.step (fun k => by rw [treemergeref02_digit.j0, if_neg (by simp), if_neg (by omega)]) (Ev.now _)
theorem join16 (x k : Int) (hk0 : 0 ≤ k) (hk : k < 16) : Go.bits .or .u64 (IntKind.u64.wrap (x * 16)) (IntKind.u64.wrap k) = IntKind.u64.wrap (IntKind.u64.wrap (x * 16) + IntKind.u64.wrap k) := by
  have hw : IntKind.u64.wrap k = k := by rw [IntKind.wrap_u64]; omega
  rw [hw, bits_join .u64 64 (by decide) wraps_u64 4 _ _ (by rw [IntKind.wrap_u64]; omega) (by rw [IntKind.wrap_u64]; omega) (by rw [IntKind.wrap_u64]; omega) hk0 (by omega) (by omega)]
  rw [IntKind.wrap_u64, IntKind.wrap_u64]
  omega
theorem rparse_loop (s : ByteArray) (hs : s.size = 16) : ∀ (g i : Nat) (n : Int), i + g = 16 → Ev (fun k => treemergeref02_Parse.l0 k s n (i : Int)) (parseL s g (i : Int) n) := by
  intro g
  induction g with
  | zero =>
    intro i n hi
    exact Ev.step (fun k => by rw [treemergeref02_Parse.l0, if_neg (by omega)]; rfl) (Ev.now _)
  | succ g ih =>
    intro i n hi
    obtain ⟨c, hc, e⟩ := bt_nat s (i : Int)
    refine Ev.step (fun k => by rw [treemergeref02_Parse.l0, if_pos (by omega), if_pos (by omega), if_pos (by omega), wrap_up (n := 16) (by omega) (by omega) (by omega), e]) ?_
    refine (digit_ev c hc).bind ?_
    rw [parseL, e]
    by_cases h : upto (c : Int) 16 < 0
    · rw [if_pos h]
      exact Ev.pos h (Ev.now _)
    · rw [if_neg h]
      refine Ev.neg h ?_
      rw [join16 _ _ (by omega) (upto_lt c hc)]
      exact ih (i + 1) _ (by omega)
theorem rparse_ev (s : ByteArray) : Ev (fun k => treemergeref02_Parse.f k s) (if s.size = 16 then parseL s 16 0 0 else (0, 1)) := by
  unfold treemergeref02_Parse.f
  by_cases h : s.size = 16
  · rw [if_pos h]
    exact Ev.pos (by omega) (rparse_loop s h 16 0 0 (by omega))
  · rw [if_neg h]
    exact Ev.neg (by omega) (Ev.now _)
theorem parse_eq (s : ByteArray) : digest_Parse.f s = some (if s.size = 16 then parseL s 16 0 0 else (0, 1)) := by
  unfold digest_Parse.f
  by_cases h : s.size = 16
  · rw [if_pos h, if_pos (by omega)]
  · rw [if_neg h, if_neg (by omega)]
theorem parses_law (s : ByteArray) : Ev (fun k => treemergelaw02_DigestParses.f k s) true := by
  unfold treemergelaw02_DigestParses.f
  rw [parse_eq]
  simp only [Option.bind_some]
  exact (rparse_ev s).bind (Ev.pos rfl (Ev.pos rfl (awake_ev.bind (Ev.now _))))

theorem or16 (n k : Int) (hn0 : 0 ≤ n) (hn : n < 2 ^ 60) (hk0 : 0 ≤ k) (hk : k < 16) : Go.bits .or .u64 (IntKind.u64.wrap (n * 16)) (IntKind.u64.wrap k) = n * 16 + k := by
  rw [join16 n k hk0 hk, IntKind.wrap_u64, IntKind.wrap_u64, IntKind.wrap_u64]
  omega
theorem pow16 (g : Nat) : (2 : Int) ^ (4 * g) = 16 ^ g := by
  rw [Int.pow_mul]
  rfl
theorem nib_16 (d : Int) (i g : Nat) (h : i + (g + 1) = 16) : nib d i = d / 16 ^ g % 16 := by
  unfold nib
  rw [show 60 - 4 * i = 4 * g from by omega, pow16]
theorem pow_le (i : Nat) (h : i ≤ 15) : (16 : Int) ^ i ≤ 2 ^ 60 := by
  have : ∀ i : Nat, i ≤ 15 → (16 : Int) ^ i ≤ 2 ^ 60 := by
    intro i hi
    have : ∀ i : Nat, i < 16 → (16 : Int) ^ i ≤ 2 ^ 60 := by decide +kernel
    exact this i (by omega)
  exact this i h
theorem div_step (d : Int) (g : Nat) : d / 16 ^ (g + 1) = d / 16 ^ g / 16 := by
  rw [Int.pow_succ, Int.ediv_ediv_of_nonneg]
  exact Int.pow_nonneg (by decide)
/-- What is read of what is written. -/
theorem bt_hex (d : Int) (i : Nat) (h : i < 16) : bt (hexS d) (i : Int) = digv (nib d i).toNat := by
  have hl : i < (hexS d).data.toList.length := by simp [hexS]; omega
  rw [bt_get _ i hl]
  have hx := digv_range (nib d i).toNat
  simp only [hexS, hexc, List.getElem_map, List.getElem_range]
  simp
  omega
theorem parse_hex (d : Int) (h0 : 0 ≤ d) (h1 : d < 2 ^ 64) : ∀ (g i : Nat), i + g = 16 → parseL (hexS d) g (i : Int) (d / 16 ^ g) = (d, 0) := by
  intro g
  induction g with
  | zero =>
    intro i _
    simp [parseL]
  | succ g ih =>
    intro i hi
    have hn := nib_16 d i g hi
    have n0 := nib_lo d i
    have n1 := nib_hi d i
    have e : bt (hexS d) (i : Int) = digv (nib d i).toNat := bt_hex d i (by omega)
    have e2 : upto (bt (hexS d) (i : Int)) 16 = nib d i := by
      rw [e, upto_digv _ (by omega)]
      omega
    rw [parseL, e2, if_neg (by omega)]
    have hq : 0 ≤ d / 16 ^ (g + 1) := Int.ediv_nonneg h0 (Int.pow_nonneg (by decide))
    have hq2 : d / 16 ^ (g + 1) < 2 ^ 60 := by
      rw [Int.ediv_lt_iff_lt_mul (Int.pow_pos (by decide))]
      have : (16 : Int) ≤ 16 ^ (g + 1) := by
        have h2 : (1 : Int) ≤ 16 ^ g := Int.pow_pos (n := 16) (by decide)
        rw [Int.pow_succ]
        omega
      omega
    rw [or16 _ _ hq hq2 n0 n1]
    have e3 : d / 16 ^ (g + 1) * 16 + nib d i = d / 16 ^ g := by
      rw [div_step, hn]
      omega
    rw [e3]
    exact ih (i + 1) (by omega)
/-- What is written of what was read. -/
theorem parse_back (s : ByteArray) : ∀ (g i : Nat) (n m : Int), i + g = 16 → 0 ≤ n → n < 16 ^ i → parseL s g (i : Int) n = (m, 0) → m / 16 ^ g = n ∧ 0 ≤ m ∧ m < 2 ^ 64 ∧ ∀ j : Nat, i ≤ j → j < 16 → digv (nib m j).toNat = bt s (j : Int) := by
  intro g
  induction g with
  | zero =>
    intro i n m hi h0 h1 h
    simp only [parseL, Prod.mk.injEq, and_true] at h
    subst h
    have : i = 16 := by omega
    subst this
    refine ⟨by simp, h0, by simpa using h1, fun j h2 h3 => by omega⟩
  | succ g ih =>
    intro i n m hi h0 h1 h
    obtain ⟨c, hc, e⟩ := bt_nat s (i : Int)
    rw [parseL, e] at h
    by_cases hk : upto (c : Int) 16 < 0
    · rw [if_pos hk] at h
      simp at h
    · rw [if_neg hk] at h
      have hk0 : 0 ≤ upto (c : Int) 16 := by omega
      have hk1 := upto_lt c hc
      have hp := pow_le i (by omega)
      rw [or16 _ _ h0 (by omega) hk0 hk1] at h
      obtain ⟨q1, q2, q3, q4⟩ := ih (i + 1) (n * 16 + upto (c : Int) 16) m (by omega) (by omega) (by rw [Int.pow_succ]; omega) h
      have hni : nib m i = upto (c : Int) 16 := by
        rw [nib_16 m i g hi, q1]
        omega
      refine ⟨by rw [div_step, q1]; omega, q2, q3, fun j h2 h3 => ?_⟩
      by_cases hj : j = i
      · subst hj
        rw [hni, upto_back c hc hk0, e]
      · exact q4 j (by omega) h3
theorem hex_back (s : ByteArray) (m : Int) (hs : s.size = 16) (h : parseL s 16 0 0 = (m, 0)) : (0 ≤ m ∧ m < 2 ^ 64) ∧ (hexS m).toList = s.toList := by
  obtain ⟨_, h0, h1, h2⟩ := parse_back s 16 0 0 m (by omega) (by omega) (by decide) h
  refine ⟨⟨h0, h1⟩, ?_⟩
  rw [toList_eq, toList_eq]
  apply List.ext_getElem
  · simp [hexS, hs]
  · intro i q1 q2
    have hi : i < 16 := by simpa [hexS] using q1
    have := h2 i (by omega) hi
    rw [← bt_hex m i hi, bt_get _ i q1, bt_get _ i q2] at this
    exact UInt8.toNat_inj.1 (by omega)
theorem hexS_size (d : Int) : (hexS d).size = 16 := by
  have : (hexS d).data.toList.length = 16 := by simp [hexS]
  simpa using this
theorem hex_law (d : Int) (s : ByteArray) (hd : (Lit.int .u64 d).wf = true) : Ev (fun k => treemergelaw02_DigestHex.f k d s) true := by
  have hd' : 0 ≤ d ∧ d < 2 ^ 64 := by
    simp [Lit.wf, IntKind.min, IntKind.max, IntKind.bits, IntKind.signed] at hd
    omega
  unfold treemergelaw02_DigestHex.f
  rw [hex_ev d hd']
  simp only [Option.bind_some]
  rw [parse_eq, hexS_size]
  have e : parseL (hexS d) 16 0 0 = (d, 0) := by
    have := parse_hex d hd'.1 hd'.2 16 0 (by omega)
    have e0 : d / 16 ^ 16 = 0 := by
      have : d < 16 ^ 16 := by omega
      exact Int.ediv_eq_zero_of_lt hd'.1 this
    rw [e0] at this
    exact this
  simp only [if_pos, e, Option.bind_some]
  refine Ev.pos (by decide) (Ev.step (fun k => by rw [treemergelaw02_DigestHex.j0, if_neg (by simp)]) ?_)
  rw [parse_eq]
  simp only [Option.bind_some]
  by_cases hs : s.size = 16
  · simp only [if_pos hs]
    obtain ⟨m, f, hm⟩ : ∃ m f, parseL s 16 0 0 = (m, f) := ⟨_, _, rfl⟩
    rw [hm]
    by_cases hf : f = 0
    · subst hf
      obtain ⟨h1, h2⟩ := hex_back s m hs hm
      refine Ev.pos rfl ?_
      rw [hex_ev m h1]
      simp only [Option.bind_some]
      exact Ev.pos h2 (awake_ev.bind (Ev.now _))
    · exact Ev.neg hf (awake_ev.bind (Ev.now _))
  · simp only [if_neg hs]
    exact Ev.neg (by decide) (awake_ev.bind (Ev.now _))
end Go.Proofs.YtjojdpbopbmnlaaDoor.Pure
