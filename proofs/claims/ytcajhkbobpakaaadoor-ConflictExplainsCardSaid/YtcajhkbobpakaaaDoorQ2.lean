-- Written by a program of this session (mk.py) out of the translation; Lean checks it.
import Derived.Test.YtcajhkbobpakaaaDoorQ0
namespace Go.Proofs.YtcajhkbobpakaaaDoor.Q
open Go.RowKit Go.Proofs.YtcajhkbobpakaaaDoorW.PrintWords Go.Proofs.YtcajhkbobpakaaaDoorW.PrintLast Go.Proofs.YtcajhkbobpakaaaDoorW.PrintMore
attribute [local go_sem] max2_int min2_int max_two min_two max_three min_three max_four min_four   -- for this text's walks alone
set_option linter.unusedVariables false
set_option linter.unusedSimpArgs false

/-! ### lines_Split: function 58 (by hand) -/
theorem bt_idx (s : ByteArray) (i : Nat) (h : i < s.size) : bt s (i : Int) = ((s[i]'h).toNat : Int) := by
  unfold bt
  rw [dif_pos (by simpa using h)]
  simp
theorem get_idx (s : ByteArray) (i : Nat) (h : i < s.size) : (s.get! i).toNat = (s[i]'h).toNat := by
  congr 1
  show s.data[i]! = _
  rw [getElem!_pos s.data i (by simpa using h)]
  rfl
theorem decode_hi3 (s : ByteArray) (pos : Nat) (h : pos < s.size) (ha : 128 ≤ (s[pos]'h).toNat) : 128 ≤ (Utf8.decode s pos).1 ∧ (Utf8.decode s pos).1 ≤ 1114111 ∧ 1 ≤ (Utf8.decode s pos).2 := by
  have e : (s.get! (pos + 0)).toNat = (s[pos]'h).toNat := get_idx s pos h
  unfold Utf8.decode
  simp only [e]
  rw [if_neg (by omega)]
  repeat' split
  all_goals simp_all [Utf8.runeError, Utf8.valid]
  all_goals omega
theorem decode_span (s : ByteArray) (pos : Nat) (h : pos < s.size) (ha : 128 ≤ (s[pos]'h).toNat) : pos + (Utf8.decode s pos).2 ≤ s.size ∧ ∀ j, pos ≤ j → j < pos + (Utf8.decode s pos).2 → bt s (j : Int) ≠ 10 := by
  have hi : ∀ k, (pos + k < s.size ∧ (s.get! (pos + k)).toNat / 64 = 2) → bt s ((pos + k : Nat) : Int) ≠ 10 := fun k hk => by
    rw [bt_idx s (pos + k) hk.1, ← get_idx s (pos + k) hk.1]
    omega
  have h0 : bt s (pos : Int) ≠ 10 := by
    rw [bt_idx s pos h]
    omega
  have e : (s.get! (pos + 0)).toNat = (s[pos]'h).toNat := get_idx s pos h
  have one : pos + 1 ≤ s.size ∧ ∀ j, pos ≤ j → j < pos + 1 → bt s (j : Int) ≠ 10 := ⟨by omega, fun j q1 q2 => by
    have : j = pos := by omega
    rw [this]
    exact h0⟩
  have two : (pos + 1 < s.size ∧ (s.get! (pos + 1)).toNat / 64 = 2) → pos + 2 ≤ s.size ∧ ∀ j, pos ≤ j → j < pos + 2 → bt s (j : Int) ≠ 10 := fun q => ⟨by omega, fun j q1 q2 => by
    rcases Nat.lt_or_ge j (pos + 1) with c | c
    · exact one.2 j q1 c
    · have : j = pos + 1 := by omega
      rw [this]
      exact hi 1 q⟩
  have three : (pos + 1 < s.size ∧ (s.get! (pos + 1)).toNat / 64 = 2) → (pos + 2 < s.size ∧ (s.get! (pos + 2)).toNat / 64 = 2) → pos + 3 ≤ s.size ∧ ∀ j, pos ≤ j → j < pos + 3 → bt s (j : Int) ≠ 10 := fun q r => ⟨by omega, fun j q1 q2 => by
    rcases Nat.lt_or_ge j (pos + 2) with c | c
    · exact (two q).2 j q1 c
    · have : j = pos + 2 := by omega
      rw [this]
      exact hi 2 r⟩
  have four : (pos + 1 < s.size ∧ (s.get! (pos + 1)).toNat / 64 = 2) → (pos + 2 < s.size ∧ (s.get! (pos + 2)).toNat / 64 = 2) → (pos + 3 < s.size ∧ (s.get! (pos + 3)).toNat / 64 = 2) → pos + 4 ≤ s.size ∧ ∀ j, pos ≤ j → j < pos + 4 → bt s (j : Int) ≠ 10 := fun q r t => ⟨by omega, fun j q1 q2 => by
    rcases Nat.lt_or_ge j (pos + 3) with c | c
    · exact (three q r).2 j q1 c
    · have : j = pos + 3 := by omega
      rw [this]
      exact hi 3 t⟩
  unfold Utf8.decode
  simp only [e]
  rw [if_neg (by omega)]
  clear hi h0
  split
  · rename_i c
    simp only [Bool.and_eq_true, decide_eq_true_eq, beq_iff_eq] at c
    split
    · exact two c.2
    · exact one
  · split
    · rename_i c
      simp only [Bool.and_eq_true, decide_eq_true_eq, beq_iff_eq] at c
      split
      · exact three c.1.2 c.2
      · exact one
    · split
      · rename_i c
        simp only [Bool.and_eq_true, decide_eq_true_eq, beq_iff_eq] at c
        split
        · exact four c.1.1.2 c.1.2 c.2
        · exact one
      · exact one
def splitL (s : ByteArray) : Nat → Nat → Nat → List ByteArray → List ByteArray
  | 0, _, fr, out => if fr < s.size then out ++ [s.extract fr s.size] else out
  | g + 1, i, fr, out => if bt s (i : Int) = 10 then splitL s g (i + 1) (i + 1) (out ++ [s.extract fr (i + 1)]) else splitL s g (i + 1) fr out
theorem splitL_skip (s : ByteArray) : ∀ (d g i fr : Nat) (out : List ByteArray), (∀ j, i ≤ j → j < i + d → bt s (j : Int) ≠ 10) → splitL s (d + g) i fr out = splitL s g (i + d) fr out
  | 0, g, i, fr, out, _ => by simp
  | d + 1, g, i, fr, out, h => by
    rw [show d + 1 + g = (d + g) + 1 by omega, splitL, if_neg (h i (Nat.le_refl _) (by omega)), splitL_skip s d g (i + 1) fr out (fun j q1 q2 => h j (by omega) (by omega)), show i + 1 + d = i + (d + 1) by omega]
set_option maxHeartbeats 8000000 in
set_option maxRecDepth 100000 in
theorem lines_Split.calls0 (s : ByteArray) (w : World) (hs : s.size ≤ 1000000) : Calls Tryd.prog 58 #[.string s] w fun e w' => ∃ v, e = .returned v ∧ Kd.R Kd.string 9 w' w.heap.size (fun _ => True) v (splitL s s.size 0 0 []) ∧ Below w.heap.size w w' := by
  obtain ⟨LS, hLS⟩ : ∃ LS, LS = splitL s s.size 0 0 [] := ⟨_, rfl⟩
  rw [← hLS]
  have HLS := Aside0.mk hLS
  clear hLS
  go_enter Tryd.func58, Tryd.ntmps58
  go_wp2
  go_loopg [3, 4] s.size (fun gk v3 v4 w' => ∃ (i fr : Nat) (out : List ByteArray), v4 = .int .i64 fr ∧ fr ≤ i ∧ i + gk = s.size ∧ out.length ≤ i ∧ Aside0 (w'.heap[w.heap.size]? = some (.stringIter s i)) ∧ Aside0 (Kd.R Kd.string 9 w' w.heap.size (fun k => k ≠ w.heap.size) v3 out) ∧ Aside0 (splitL s gk i fr out = LS) ∧ Aside0 (Below w.heap.size w w'))
  case atStart =>
    refine ⟨0, 0, [], rfl, Nat.le_refl _, by omega, by simp, ⟨blk_new _ _⟩, ⟨Kd.R_nil _ _ _ _ _⟩, ⟨HLS.out.symm⟩, ⟨below_alloc (Below.refl _ _) _⟩⟩
  case round =>
    obtain ⟨i, fr, out, rfl, hfr, hi, hol, HI, HO, HV, HB1⟩ := hrel
    obtain ⟨go, rfl⟩ : ∃ go, go = gk := ⟨gk, rfl⟩
    have HX := Aside0.mk hi
    cases go with
    | zero =>
      have hnx := fun ty => Lib.run_next_end_at (P := Tryd.prog) wr w.heap.size s i ty HI.out (by omega)
      have hv := HV.out
      rw [splitL] at hv
      by_cases c : fr < s.size
      · rw [if_pos c] at hv
        have g1 : decide ((fr : Int) < (s.size : Int)) = true := decide_eq_true (by omega)
        have g2 : decide (fr < s.size) = true := decide_eq_true c
        obtain ⟨Ao, co, eo⟩ := Kd.R_slice HO.out
        subst eo
        have HHV := Aside0.mk hv
        have hb44 : out.length < 8796093022208 := by omega
        have hq1 : ((fr : Int) ≤ (s.size : Int)) = True := eq_true (by omega)
        have hwl : w.heap.size < wr.heap.size := blk_lt HI.out
        have HF := Aside0.mk (show ∀ k, wr.heap.size ≤ k → k ≠ w.heap.size from fun k hk e => by omega)
        have HWL := Aside0.mk hwl
        have HON := Aside0.mk (show some w.heap.size ≠ (Value.slice Ao out.length co).ownBlock from fun e => (HO.out.1 _ e.symm) rfl)
        have HO2 := HO
        have HB2 := HB1
        have HI2 := HI
        clear hi hv hwl
        go_wp2_with ((with_reducible refine gate_builtin (b := .append) (xs := #[.tmp 29, .tmp 33]) rfl ?_); at_builtin; go_loud (refine Kd.R_append Kd.string (w0 := w) w.heap.size rfl (.tmp 29) (.tmp 33) 28 9 (.string ⟨#[]⟩) 16 rfl Tryd.underlying28 info9 rfl (by decide) (by omega) (.slice Ao out.length co) out (s.extract fr s.size) [.string (s.extract fr s.size)] (fun k => k ≠ w.heap.size) (fun _ => False) rfl rfl ?aP (fun _ hk => hk.elim) ?aF ?aO ?aB ?aS ?aL ?_; (case aP => exact rfl); (case aF => exact (fun k hk e => HF.out k hk e)); (case aO => exact (by (with_reducible repeat (first | apply Kd.R_alloc | apply Kd.R_drewN | apply Kd.R_drew)); exact HO2.out)); (case aB => exact (by repeat (first | (with_reducible first | exact HB2.out | apply below_alloc | apply pw_below_drewN | apply below_drew1) | exact HB2.out))); (case aS => exact (below_size (by repeat (first | (with_reducible first | exact HB2.out | apply below_alloc | apply pw_below_drewN | apply below_drew1) | exact HB2.out)))); (case aL => omega); intro v9 w9 ho hb hg hat; have HO9 := Aside0.mk ho; have HB9 := Aside0.mk hb; have HI9 := Aside0.mk (show w9.heap[w.heap.size]? = _ from (hg.block w.heap.size HWL.out (fun e => HON.out e)).trans HI2.out); clear ho hb hg hat))
        go_ret
        exact ⟨_, rfl, by rw [← HHV.out]; exact Kd.R_mono HO9.out (fun _ _ => trivial), HB9.out⟩
      · rw [if_neg c] at hv
        have g1 : decide ((fr : Int) < (s.size : Int)) = false := decide_eq_false (by omega)
        have g2 : decide (fr < s.size) = false := decide_eq_false c
        subst hv
        clear hi
        go_wp2
        go_ret
        exact ⟨_, rfl, Kd.R_mono HO.out (fun _ _ => trivial), HB1.out⟩
    | succ g =>
      have hlt : i < s.size := by omega
      have hwl : w.heap.size < wr.heap.size := blk_lt HI.out
      by_cases ha : (s[i]'hlt).toNat < 128
      · have hnx := fun ty => Lib.run_next_ascii_at (P := Tryd.prog) wr w.heap.size s i ty HI.out hlt ha
        have hv := HV.out
        rw [splitL, bt_idx s i hlt] at hv
        obtain ⟨c, hc⟩ : ∃ c : Nat, c = (s[i]'hlt).toNat := ⟨_, rfl⟩
        rw [← hc] at hnx hv ha
        clear hc
        have HI2 := Aside0.mk (Lib.iterAt_heap wr w.heap.size s i (i + 1) HI.out)
        have HB2 := Aside0.mk (Lib.below_iterAt HB1.out (Nat.le_refl _) s (i + 1))
        by_cases h10 : (c : Int) = 10
        · rw [if_pos h10] at hv
          have x1 : ((c : Int) == 10) = true := beq_iff_eq.mpr h10
          have x2 : ((c : Int) != 10) = false := bne_eq_false_iff_eq.mpr h10
          obtain ⟨Ao, co, eo⟩ := Kd.R_slice HO.out
          subst eo
          have HO2 := Aside0.mk (Kd.R_step (w1 := wr.iterAt w.heap.size s (i + 1)) HO.out (fun k hk _ => Lib.iterAt_other wr w.heap.size k s (i + 1) hk))
          have HV' := Aside0.mk hv
          have HF := Aside0.mk (show ∀ k, (wr.iterAt w.heap.size s (i + 1)).heap.size ≤ k → k ≠ w.heap.size from fun k hk e => by rw [Lib.iterAt_size] at hk; omega)
          have HWL := Aside0.mk (show w.heap.size < (wr.iterAt w.heap.size s (i + 1)).heap.size by rw [Lib.iterAt_size]; exact hwl)
          have HON := Aside0.mk (show some w.heap.size ≠ (Value.slice Ao out.length co).ownBlock from fun e => (HO.out.1 _ e.symm) rfl)
          have hb44 : out.length < 8796093022208 := by omega
          have hw1 : IntKind.i64.wrap ((i : Int) + 1) = (i : Int) + 1 := (i64_w _).trans (by unfold wrap64; omega)
          have hq1 : ((fr : Int) ≤ (i : Int) + 1) = True := eq_true (by omega)
          have hq2 : ((i : Int) + 1 ≤ (s.size : Int)) = True := eq_true (by omega)
          have hq3 : ((i : Int) + 1).toNat = i + 1 := by omega
          have HFR := Aside0.mk hfr
          clear hv hi h10 hwl
          go_wp2_with ((with_reducible refine gate_builtin (b := .append) (xs := #[.tmp 15, .tmp 21]) rfl ?_); at_builtin; go_loud (refine Kd.R_append Kd.string (w0 := w) w.heap.size rfl (.tmp 15) (.tmp 21) 28 9 (.string ⟨#[]⟩) 16 rfl Tryd.underlying28 info9 rfl (by decide) (by omega) (.slice Ao out.length co) out (s.extract fr (i + 1)) [.string (s.extract fr (i + 1))] (fun k => k ≠ w.heap.size) (fun _ => False) rfl rfl ?aP (fun _ hk => hk.elim) ?aF ?aO ?aB ?aS ?aL ?_; (case aP => exact rfl); (case aF => exact (fun k hk e => HF.out k hk e)); (case aO => exact (by (with_reducible repeat (first | apply Kd.R_alloc | apply Kd.R_drewN | apply Kd.R_drew)); exact HO2.out)); (case aB => exact (by repeat (first | (with_reducible first | exact HB2.out | apply below_alloc | apply pw_below_drewN | apply below_drew1) | exact HB2.out))); (case aS => exact (below_size (by repeat (first | (with_reducible first | exact HB2.out | apply below_alloc | apply pw_below_drewN | apply below_drew1) | exact HB2.out)))); (case aL => omega); intro v9 w9 ho hb hg hat; have HO9 := Aside0.mk ho; have HB9 := Aside0.mk hb; have HI9 := Aside0.mk (show w9.heap[w.heap.size]? = _ from (hg.block w.heap.size HWL.out (fun e => HON.out e)).trans HI2.out); clear ho hb hg hat))
          go_roundg g
          case measure => omega
          case rel => exact ⟨i + 1, i + 1, out ++ [s.extract fr (i + 1)], by rw [Int.natCast_add, Int.natCast_one], Nat.le_refl _, by have := HX.out; omega, by simp; omega, HI9, HO9, HV', HB9⟩
        · rw [if_neg h10] at hv
          have x1 : ((c : Int) == 10) = false := beq_eq_false_iff_ne.mpr h10
          have x2 : ((c : Int) != 10) = true := bne_iff_ne.mpr h10
          have HO2 := Aside0.mk (Kd.R_step (w1 := wr.iterAt w.heap.size s (i + 1)) HO.out (fun k hk _ => Lib.iterAt_other wr w.heap.size k s (i + 1) hk))
          have HV' := Aside0.mk hv
          have HFR := Aside0.mk hfr
          clear hv hi h10
          go_wp2
          go_roundg g
          case measure => omega
          case rel => exact ⟨i + 1, fr, out, rfl, by have := HFR.out; omega, by have := HX.out; omega, by omega, HI2, HO2, HV', HB2⟩
      · have hnx := fun ty => Lib.run_next_any_at (P := Tryd.prog) wr w.heap.size s i ty HI.out hlt
        obtain ⟨q1, q2, q3⟩ := decode_hi3 s i hlt (by omega)
        obtain ⟨q4, q5⟩ := decode_span s i hlt (by omega)
        obtain ⟨c, hc⟩ : ∃ c : Nat, c = (Utf8.decode s i).1 := ⟨_, rfl⟩
        obtain ⟨dd, hd⟩ : ∃ dd : Nat, dd = (Utf8.decode s i).2 := ⟨_, rfl⟩
        rw [← hc, ← hd] at hnx
        rw [← hc] at q1 q2
        rw [← hd] at q3 q4 q5
        clear hc hd ha
        have hv := HV.out
        have e : g + 1 = dd + (s.size - (i + dd)) := by omega
        rw [e, splitL_skip s dd _ i fr out q5] at hv
        have HI2 := Aside0.mk (Lib.iterAt_heap wr w.heap.size s i (i + dd) HI.out)
        have HB2 := Aside0.mk (Lib.below_iterAt HB1.out (Nat.le_refl _) s (i + dd))
        have x1 : ((c : Int) == 10) = false := beq_eq_false_iff_ne.mpr (by omega)
        have x2 : ((c : Int) != 10) = true := bne_iff_ne.mpr (by omega)
        have HO2 := Aside0.mk (Kd.R_step (w1 := wr.iterAt w.heap.size s (i + dd)) HO.out (fun k hk _ => Lib.iterAt_other wr w.heap.size k s (i + dd) hk))
        have HV' := Aside0.mk hv
        have HFR := Aside0.mk hfr
        have HQ3 := Aside0.mk q3
        have HQ4 := Aside0.mk q4
        clear hv hi q5 e q1 q2 q3 q4
        go_wp2
        go_roundg (s.size - (i + dd))
        case measure => have := HX.out; have := HQ3.out; have := HQ4.out; omega
        case rel => exact ⟨i + dd, fr, out, rfl, by have := HFR.out; omega, by have := HQ4.out; omega, by omega, HI2, HO2, HV', HB2⟩
def lines_Split.f (s : ByteArray) : Option (List ByteArray) := if s.size ≤ 1000000 then some (splitL s s.size 0 0 []) else none
theorem lines_Split.calls (a0 : ByteArray) (r : List ByteArray) (w : World) (h : lines_Split.f a0 = some r) : Calls Tryd.prog 58 #[.string a0] w fun e w' => ∃ v0_ : Value, e = .returned (v0_) ∧ Kd.R Kd.string 9 w' w.heap.size (fun _ => True) v0_ r ∧ Below w.heap.size w w' := by
  unfold lines_Split.f at h
  split at h
  · rename_i c
    obtain rfl := Option.some.inj h
    exact lines_Split.calls0 a0 w c
  · cases h

/-! ### strings_TrimSuffix: function 59 (by hand) -/
def strings_TrimSuffix.f (a b : ByteArray) : Option ByteArray := if a.size ≤ 9223372036854775807 then some ⟨(Lib.trimSuffix a.data.toList b.data.toList).toArray⟩ else none
theorem strings_TrimSuffix.calls (a0 a1 : ByteArray) (r : ByteArray) (w : World) (h : strings_TrimSuffix.f a0 a1 = some r) : Calls Tryd.prog 59 #[.string a0, .string a1] w fun e w' => e = .returned (.string r) ∧ Below w.heap.size w w' := by
  unfold strings_TrimSuffix.f at h
  split at h
  · rename_i c
    obtain rfl := Option.some.inj h
    refine (Tryd.strings_TrimSuffix a0 a1 w c).mono fun e w' q => ?_
    obtain ⟨h1, rfl⟩ := q
    exact ⟨h1, Below.refl _ _⟩
  · cases h

/-! ### conflict_version: function 35 -/
def conflict_version.l0 : Nat → ByteArray → List ByteArray → List ByteArray → Int → Int → Option (List ByteArray)
  | 0, _, _, _, _, _ => none
  | k + 1, x0, x5, x14, x15, x16 => if x16 < x15 then (if 0 ≤ x16 then (if x16 < (x14.length : Int) then (if x0.size + 2 ≤ 9223372036854775807 then ((strings_TrimSuffix.f (rdOf ByteArray.empty x14 x16) (⟨#[10]⟩ : ByteArray)).bind fun t122 => (if (x0 ++ (⟨#[58, 32]⟩ : ByteArray)).size + t122.size ≤ 9223372036854775807 then (if ((x0 ++ (⟨#[58, 32]⟩ : ByteArray)) ++ t122).size + 1 ≤ 9223372036854775807 then (if x5.length < 8796093022208 then (conflict_version.l0 k x0 (x5 ++ [((x0 ++ (⟨#[58, 32]⟩ : ByteArray)) ++ t122) ++ (⟨#[10]⟩ : ByteArray)]) x14 x15 (wrap64 (x16 + 1))) else (none)) else (none)) else (none))) else (none)) else (none)) else (none)) else (some x5)
def conflict_version.f (k : Nat) (a0 : ByteArray) (a1 : ByteArray) : Option (List ByteArray) := if a1.toList = ([] : List UInt8) then (if a0.size + 9 ≤ 9223372036854775807 then (some (([a0 ++ (⟨#[58, 32, 40, 110, 111, 110, 101, 41, 10]⟩ : ByteArray)] : List ByteArray))) else (none)) else ((lines_Split.f a1).bind fun t118 => (conflict_version.l0 k a0 ([] : List ByteArray) t118 (t118.length : Int) 0))
theorem conflict_version.mono_l : ∀ k, (∀ y0 y1 y2 y3 y4, LeO (conflict_version.l0 k y0 y1 y2 y3 y4) (conflict_version.l0 (k + 1) y0 y1 y2 y3 y4))
  | 0 => fun _ _ _ _ _ r h => by simp [conflict_version.l0] at h
  | k + 1 => by
    have ih0 := conflict_version.mono_l k
    · intro y0 y1 y2 y3 y4
      unfold conflict_version.l0
      repeat' first
      | (with_reducible exact ih0 _ _ _ _ _)
      | (with_reducible exact LeO.refl _)
      | (with_reducible exact LeO.none _)
      | (with_reducible refine LeO.ite ?_ ?_)
      | (with_reducible refine LeO.bind ?_ (fun _ => ?_))
      | exact ih0 _ _ _ _ _
      | exact LeO.none _
      | refine LeO.ite ?_ ?_
      | refine LeO.bind ?_ (fun _ => ?_)
theorem conflict_version.mono : ∀ a0 a1 k, LeO (conflict_version.f k a0 a1) (conflict_version.f (k + 1) a0 a1) := by
  intro a0 a1 k
  have ih0 := conflict_version.mono_l k
  unfold conflict_version.f
  repeat' first
      | (with_reducible exact ih0 _ _ _ _ _)
      | (with_reducible exact LeO.refl _)
      | (with_reducible exact LeO.none _)
      | (with_reducible refine LeO.ite ?_ ?_)
      | (with_reducible refine LeO.bind ?_ (fun _ => ?_))
      | exact ih0 _ _ _ _ _
      | exact LeO.none _
      | refine LeO.ite ?_ ?_
      | refine LeO.bind ?_ (fun _ => ?_)
set_option maxHeartbeats 8000000 in
set_option maxRecDepth 100000 in
theorem conflict_version.calls (k : Nat) (a0 : ByteArray) (a1 : ByteArray) (r : List ByteArray) (w : World) (h : conflict_version.f k a0 a1 = some r) :
    Calls Tryd.prog 35 #[.string a0, .string a1] w fun e w' => ∃ v0_ : Value, e = .returned (v0_) ∧ Kd.R Kd.string 9 w' w.heap.size (fun _ => True) v0_ r ∧ Below w.heap.size w w' := by
  have HB := Aside0.mk (Below.refl w.heap.size w)
  have H : (if a1.toList = ([] : List UInt8) then (if a0.size + 9 ≤ 9223372036854775807 then (some (([a0 ++ (⟨#[58, 32, 40, 110, 111, 110, 101, 41, 10]⟩ : ByteArray)] : List ByteArray))) else (none)) else ((lines_Split.f a1).bind fun t118 => (conflict_version.l0 k a0 ([] : List ByteArray) t118 (t118.length : Int) 0))) = some r := h
  clear h
  by_cases c3 : a1.toList = ([] : List UInt8)
  · rw [if_pos c3] at H
    have c3b0 : (a1.toList == ([] : List UInt8)) = true := beq_iff_eq.mpr c3
    have c3b1 : (a1.toList != ([] : List UInt8)) = false := bne_eq_false_iff_eq.mpr c3
    clear c3
    by_cases c4 : a0.size + 9 ≤ 9223372036854775807
    · rw [if_pos c4] at H
      have c4b0 := eq_true c4
      have c4b1 : decide (a0.size + 9 ≤ 9223372036854775807) = true := decide_eq_true c4
      try have c4b2 : (9223372036854775807 < a0.size + 9) = False := eq_false (Nat.not_lt.2 c4)
      obtain ⟨y115, hy115⟩ : ∃ y_ : List ByteArray, y_ = (([a0 ++ (⟨#[58, 32, 40, 110, 111, 110, 101, 41, 10]⟩ : ByteArray)] : List ByteArray)) := ⟨_, rfl⟩
      replace H : (some y115) = some r := by first | (rw [hy115]; with_reducible exact H) | (have H2_ := (Option.bind_some _ _).symm.trans H; rw [hy115]; with_reducible exact H2_) | (have H2_ := (Option.bind_some _ _).symm.trans H; with_reducible exact H2_) | with_reducible exact H | (rw [hy115]; exact H) | exact H
      have Ny115 := Aside0.mk hy115
      clear hy115
      obtain rfl := Option.some.inj H
      go_enter Tryd.func35, Tryd.ntmps35
      go_wp2_with (first | ((with_reducible refine gate_dst (N := 12) rfl ?_); refine Kd.R_lit Kd.string _ 9 ?hg (N := 12) ?hd (xs := ([a0 ++ (⟨#[58, 32, 40, 110, 111, 110, 101, 41, 10]⟩ : ByteArray)] : List ByteArray)) (inner := [.string (a0 ++ (⟨#[58, 32, 40, 110, 111, 110, 101, 41, 10]⟩ : ByteArray))]) (ok := fun _ => True) (okp := fun _ => True) ?hr ?hp (fun _ hk => hk) trivial (Below.refl _ _) (Nat.le_refl _) (by simp) ?_; (case hd => rfl); (case hg => rfl); (case hr => first | (go_simp; done) | (go_simp; rfl) | (obtain ⟨_, _, rfl⟩ := Kd.R_slice (Aside0.out (by assumption : Aside0 (Kd.R _ _ _ _ _ _ _))); go_simp; done)); (case hp => exact (Reps.one (show Kd.M Kd.string _ _ _ (a0 ++ (⟨#[58, 32, 40, 110, 111, 110, 101, 41, 10]⟩ : ByteArray)) [.string (a0 ++ (⟨#[58, 32, 40, 110, 111, 110, 101, 41, 10]⟩ : ByteArray))] from rfl) (Reps.none _ _))); intro v116 w5 ho6 hb hg_ hnew_; clear hg_ hnew_; (first | rw [← Ny115.out] at ho6 | (simp only [Int.reduceToNat] at ho6; rw [← Ny115.out] at ho6)); have n0_ := Aside0.mk (Kd.R_lower ho6 (below_size (by repeat (first | (with_reducible first | exact HB.out | apply below_alloc | apply pw_below_drewN | apply below_drew1) | exact HB.out)))); have n1_ := Aside0.mk (below_step (by repeat (first | (with_reducible first | exact HB.out | apply below_alloc | apply pw_below_drewN | apply below_drew1) | exact HB.out)) hb); clear HB; have HO117 := n0_; have HB := n1_; clear n0_ n1_; clear hb ho6))
      go_ret
      exact ⟨_, by first | rfl | (simp [errW_none, errW_some] <;> rfl) | (simp [*, errW_none, errW_some] <;> rfl), by (with_reducible repeat (first | apply Kd.R_alloc | apply Kd.R_drewN | apply Kd.R_drew)); exact HO117.out, by repeat (first | (with_reducible first | exact HB.out | apply below_alloc | apply pw_below_drewN | apply below_drew1) | exact HB.out)⟩
    · rw [if_neg c4] at H
      exact absurd H (by simp)
  · rw [if_neg c3] at H
    have c3b0 : (a1.toList == ([] : List UInt8)) = false := beq_eq_false_iff_ne.mpr c3
    have c3b1 : (a1.toList != ([] : List UInt8)) = true := bne_iff_ne.mpr c3
    replace H := Option.bind_eq_some_iff.mp H
    obtain ⟨t118, A70, H⟩ := H
    replace H : (conflict_version.l0 k a0 ([] : List ByteArray) t118 (t118.length : Int) 0) = some r := H
    have A7 := Aside0.mk A70
    clear A70
    have H' := Aside0.mk H
    clear H
    go_enter Tryd.func35, Tryd.ntmps35
    go_wp2_with (first | ((with_reducible refine gate_callee (f := 58) rfl ?_); refine goesL_ (some 14) rfl rfl Tryd.func58 (by kernel_rfl) rfl #[.string a1] rfl (by (try simp only [List.map_toArray, List.map_cons, List.map_nil]); first | done | rfl | (simp only [List.length_drop, List.length_take]; rfl)) ?_; (with_reducible refine (lines_Split.calls a1 t118 _ A7.out).mono ?_); rintro e w8 ⟨v119, rfl, ho0, hb⟩; refine ⟨_, rfl, ?_⟩; have n0_ := Aside0.mk (Kd.R_lower ho0 (below_size (by repeat (first | (with_reducible first | exact HB.out | apply below_alloc | apply pw_below_drewN | apply below_drew1) | exact HB.out)))); have n1_ := Aside0.mk (below_step (by repeat (first | (with_reducible first | exact HB.out | apply below_alloc | apply pw_below_drewN | apply below_drew1) | exact HB.out)) hb); clear HB; have HO120 := n0_; have HB := n1_; clear n0_ n1_; (try clear hb); (try clear hb2); (try clear hk); (try clear hi); (try clear ho0); obtain ⟨Ao9, co9, eo9⟩ := Kd.R_slice HO120.out; subst eo9))
    go_loopg [5, 16] k (fun kq v5 v16 w' => ∃ (x5_1 : List ByteArray) (x16_1 : Int), v16 = .int .i64 x16_1 ∧ Aside0 (conflict_version.l0 kq a0 x5_1 t118 (t118.length : Int) x16_1 = some r) ∧ Aside0 (kq ≤ k) ∧ Aside0 (Kd.R Kd.string 9 w' w.heap.size (fun k_ => some k_ ≠ ((.slice Ao9 t118.length co9) : Value).ownBlock) v5 x5_1) ∧ Aside0 (Kd.R Kd.string 9 w' w.heap.size (fun k_ => some k_ ≠ (v5 : Value).ownBlock) (.slice Ao9 t118.length co9) t118) ∧ Aside0 (Below w.heap.size w w'))
    case atStart => exact ⟨(([] : List ByteArray)), (0), (by first | rfl | (simp; done) | (simp [*]; done)), H', ⟨Nat.le_refl _⟩, ⟨by first | exact Kd.R_nil _ _ _ _ _ | exact Kd.N_nil _ _ _ _ _ | exact Kd.V_nil _ _ _ _ _ | exact Kd.Q_nil _ _ _ _ _ | exact Kd.S_nil _ _ _ _ _⟩, ⟨by (with_reducible repeat (first | apply Kd.R_alloc | apply Kd.R_drewN | apply Kd.R_drew)); exact Kd.R_mono HO120.out (fun _ hk => (by simp [Value.ownBlock]))⟩, ⟨by repeat (first | (with_reducible first | exact HB.out | apply below_alloc | apply pw_below_drewN | apply below_drew1) | exact HB.out)⟩⟩
    case round =>
      clear H'
      try clear p2
      try clear c3
      try clear c3b0
      try clear c3b1
      try clear c4
      try clear c4b0
      try clear c4b1
      try clear c4b2
      try clear c5
      obtain ⟨x5_1, x16_1, rfl, HA, HK1, HO_5, HO_14, HB⟩ := hrel
      cases gk with
      | zero => exact absurd HA.out (by simp [conflict_version.l0])
      | succ k1 =>
        have H := HA.out
        clear HA
        simp only [conflict_version.l0] at H
        by_cases c10 : x16_1 < (t118.length : Int)
        · rw [if_pos c10] at H
          have c10b0 : decide (x16_1 < (t118.length : Int)) = true := decide_eq_true c10
          clear c10
          by_cases c11 : 0 ≤ x16_1
          · rw [if_pos c11] at H
            have c11b0 : decide (0 ≤ x16_1) = true := decide_eq_true c11
            clear c11
            by_cases c12 : x16_1 < (t118.length : Int)
            · rw [if_pos c12] at H
              have c12b0 : decide (x16_1 < (t118.length : Int)) = true := decide_eq_true c12
              clear c12
              by_cases c13 : a0.size + 2 ≤ 9223372036854775807
              · rw [if_pos c13] at H
                have c13b0 := eq_true c13
                have c13b1 : decide (a0.size + 2 ≤ 9223372036854775807) = true := decide_eq_true c13
                try have c13b2 : (9223372036854775807 < a0.size + 2) = False := eq_false (Nat.not_lt.2 c13)
                replace H := Option.bind_eq_some_iff.mp H
                obtain ⟨t122, A140, H⟩ := H
                replace H : (if (a0 ++ (⟨#[58, 32]⟩ : ByteArray)).size + t122.size ≤ 9223372036854775807 then (if ((a0 ++ (⟨#[58, 32]⟩ : ByteArray)) ++ t122).size + 1 ≤ 9223372036854775807 then (if x5_1.length < 8796093022208 then (conflict_version.l0 k1 a0 (x5_1 ++ [((a0 ++ (⟨#[58, 32]⟩ : ByteArray)) ++ t122) ++ (⟨#[10]⟩ : ByteArray)]) t118 (t118.length : Int) (wrap64 (x16_1 + 1))) else (none)) else (none)) else (none)) = some r := H
                have A14 := Aside0.mk A140
                clear A140
                by_cases c15 : (a0 ++ (⟨#[58, 32]⟩ : ByteArray)).size + t122.size ≤ 9223372036854775807
                · rw [if_pos c15] at H
                  have c15b0 := eq_true c15
                  have c15b1 : decide ((a0 ++ (⟨#[58, 32]⟩ : ByteArray)).size + t122.size ≤ 9223372036854775807) = true := decide_eq_true c15
                  try have c15b2 : (9223372036854775807 < (a0 ++ (⟨#[58, 32]⟩ : ByteArray)).size + t122.size) = False := eq_false (Nat.not_lt.2 c15)
                  try have c15b3 : (9223372036854775807 < a0.size + 2 + t122.size) = False := eq_false (by have h_ : a0.size + 2 + t122.size ≤ 9223372036854775807 := (by have h_ := c15; (repeat rw [ByteArray.size_append] at h_); exact h_); omega)
                  by_cases c16 : ((a0 ++ (⟨#[58, 32]⟩ : ByteArray)) ++ t122).size + 1 ≤ 9223372036854775807
                  · rw [if_pos c16] at H
                    have c16b0 := eq_true c16
                    have c16b1 : decide (((a0 ++ (⟨#[58, 32]⟩ : ByteArray)) ++ t122).size + 1 ≤ 9223372036854775807) = true := decide_eq_true c16
                    try have c16b2 : (9223372036854775807 < ((a0 ++ (⟨#[58, 32]⟩ : ByteArray)) ++ t122).size + 1) = False := eq_false (Nat.not_lt.2 c16)
                    try have c16b3 : (9223372036854775807 < a0.size + 2 + t122.size + 1) = False := eq_false (by have h_ : a0.size + 2 + t122.size + 1 ≤ 9223372036854775807 := (by have h_ := c16; (repeat rw [ByteArray.size_append] at h_); exact h_); omega)
                    by_cases c17 : x5_1.length < 8796093022208
                    · rw [if_pos c17] at H
                      have LMc17 := Aside0.mk c17
                      clear c17
                      obtain ⟨y123, hy123⟩ : ∃ y_ : List ByteArray, y_ = (x5_1 ++ [((a0 ++ (⟨#[58, 32]⟩ : ByteArray)) ++ t122) ++ (⟨#[10]⟩ : ByteArray)]) := ⟨_, rfl⟩
                      replace H : (conflict_version.l0 k1 a0 y123 t118 (t118.length : Int) (wrap64 (x16_1 + 1))) = some r := by first | (rw [hy123]; with_reducible exact H) | (have H2_ := (Option.bind_some _ _).symm.trans H; rw [hy123]; with_reducible exact H2_) | (have H2_ := (Option.bind_some _ _).symm.trans H; with_reducible exact H2_) | with_reducible exact H | (rw [hy123]; exact H) | exact H
                      have Ny123 := Aside0.mk hy123
                      clear hy123
                      have H' := Aside0.mk H
                      clear H
                      have p121 : 0 ≤ (x16_1 : Int) := of_decide_eq_true (by first | (with_reducible assumption) | assumption)
                      have q121 : x16_1 < (t118.length : Int) := of_decide_eq_true (by first | (with_reducible assumption) | assumption)
                      obtain ⟨ad121, e121, hx121_0⟩ := Kd.at_string (Kd.R_reads' HO_14.out).2.2 x16_1 p121 q121
                      cases e121
                      replace p121 := eq_true p121
                      replace q121 := eq_true q121
                      go_wp2_with (first | ((with_reducible refine gate_callee (f := 59) rfl ?_); refine goesL_ (some 24) rfl rfl Tryd.func59 (by kernel_rfl) rfl #[.string (rdOf ByteArray.empty t118 x16_1), .string (⟨#[10]⟩ : ByteArray)] rfl (by (try simp only [List.map_toArray, List.map_cons, List.map_nil]); first | done | rfl | (simp only [List.length_drop, List.length_take]; rfl)) ?_; (with_reducible refine (strings_TrimSuffix.calls (rdOf ByteArray.empty t118 x16_1) (⟨#[10]⟩ : ByteArray) t122 _ A14.out).mono ?_); rintro e w18 ⟨rfl, hb⟩; refine ⟨_, rfl, ?_⟩; have n0_ := Aside0.mk (Kd.R_below (by (with_reducible repeat (first | apply Kd.R_alloc | apply Kd.R_drewN | apply Kd.R_drew)); exact HO_5.out) hb); have n1_ := Aside0.mk (Kd.R_below (by (with_reducible repeat (first | apply Kd.R_alloc | apply Kd.R_drewN | apply Kd.R_drew)); exact HO_14.out) hb); have n2_ := Aside0.mk (below_step (by repeat (first | (with_reducible first | exact HB.out | apply below_alloc | apply pw_below_drewN | apply below_drew1) | exact HB.out)) hb); clear HO_5; clear HO_14; clear HB; have HO_5 := n0_; have HO_14 := n1_; have HB := n2_; clear n0_ n1_ n2_; (try clear hb); (try clear hb2); (try clear hk); (try clear hi)) | ((with_reducible refine gate_builtin (b := .append) (xs := #[.tmp 20, .tmp 27]) rfl ?_); at_builtin; refine Kd.R_append Kd.string (w0 := w) w.heap.size rfl (.tmp 20) (.tmp 27) 28 9 (.string ⟨#[]⟩) 16 rfl Tryd.underlying28 info9 rfl (by decide) (by omega) u5 x5_1 (((a0 ++ (⟨#[58, 32]⟩ : ByteArray)) ++ t122) ++ (⟨#[10]⟩ : ByteArray)) [.string (((a0 ++ (⟨#[58, 32]⟩ : ByteArray)) ++ t122) ++ (⟨#[10]⟩ : ByteArray))] (fun k_ => some k_ ≠ (.slice (some ad121) t118.length co9 : Value).ownBlock) (fun _ => False) rfl rfl ?aP (fun _ hk => hk.elim) ?aF ?aO ?aB ?aS ?aL ?_; (case aP => exact rfl); (case aB => exact (by repeat (first | (with_reducible first | exact HB.out | apply below_alloc | apply pw_below_drewN | apply below_drew1) | exact HB.out))); (case aF => exact (fun k_ hk => Kd.fresh' (Kd.R_lt (by (with_reducible repeat (first | apply Kd.R_alloc | apply Kd.R_drewN | apply Kd.R_drew)); exact HO_14.out)) k_ hk)); (case aO => exact (by (with_reducible repeat (first | apply Kd.R_alloc | apply Kd.R_drewN | apply Kd.R_drew)); exact HO_5.out)); (case aS => exact (below_size (by repeat (first | (with_reducible first | exact HB.out | apply below_alloc | apply pw_below_drewN | apply below_drew1) | exact HB.out)))); (case aL => have := LMc17.out; omega); intro v124 w19 ho hb hg hat; rw [← Ny123.out] at ho; have n0_ := Aside0.mk (Kd.R_after (ok := (fun _ => True)) (by (with_reducible repeat (first | apply Kd.R_alloc | apply Kd.R_drewN | apply Kd.R_drew)); exact Kd.R_mono HO_14.out (fun _ hk => ⟨trivial, hk⟩)) hg hat); have n1_ := Aside0.mk (hb); have n2_ := Aside0.mk (ho); clear HO_14; clear HB; clear HO_5; have HO_14 := n0_; have HB := n1_; have HO125 := n2_; clear n0_ n1_ n2_; clear ho hb hg hat))
                      go_roundg k1
                      case measure => have := HK1.out; omega
                      case rel => exact ⟨(y123), (wrap64 (x16_1 + 1)), (by first | rfl | (simp; done) | (simp [*]; done)), H', ⟨by have := HK1.out; omega⟩, ⟨by (with_reducible repeat (first | apply Kd.R_alloc | apply Kd.R_drewN | apply Kd.R_drew)); exact HO125.out⟩, ⟨by (with_reducible repeat (first | apply Kd.R_alloc | apply Kd.R_drewN | apply Kd.R_drew)); exact Kd.R_mono HO_14.out (fun _ hk => hk.2)⟩, ⟨by repeat (first | (with_reducible first | exact HB.out | apply below_alloc | apply pw_below_drewN | apply below_drew1) | exact HB.out)⟩⟩
                    · rw [if_neg c17] at H
                      exact absurd H (by simp)
                  · rw [if_neg c16] at H
                    exact absurd H (by simp)
                · rw [if_neg c15] at H
                  exact absurd H (by simp)
              · rw [if_neg c13] at H
                exact absurd H (by simp)
            · rw [if_neg c12] at H
              exact absurd H (by simp)
          · rw [if_neg c11] at H
            exact absurd H (by simp)
        · rw [if_neg c10] at H
          have c10b0 : decide (x16_1 < (t118.length : Int)) = false := decide_eq_false c10
          clear c10
          obtain rfl := Option.some.inj H
          go_wp2
          go_ret
          exact ⟨_, by first | rfl | (simp [errW_none, errW_some] <;> rfl) | (simp [*, errW_none, errW_some] <;> rfl), by (with_reducible repeat (first | apply Kd.R_alloc | apply Kd.R_drewN | apply Kd.R_drew)); exact Kd.R_mono HO_5.out (fun _ hk => trivial), by repeat (first | (with_reducible first | exact HB.out | apply below_alloc | apply pw_below_drewN | apply below_drew1) | exact HB.out)⟩

/-! ### tree_texts: function 80 (by hand) -/
def tree_texts.f (l : List ByteArray) : Option (List ByteArray) := if l.length ≤ 1000000 then some l else none
set_option maxHeartbeats 4000000 in
set_option maxRecDepth 100000 in
theorem tree_texts.calls (A0 : Option Addr) (c0 : Nat) (l0 : List ByteArray) (r : List ByteArray) (w : World) (hr0 : Kd.C Kd.string w A0 l0.length l0) (hc0 : l0.length ≤ c0) (h : tree_texts.f l0 = some r) :
    Calls Tryd.prog 80 #[.slice A0 l0.length c0] w fun e w' => ∃ v0_ : Value, e = .returned (v0_) ∧ Kd.R Kd.string 9 w' w.heap.size (fun _ => True) v0_ r ∧ Below w.heap.size w w' := by
  unfold tree_texts.f at h
  split at h
  case isFalse => cases h
  rename_i hl
  obtain rfl := Option.some.inj h
  clear h
  by_cases c : l0.length = 0
  · have e1 : ((l0.length : Int) == 0) = true := beq_iff_eq.mpr (by omega)
    have e0 : l0 = [] := List.length_eq_zero_iff.1 c
    have HE := Aside0.mk e0
    clear e0 c
    go_enter Tryd.func80, Tryd.ntmps80
    go_wp2
    go_ret
    exact ⟨_, rfl, by rw [HE.out]; exact Kd.R_nil _ _ _ _ _, Below.refl _ _⟩
  · have e1 : ((l0.length : Int) == 0) = false := beq_eq_false_iff_ne.mpr (by omega)
    have HR0 := Aside0.mk hr0
    clear hr0 c
    go_enter Tryd.func80, Tryd.ntmps80
    go_wp2_with (first
        | ((with_reducible refine gate_dst (N := 9) rfl ?_); refine Kd.R_make Kd.string (w0 := w) w.heap.size 9 rfl (N := 9) rfl 28 _ _ rfl (l0.length : Int) rfl rfl Tryd.underlying28 (.string ⟨#[]⟩) 16 info9 rfl (by decide) (by omega) (⟨#[]⟩ : ByteArray) (ok := fun _ => True) (okp := fun _ => True) rfl (fun _ hk => hk) trivial (by omega) (by omega) (Below.refl _ _) (Nat.le_refl _) ?_; intro v9 w6 ho6 hb6 hg6 hn6; simp only [Int.toNat_natCast] at ho6; obtain ⟨A6, c6, rfl⟩ := Kd.R_slice ho6; rw [List.length_replicate] at ho6; rw [List.length_replicate]; have HO6 := Aside0.mk ho6; have HB6 := Aside0.mk hb6; have HR0f := Aside0.mk (Kd.C_below HR0.out hb6); clear hn6 hg6 ho6 hb6)
        | ((with_reducible refine gate_builtin (b := .copy) (xs := #[.tmp 10, .tmp 11]) rfl ?_); refine Kd.R_copy (h1 := fun _ => rfl) (⟨#[]⟩ : ByteArray) (w0 := w) w.heap.size rfl (.tmp 10) (.tmp 11) 28 28 9 rfl Tryd.underlying28 (by kernel_rfl) (.slice A6 l0.length c6) (List.replicate l0.length (⟨#[]⟩ : ByteArray)) l0 A0 l0.length c0 (fun _ => True) rfl rfl HO6.out HR0f.out HB6.out HB6.out.size ?_; intro w7 ho7 hb7 hg7; have HO7 := Aside0.mk ho7; have HB7 := Aside0.mk hb7; clear ho7 hb7 hg7))
    go_ret
    refine ⟨_, rfl, ?_, HB7.out⟩
    have ho := HO7.out
    rw [List.length_replicate, Nat.min_self, List.take_length, List.drop_of_length_le (by rw [List.length_replicate]; exact Nat.le_refl _), List.append_nil] at ho
    exact ho

end Go.Proofs.YtcajhkbobpakaaaDoor.Q
