/- The line of a decision, Print, Split, Cut, and the first steps of read: proved here by steps through the program's text; no condition but those that stand in each theorem. -/
import Derived.WalkSpells
import Derived.Deep.RegionLaw
import Derived.Lib.OthersKept
import Derived.Test.YtfajgjmhfpabiaaDoorShelf
import Derived.Test.YtfajgjmhfpabiaaDoorQ0
import Derived.Test.YtfajgjmhfpabiaaDoorQ4
import Derived.Test.YtfajgjmhfpabiaaDoorQ5
import Derived.Test.YtfajgjmhfpabiaaDoorSa
namespace Go.Proofs.YtfajgjmhfpabiaaDoor.Scratch
set_option linter.unusedVariables false
open Go.RowKit Go.Proofs.YtfajgjmhfpabiaaDoorW.PrintWords Go.Proofs.YtfajgjmhfpabiaaDoorW.PrintLast Go.Proofs.YtfajgjmhfpabiaaDoorW.PrintMore Go.Proofs.YtfajgjmhfpabiaaDoor.Q
attribute [local go_sem] max2_int min2_int max_two min_two max_three min_three max_four min_four
theorem hexS_size (a : Int) : (hexS a).size = 16 := by
  show ((List.range 16).map fun j => UInt8.ofNat (hexc a j).toNat).toArray.size = 16
  simp
def lineS (a0 a1 : Int) (a2 a3 : ByteArray) : ByteArray := if a3.toList = [] then hexS a0 ++ (if a1 = 2 then (⟨#[32, 114, 105, 103, 104, 116, 32]⟩ : ByteArray) else ⟨#[32, 108, 101, 102, 116, 32]⟩) ++ a2 ++ ⟨#[10]⟩ else hexS a0 ++ (if a1 = 2 then (⟨#[32, 114, 105, 103, 104, 116, 32]⟩ : ByteArray) else ⟨#[32, 108, 101, 102, 116, 32]⟩) ++ a2 ++ (⟨#[32]⟩ ++ a3) ++ ⟨#[10]⟩
def decide_line.f (a0 a1 : Int) (a2 a3 : ByteArray) : Option ByteArray := if 0 ≤ a0 ∧ a0 < 2 ^ 64 ∧ a2.size ≤ 1000000 ∧ a3.size ≤ 1000000 then some (lineS a0 a1 a2 a3) else none
set_option maxHeartbeats 8000000 in
set_option maxRecDepth 100000 in
theorem lineRE (a0 : Int) (a2 a3 : ByteArray) (w : World) (hG : Glob w) (h0 : 0 ≤ a0) (h1 : a0 < 2 ^ 64) (h2 : a2.size ≤ 1000000) (h3 : a3.size ≤ 1000000) (he : a3.toList = []) : Calls Tryd.prog 39 #[.agg #[.int .u64 a0, .int .i64 2, .string a2, .string a3]] w fun e w' => e = .returned (.string (hexS a0 ++ (⟨#[32, 114, 105, 103, 104, 116, 32]⟩ : ByteArray) ++ a2 ++ ⟨#[10]⟩)) ∧ Below w.heap.size w w' := by
  have HG := Aside0.mk hG
  have HSZ := Aside0.mk (hexS_size a0)
  have HF := Aside0.mk (show digest_Hex.f a0 = some (hexS a0) by rw [digest_Hex.f, if_pos ⟨h0, h1⟩])
  have HN := Aside0.mk he
  have g1 : (a3.toList == ([] : List UInt8)) = true := by rw [he]; rfl
  have g2 : (a3.toList != ([] : List UInt8)) = false := by rw [he]; rfl
  clear he hG
  generalize hexS a0 = hx at *
  have q1 : (9223372036854775807 < hx.size + 7) = False := eq_false (by have := HSZ.out; omega)
  have q2 : (9223372036854775807 < hx.size + 7 + a2.size) = False := eq_false (by have := HSZ.out; omega)
  have q3 : (9223372036854775807 < hx.size + 7 + a2.size + 1) = False := eq_false (by have := HSZ.out; omega)
  have q4 : (9223372036854775807 < 1 + a3.size) = False := eq_false (by omega)
  have q5 : (9223372036854775807 < hx.size + 7 + a2.size + (1 + a3.size)) = False := eq_false (by have := HSZ.out; omega)
  have q6 : (9223372036854775807 < hx.size + 7 + a2.size + (1 + a3.size) + 1) = False := eq_false (by have := HSZ.out; omega)
  go_enter Tryd.func39, Tryd.ntmps39
  have HW : Aside0 (Below w.heap.size w (w.alloc (.cells #[.int .u64 a0, .int .i64 2, .string a2, .string a3] 35 (0, 0))).drew) := ⟨pw_below_drewN (below_alloc (Below.refl _ _) _) 1⟩
  have HGW := Aside0.mk (Glob.below HW.out HG.out)
  have HZ : Aside0 ((w.alloc (.cells #[.int .u64 a0, .int .i64 2, .string a2, .string a3] 35 (0, 0))).drew.heap[w.heap.size]? = some (.cells #[.int .u64 a0, .int .i64 2, .string a2, .string a3] 35 (0, 0))) := ⟨blk_new w _⟩
  go_wp2
  go_region_law (go_simp; go_at_call 58; (refine (digest_Hex.calls a0 hx _ HGW.out HF.out).mono ?_; rintro e w1 ⟨rfl, hb1⟩; have hz := blk_below HZ.out hb1; have hz2 := (blk_cell hz 2).trans rfl; have hz3 := (blk_cell hz 3).trans rfl; change _ = some (Value.string a2) at hz2; change _ = some (Value.string a3) at hz3; have HB1 := Aside0.mk (below_step HW.out hb1); clear hb1 hz))
  all_goals go_wp2
  all_goals go_ret
  all_goals exact ⟨rfl, HB1.out⟩
set_option maxHeartbeats 8000000 in
set_option maxRecDepth 100000 in
theorem lineRN (a0 : Int) (a2 a3 : ByteArray) (w : World) (hG : Glob w) (h0 : 0 ≤ a0) (h1 : a0 < 2 ^ 64) (h2 : a2.size ≤ 1000000) (h3 : a3.size ≤ 1000000) (he : a3.toList ≠ []) : Calls Tryd.prog 39 #[.agg #[.int .u64 a0, .int .i64 2, .string a2, .string a3]] w fun e w' => e = .returned (.string (hexS a0 ++ (⟨#[32, 114, 105, 103, 104, 116, 32]⟩ : ByteArray) ++ a2 ++ (⟨#[32]⟩ ++ a3) ++ ⟨#[10]⟩)) ∧ Below w.heap.size w w' := by
  have HG := Aside0.mk hG
  have HSZ := Aside0.mk (hexS_size a0)
  have HF := Aside0.mk (show digest_Hex.f a0 = some (hexS a0) by rw [digest_Hex.f, if_pos ⟨h0, h1⟩])
  have HN := Aside0.mk he
  have g1 : (a3.toList == ([] : List UInt8)) = false := beq_eq_false_iff_ne.2 he
  have g2 : (a3.toList != ([] : List UInt8)) = true := bne_iff_ne.2 he
  clear he hG
  generalize hexS a0 = hx at *
  have q1 : (9223372036854775807 < hx.size + 7) = False := eq_false (by have := HSZ.out; omega)
  have q2 : (9223372036854775807 < hx.size + 7 + a2.size) = False := eq_false (by have := HSZ.out; omega)
  have q3 : (9223372036854775807 < hx.size + 7 + a2.size + 1) = False := eq_false (by have := HSZ.out; omega)
  have q4 : (9223372036854775807 < 1 + a3.size) = False := eq_false (by omega)
  have q5 : (9223372036854775807 < hx.size + 7 + a2.size + (1 + a3.size)) = False := eq_false (by have := HSZ.out; omega)
  have q6 : (9223372036854775807 < hx.size + 7 + a2.size + (1 + a3.size) + 1) = False := eq_false (by have := HSZ.out; omega)
  go_enter Tryd.func39, Tryd.ntmps39
  have HW : Aside0 (Below w.heap.size w (w.alloc (.cells #[.int .u64 a0, .int .i64 2, .string a2, .string a3] 35 (0, 0))).drew) := ⟨pw_below_drewN (below_alloc (Below.refl _ _) _) 1⟩
  have HGW := Aside0.mk (Glob.below HW.out HG.out)
  have HZ : Aside0 ((w.alloc (.cells #[.int .u64 a0, .int .i64 2, .string a2, .string a3] 35 (0, 0))).drew.heap[w.heap.size]? = some (.cells #[.int .u64 a0, .int .i64 2, .string a2, .string a3] 35 (0, 0))) := ⟨blk_new w _⟩
  go_wp2
  go_region_law (go_simp; go_at_call 58; (refine (digest_Hex.calls a0 hx _ HGW.out HF.out).mono ?_; rintro e w1 ⟨rfl, hb1⟩; have hz := blk_below HZ.out hb1; have hz2 := (blk_cell hz 2).trans rfl; have hz3 := (blk_cell hz 3).trans rfl; change _ = some (Value.string a2) at hz2; change _ = some (Value.string a3) at hz3; have HB1 := Aside0.mk (below_step HW.out hb1); clear hb1 hz))
  all_goals go_wp2
  all_goals go_ret
  all_goals exact ⟨rfl, HB1.out⟩
set_option maxHeartbeats 8000000 in
set_option maxRecDepth 100000 in
theorem lineLE (a0 : Int) (a1 : Int) (ha1 : a1 ≠ 2) (a2 a3 : ByteArray) (w : World) (hG : Glob w) (h0 : 0 ≤ a0) (h1 : a0 < 2 ^ 64) (h2 : a2.size ≤ 1000000) (h3 : a3.size ≤ 1000000) (he : a3.toList = []) : Calls Tryd.prog 39 #[.agg #[.int .u64 a0, .int .i64 a1, .string a2, .string a3]] w fun e w' => e = .returned (.string (hexS a0 ++ (⟨#[32, 108, 101, 102, 116, 32]⟩ : ByteArray) ++ a2 ++ ⟨#[10]⟩)) ∧ Below w.heap.size w w' := by
  have HG := Aside0.mk hG
  have HSZ := Aside0.mk (hexS_size a0)
  have HF := Aside0.mk (show digest_Hex.f a0 = some (hexS a0) by rw [digest_Hex.f, if_pos ⟨h0, h1⟩])
  have HN := Aside0.mk he
  have g1 : (a3.toList == ([] : List UInt8)) = true := by rw [he]; rfl
  have g2 : (a3.toList != ([] : List UInt8)) = false := by rw [he]; rfl
  have g3 : (a1 == 2) = false := beq_eq_false_iff_ne.2 ha1
  have g4 : (a1 != 2) = true := bne_iff_ne.2 ha1
  clear he hG
  generalize hexS a0 = hx at *
  have q1 : (9223372036854775807 < hx.size + 6) = False := eq_false (by have := HSZ.out; omega)
  have q2 : (9223372036854775807 < hx.size + 6 + a2.size) = False := eq_false (by have := HSZ.out; omega)
  have q3 : (9223372036854775807 < hx.size + 6 + a2.size + 1) = False := eq_false (by have := HSZ.out; omega)
  have q4 : (9223372036854775807 < 1 + a3.size) = False := eq_false (by omega)
  have q5 : (9223372036854775807 < hx.size + 6 + a2.size + (1 + a3.size)) = False := eq_false (by have := HSZ.out; omega)
  have q6 : (9223372036854775807 < hx.size + 6 + a2.size + (1 + a3.size) + 1) = False := eq_false (by have := HSZ.out; omega)
  go_enter Tryd.func39, Tryd.ntmps39
  have HW : Aside0 (Below w.heap.size w (w.alloc (.cells #[.int .u64 a0, .int .i64 a1, .string a2, .string a3] 35 (0, 0))).drew) := ⟨pw_below_drewN (below_alloc (Below.refl _ _) _) 1⟩
  have HGW := Aside0.mk (Glob.below HW.out HG.out)
  have HZ : Aside0 ((w.alloc (.cells #[.int .u64 a0, .int .i64 a1, .string a2, .string a3] 35 (0, 0))).drew.heap[w.heap.size]? = some (.cells #[.int .u64 a0, .int .i64 a1, .string a2, .string a3] 35 (0, 0))) := ⟨blk_new w _⟩
  go_wp2
  go_region_law (go_simp; go_at_call 58; (refine (digest_Hex.calls a0 hx _ HGW.out HF.out).mono ?_; rintro e w1 ⟨rfl, hb1⟩; have hz := blk_below HZ.out hb1; have hz2 := (blk_cell hz 2).trans rfl; have hz3 := (blk_cell hz 3).trans rfl; change _ = some (Value.string a2) at hz2; change _ = some (Value.string a3) at hz3; have HB1 := Aside0.mk (below_step HW.out hb1); clear hb1 hz))
  all_goals go_wp2
  all_goals go_ret
  all_goals exact ⟨rfl, HB1.out⟩
set_option maxHeartbeats 8000000 in
set_option maxRecDepth 100000 in
theorem lineLN (a0 : Int) (a1 : Int) (ha1 : a1 ≠ 2) (a2 a3 : ByteArray) (w : World) (hG : Glob w) (h0 : 0 ≤ a0) (h1 : a0 < 2 ^ 64) (h2 : a2.size ≤ 1000000) (h3 : a3.size ≤ 1000000) (he : a3.toList ≠ []) : Calls Tryd.prog 39 #[.agg #[.int .u64 a0, .int .i64 a1, .string a2, .string a3]] w fun e w' => e = .returned (.string (hexS a0 ++ (⟨#[32, 108, 101, 102, 116, 32]⟩ : ByteArray) ++ a2 ++ (⟨#[32]⟩ ++ a3) ++ ⟨#[10]⟩)) ∧ Below w.heap.size w w' := by
  have HG := Aside0.mk hG
  have HSZ := Aside0.mk (hexS_size a0)
  have HF := Aside0.mk (show digest_Hex.f a0 = some (hexS a0) by rw [digest_Hex.f, if_pos ⟨h0, h1⟩])
  have HN := Aside0.mk he
  have g1 : (a3.toList == ([] : List UInt8)) = false := beq_eq_false_iff_ne.2 he
  have g2 : (a3.toList != ([] : List UInt8)) = true := bne_iff_ne.2 he
  have g3 : (a1 == 2) = false := beq_eq_false_iff_ne.2 ha1
  have g4 : (a1 != 2) = true := bne_iff_ne.2 ha1
  clear he hG
  generalize hexS a0 = hx at *
  have q1 : (9223372036854775807 < hx.size + 6) = False := eq_false (by have := HSZ.out; omega)
  have q2 : (9223372036854775807 < hx.size + 6 + a2.size) = False := eq_false (by have := HSZ.out; omega)
  have q3 : (9223372036854775807 < hx.size + 6 + a2.size + 1) = False := eq_false (by have := HSZ.out; omega)
  have q4 : (9223372036854775807 < 1 + a3.size) = False := eq_false (by omega)
  have q5 : (9223372036854775807 < hx.size + 6 + a2.size + (1 + a3.size)) = False := eq_false (by have := HSZ.out; omega)
  have q6 : (9223372036854775807 < hx.size + 6 + a2.size + (1 + a3.size) + 1) = False := eq_false (by have := HSZ.out; omega)
  go_enter Tryd.func39, Tryd.ntmps39
  have HW : Aside0 (Below w.heap.size w (w.alloc (.cells #[.int .u64 a0, .int .i64 a1, .string a2, .string a3] 35 (0, 0))).drew) := ⟨pw_below_drewN (below_alloc (Below.refl _ _) _) 1⟩
  have HGW := Aside0.mk (Glob.below HW.out HG.out)
  have HZ : Aside0 ((w.alloc (.cells #[.int .u64 a0, .int .i64 a1, .string a2, .string a3] 35 (0, 0))).drew.heap[w.heap.size]? = some (.cells #[.int .u64 a0, .int .i64 a1, .string a2, .string a3] 35 (0, 0))) := ⟨blk_new w _⟩
  go_wp2
  go_region_law (go_simp; go_at_call 58; (refine (digest_Hex.calls a0 hx _ HGW.out HF.out).mono ?_; rintro e w1 ⟨rfl, hb1⟩; have hz := blk_below HZ.out hb1; have hz2 := (blk_cell hz 2).trans rfl; have hz3 := (blk_cell hz 3).trans rfl; change _ = some (Value.string a2) at hz2; change _ = some (Value.string a3) at hz3; have HB1 := Aside0.mk (below_step HW.out hb1); clear hb1 hz))
  all_goals go_wp2
  all_goals go_ret
  all_goals exact ⟨rfl, HB1.out⟩
theorem decide_line.calls (a0 a1 : Int) (a2 a3 r : ByteArray) (w : World) (hG : Glob w) (h : decide_line.f a0 a1 a2 a3 = some r) : Calls Tryd.prog 39 #[.agg #[.int .u64 a0, .int .i64 a1, .string a2, .string a3]] w fun e w' => e = .returned (.string r) ∧ Below w.heap.size w w' := by
  unfold decide_line.f at h
  split at h
  · rename_i hc
    obtain ⟨h0, h1, h2, h3⟩ := hc
    injection h with h
    subst h
    unfold lineS
    by_cases he : a3.toList = []
    · rw [if_pos he]
      by_cases hs : a1 = 2
      · subst hs
        rw [if_pos rfl]
        exact lineRE a0 a2 a3 w hG h0 h1 h2 h3 he
      · rw [if_neg hs]
        exact lineLE a0 a1 hs a2 a3 w hG h0 h1 h2 h3 he
    · rw [if_neg he]
      by_cases hs : a1 = 2
      · subst hs
        rw [if_pos rfl]
        exact lineRN a0 a2 a3 w hG h0 h1 h2 h3 he
      · rw [if_neg hs]
        exact lineLN a0 a1 hs a2 a3 w hG h0 h1 h2 h3 he
  · cases h

set_option maxHeartbeats 8000000 in
set_option maxRecDepth 100000 in
theorem cc_used (b : Nat) (w : World) (h0 : w.cell? ⟨b, 0, none⟩ = some (.pointer (some ⟨b, 0, none⟩))) : Calls Tryd.prog 57 #[.pointer (some ⟨b, 0, none⟩)] w fun e w' => e = .returned (.tuple #[]) ∧ w' = w := by
  obtain ⟨j, hj, _⟩ := Option.map_eq_some_iff.1 (show (Tryd.prog.info? 80).map (·.size) = some 2 by kernel_rfl)
  go_enter Tryd.func57, Tryd.ntmps57
  go_wp2
  rw [Lib.run_neq_ptr_same w _ Tryd.underlying77 hj]
  go_wp2
  go_end0
  exact ⟨rfl, rfl⟩
set_option maxHeartbeats 8000000 in
set_option maxRecDepth 100000 in
theorem cc_fresh (b : Nat) (w : World) (h0 : w.cell? ⟨b, 0, none⟩ = some (.pointer none)) (hsh : w.shape? b = some (80, 2)) (hfz : w.frozen? ⟨b, 0, none⟩ = false) : Calls Tryd.prog 57 #[.pointer (some ⟨b, 0, none⟩)] w fun e w' => e = .returned (.tuple #[]) ∧ w' = w.setCell ⟨b, 0, none⟩ (.pointer (some ⟨b, 0, none⟩)) := by
  obtain ⟨j, hj, hjs⟩ := Option.map_eq_some_iff.1 (show (Tryd.prog.info? 80).map (·.size) = some 2 by kernel_rfl)
  go_enter Tryd.func57, Tryd.ntmps57
  go_wp2
  rw [Lib.run_to_unsafe w ⟨b, 0, none⟩ Tryd.underlying77 Tryd.underlying114 hj (by rw [hjs]; decide) hsh (Nat.zero_lt_succ 1)]
  simp only [Result.andThen]
  rw [Oper.upon_value]
  go_wp2
  rw [run_callFunc_extern Tryd.func69 (by kernel_rfl) (by kernel_rfl) (by kernel_rfl) (e := Extern.AbiNoEscape.same) (by kernel_rfl)]
  rw [Lib.run_noEscape]
  simp only [Result.andThen]
  rw [Oper.upon_value]
  go_wp2
  rw [Lib.run_from_unsafe w ⟨b, 0, none⟩ Tryd.underlying114 Tryd.underlying77 hj hsh (by kernel_rfl)]
  simp only [Result.andThen]
  rw [Oper.upon_value]
  go_wp2
  go_end0
  exact ⟨rfl, rfl⟩
/-- Rows of other types than a builder's stay as they are. -/
def RowsStay (w w' : World) : Prop := ∀ {α : Type} (d : Kd α) (e base : Nat) (ok : Nat → Prop) (v : Value) (xs : List α), (∀ q, q ∈ e :: d.E → q ≠ 80 ∧ q ≠ 5) → d.R e w base ok v xs → d.R e w' base ok v xs
theorem copyCheck_calls (B b : Nat) (bs : List Value) (w : World) (h : Lib.IsBuilder 80 5 B b bs w) : Calls Tryd.prog 57 #[.pointer (some ⟨b, 0, none⟩)] w fun e w' => e = .returned (.tuple #[]) ∧ (Lib.BuilderAt 80 5 B b (.pointer (some ⟨b, 0, none⟩)) bs w' ∧ Below B w w') ∧ RowsStay w w' := by
  rcases h with h | h
  · refine (cc_fresh b w h.cell0 h.shape h.frozen0).mono ?_
    rintro e w' ⟨rfl, rfl⟩
    refine ⟨rfl, ⟨h.used _, (Below.refl B w).setCell (p := ⟨b, 0, none⟩) h.1 _⟩, ?_⟩
    intro α d e base ok v xs ht hR
    obtain ⟨_, _, hb, _⟩ := h
    exact Kd.R_set hR hb (fun q hq => (ht q hq).1) 0 _
  · refine (cc_used b w h.cell0).mono ?_
    rintro e w' ⟨rfl, rfl⟩
    exact ⟨rfl, ⟨h, Below.refl B _⟩, fun d e base ok v xs _ hR => hR⟩
set_option maxHeartbeats 8000000 in
set_option maxRecDepth 100000 in
theorem WriteString_calls (B b : Nat) (bs : List Value) (s : ByteArray) (w : World) (h : Lib.IsBuilder 80 5 B b bs w) (hlen : bs.length + s.size ≤ 140737488355328) (hBw : B ≤ w.heap.size) :
    Calls Tryd.prog 38 #[.pointer (some ⟨b, 0, none⟩), .string s] w fun e w' => e = .returned (.tuple #[.int .i64 s.size, .nilIface]) ∧ (Lib.BuilderAt 80 5 B b (.pointer (some ⟨b, 0, none⟩)) (bs ++ Lib.strCells s) w' ∧ Below B w w') ∧ RowsStay w w' := by
  obtain ⟨i0, hi, hz⟩ := Option.map_eq_some_iff.1 (show (Tryd.prog.info? 5).map (fun i => (i.zero, i.size, i.bytes)) = some (some (.int .u8 0), 1, 1) by kernel_rfl)
  simp only [Prod.mk.injEq] at hz
  obtain ⟨hz0, hz1, hz2⟩ := hz
  go_enter Tryd.func38, Tryd.ntmps38
  go_wp2_with (go_at_call 57; refine (copyCheck_calls B b bs _ h).mono ?_)
  rintro e w1 ⟨rfl, ⟨h1, hb1⟩, hrs1⟩
  obtain ⟨hB, v, hbk, hown, hne⟩ := h1
  have HRS1 : Aside0 (RowsStay w w1) := ⟨fun d e base ok v xs ht hR => hrs1 d e base ok v xs ht hR⟩
  clear hrs1
  have c0 : w1.cell? ⟨b, 0, none⟩ = some (.pointer (some ⟨b, 0, none⟩)) := by rw [Lib.cell_of_heap hbk]; rfl
  have c1 : w1.cell? ⟨b, 1, none⟩ = some v := by rw [Lib.cell_of_heap hbk]; rfl
  go_wp2_with (at_builtin; refine Lib.wpList_append_own_string _ rfl _ _ 78 9 rfl B 5 i0 Tryd.underlying78 Tryd.underlying9 hi hz0 hz1 hz2 _ _ _ rfl hown s rfl ?c3 ?c4 ?c5 ?_)
  case c3 => unfold maxLen; omega
  case c4 => omega
  case c5 => have := hb1.size; omega
  intro v' w2 hown' hgrow _
  have hlt : b < w1.heap.size := by
    rcases Nat.lt_or_ge b w1.heap.size with h' | h'
    · exact h'
    · simp [Array.getElem?_eq_none h'] at hbk
  have hb2 : w2.heap[b]? = some (.cells #[.pointer (some ⟨b, 0, none⟩), v] 80 (0, 0)) := by
    rw [hgrow.block b hlt (fun e => hne e.symm)]
    exact hbk
  have d0 : w2.cell? ⟨b, 0, none⟩ = some (.pointer (some ⟨b, 0, none⟩)) := by rw [Lib.cell_of_heap hb2]; rfl
  have d1 : w2.cell? ⟨b, 1, none⟩ = some v := by rw [Lib.cell_of_heap hb2]; rfl
  have f1 : w2.frozen? ⟨b, 1, none⟩ = false := Lib.frozen_of_heap hb2 1
  obtain ⟨ao, n', cap, rfl⟩ : ∃ ao n' cap, v' = .slice ao n' cap := by
    rcases hown'.2 with ⟨hv, _⟩ | ⟨g, cap, cur, hv, _⟩
    · exact ⟨_, _, _, hv⟩
    · exact ⟨_, _, _, hv⟩
  go_wp2
  go_ret2
  refine ⟨rfl, ⟨?_, ?_⟩, ?_⟩
  · exact Lib.BuilderAt.put (T := 80) (e := 5) hB hb2 (bs' := bs ++ Lib.strCells s) (by simpa [Lib.strCells_length] using hown') (by decide)
  · exact (hb1.grown hgrow (by have := hb1.size; omega) (fun k hk => (hown.lt k hk).1)).setCell (p := ⟨b, 1, none⟩) hB _
  · intro α d e base ok v3 xs ht hR
    have h1 := HRS1.out d e base ok v3 xs ht hR
    have h2 : d.R e w2 base ok v3 xs := by
      rcases hown.2 with ⟨hv, _⟩ | ⟨g, cap, cur, hv, _, hg, _⟩
      · subst hv
        exact Kd.R_step h1 (fun k _ hlt => hgrow.block k hlt (by simp [Value.ownBlock]))
      · subst hv
        exact Kd.R_mono (Kd.R_step (Kd.R_types h1 hg (fun q hq => (ht q hq).2)) (fun k hk hlt => hgrow.block k hlt (fun e => hk.2 (by injection e)))) (fun k hk => hk.1)
    exact Kd.R_set h2 hb2 (fun q hq => (ht q hq).1) 1 _

def printB : List S35 → List UInt8
  | [] => []
  | d :: l => (lineS d.f0 d.f1 d.f2 d.f3).data.toList ++ printB l
def PlainD (d : S35) : Prop := 0 ≤ d.f0 ∧ d.f0 < 2 ^ 64 ∧ d.f2.size ≤ 1000000 ∧ d.f3.size ≤ 1000000
theorem printB_append : ∀ (a b : List S35), printB (a ++ b) = printB a ++ printB b
  | [], b => rfl
  | d :: a, b => by rw [List.cons_append, printB, printB, printB_append a b, List.append_assoc]
theorem lineS_size (a0 a1 : Int) (a2 a3 : ByteArray) : (lineS a0 a1 a2 a3).size ≤ a2.size + a3.size + 26 := by
  have h : (if a1 = 2 then (⟨#[32, 114, 105, 103, 104, 116, 32]⟩ : ByteArray) else ⟨#[32, 108, 101, 102, 116, 32]⟩).size ≤ 7 := by split <;> decide
  have h10 : (⟨#[10]⟩ : ByteArray).size = 1 := rfl
  have h32 : (⟨#[32]⟩ : ByteArray).size = 1 := rfl
  unfold lineS
  split
  · rw [ByteArray.size_append, ByteArray.size_append, ByteArray.size_append, hexS_size, h10]
    omega
  · rw [ByteArray.size_append, ByteArray.size_append, ByteArray.size_append, ByteArray.size_append, ByteArray.size_append, hexS_size, h10, h32]
    omega
theorem cells_line (l : List UInt8) (s : ByteArray) : Lib.byteCells l ++ Lib.strCells s = Lib.byteCells (l ++ s.data.toList) := by
  unfold Lib.byteCells Lib.strCells
  rw [List.map_append]
theorem IsBuilder_below {T e B b : Nat} {bs : List Value} {w w' : World} (h : Lib.IsBuilder T e B b bs w) (hb : Below w.heap.size w w') : Lib.IsBuilder T e B b bs w' := by
  have key : ∀ p, Lib.BuilderAt T e B b p bs w → Lib.BuilderAt T e B b p bs w' := fun p h => by
    obtain ⟨h1, v, h2, h3, h4⟩ := h
    refine ⟨h1, v, blk_below h2 hb, ⟨h3.1, ?_⟩, h4⟩
    rcases h3.2 with h | ⟨g, cap, cur, q1, q2, q3, q4⟩
    · exact .inl h
    · exact .inr ⟨g, cap, cur, q1, q2, blk_below q3 hb, q4⟩
  exact h.imp (key _) (key _)
set_option maxHeartbeats 8000000 in
set_option maxRecDepth 100000 in
theorem decide_Book_Print.calls (w : World) (hG : Glob w) (ok : Nat → Prop) (base b : Nat) (L : List S35) (hB : BookAt w ok base b L) (hn : (L.map fun d => d.f0).Nodup) (hl : L.length ≤ 1000) (hp : ∀ d ∈ L, PlainD d) : Calls Tryd.prog 22 #[.pointer (some ⟨b, 0, none⟩)] w fun e w' => e = .returned (.string ⟨(printB L).toArray⟩) ∧ Below w.heap.size w w' := by
  have HLS := Aside0.mk (fun W (hb : Below w.heap.size w W) => decide_Book_List.calls W ok base b L (hB.below hb) hn hl)
  have HG := Aside0.mk hG
  have HP := Aside0.mk hp
  clear hG hp
  have HB := Aside0.mk (Below.refl w.heap.size w)
  go_enter Tryd.func22, Tryd.ntmps22
  go_wp2_with (first | (go_at_call 14; go_loud ((with_reducible refine (HLS.out _ (by repeat (first | (with_reducible first | exact HB.out | apply below_alloc | apply pw_below_drewN | apply below_drew1) | exact HB.out))).mono ?_); rintro e w1 ⟨v1, rfl, hr1, hb1⟩; obtain ⟨A1, c1, rfl⟩ := Kd.R_slice hr1; have HR1 := Aside0.mk hr1; have HBB1 := Aside0.mk hb1; clear hr1 hb1)))
  have hbl := blk_below (blk_new w (.cells #[.pointer none, .slice none 0 0] 80 (0, 0))) HBB1.out
  have HBD : Aside0 (Lib.IsBuilder 80 5 w.heap.size w.heap.size (Lib.byteCells (printB (L.take 0))) w1) := ⟨.inl ⟨Nat.le_refl _, _, hbl, ⟨rfl, .inl ⟨rfl, rfl⟩⟩, by simp [Value.ownBlock]⟩⟩
  have HBW := Aside0.mk (below_step (below_alloc (Below.refl _ _) _) HBB1.out)
  clear hbl
  have hty : ∀ q, q ∈ 35 :: k35.E → q ≠ 80 ∧ q ≠ 5 := by
    intro q hq
    simp [k35, Kd.iso, Kd.pair, Kd.int, Kd.string, Kd.scalar] at hq
    subst hq
    decide
  go_loopg [9] L.length (fun gk v9 w' => ∃ (k : Nat), v9 = .int .i64 k ∧ k + gk = L.length ∧ Aside0 (Lib.IsBuilder 80 5 w.heap.size w.heap.size (Lib.byteCells (printB (L.take k))) w') ∧ Aside0 (k35.R 35 w' (w.alloc (Obj.cells #[Value.pointer none, Value.slice none 0 0] 80)).heap.size (fun x => True) (Value.slice A1 L.length c1) L) ∧ Aside0 (Below w.heap.size w w') ∧ Aside0 ((printB (L.take k)).length ≤ k * 3000000))
  case atStart => exact ⟨0, rfl, by omega, HBD, HR1, HBW, ⟨by simp [printB]⟩⟩
  case round =>
    obtain ⟨k, rfl, hk, HD, HL, HB2, HPL⟩ := hrel
    obtain ⟨go, rfl⟩ : ∃ go, go = gk := ⟨gk, rfl⟩
    have HK := Aside0.mk hk
    cases go with
    | succ g =>
      have hkl : k < L.length := by omega
      have g1 : decide ((k : Int) < (L.length : Int)) = true := decide_eq_true (by omega)
      have g2 : decide (k < L.length) = true := decide_eq_true (by omega)
      have p12 : 0 ≤ (k : Int) := by omega
      have q12 : (k : Int) < (L.length : Int) := by omega
      obtain ⟨ad, e, hx0, hx1, hx2, hx3⟩ := at_T35 (Kd.R_reads' HL.out).2.2 (k : Int) p12 q12
      cases e
      have hrd : rd_T35 L (k : Int) = L[k] := by simp [rd_T35, List.getD_eq_getElem?_getD, List.getElem?_eq_getElem hkl]
      rw [Int.toNat_natCast, hrd] at hx0 hx1 hx2 hx3
      have HT := Aside0.mk (List.take_succ_eq_append_getElem hkl)
      have HPD := Aside0.mk (HP.out L[k] (List.getElem_mem hkl))
      obtain ⟨x, hxe⟩ : ∃ x, x = L[k] := ⟨_, rfl⟩
      rw [← hxe] at hx0 hx1 hx2 hx3 HT HPD
      clear hxe hrd hk
      have HLF := Aside0.mk (show decide_line.f x.f0 x.f1 x.f2 x.f3 = some (lineS x.f0 x.f1 x.f2 x.f3) by unfold decide_line.f; exact if_pos HPD.out)
      have hls := lineS_size x.f0 x.f1 x.f2 x.f3
      obtain ⟨s, hse⟩ : ∃ s, s = lineS x.f0 x.f1 x.f2 x.f3 := ⟨_, rfl⟩
      rw [← hse] at HLF hls
      have HSZ := Aside0.mk (show s.size ≤ 2000026 by have := HPD.out.2.2; omega)
      have HLN := Aside0.mk (show (Lib.byteCells (printB (L.take k))).length + s.size ≤ 140737488355328 by rw [Lib.byteCells_length]; have := HPL.out; have := HSZ.out; omega)
      have HPT := Aside0.mk (show printB (L.take (k + 1)) = printB (L.take k) ++ s.data.toList by rw [HT.out, printB_append, printB, printB, List.append_nil, hse])
      clear hse hls
      go_wp2_with (first | (go_at_call 39; ((with_reducible refine (decide_line.calls x.f0 x.f1 x.f2 x.f3 _ _ (Glob.below (by repeat (first | (with_reducible first | exact HB2.out | apply below_alloc | apply pw_below_drewN | apply below_drew1) | exact HB2.out)) HG.out) HLF.out).mono ?_); rintro e w2 ⟨rfl, hb2⟩; have hbw := below_step (w := wr) (by repeat (first | (with_reducible first | exact Below.refl _ _ | apply below_alloc | apply pw_below_drewN | apply below_drew1) | exact Below.refl _ _)) hb2; have HD2 := Aside0.mk (IsBuilder_below HD.out hbw); have HL2 := Aside0.mk (Kd.R_below HL.out hbw); have HB3 := Aside0.mk (below_step HB2.out hbw); clear hb2 hbw)) | (go_at_call 38; go_loud ((with_reducible refine (WriteString_calls w.heap.size w.heap.size _ s _ HD2.out HLN.out HB3.out.size).mono ?_); rintro e w3 ⟨rfl, ⟨hd3, hb3⟩, hrs3⟩; rw [cells_line, ← HPT.out] at hd3; have HD3 := Aside0.mk hd3; have HB4 := Aside0.mk (HB3.out.trans hb3); have HL3 := Aside0.mk (hrs3 k35 35 _ _ _ _ hty HL2.out); clear hd3 hb3 hrs3)))
      go_roundg g
      case measure => omega
      case rel => exact ⟨k + 1, by go_num, by have := HK.out; omega, ⟨.inr HD3.out⟩, HL3, HB4, ⟨by rw [HPT.out, List.length_append]; have := HPL.out; have := HSZ.out; have e : s.data.toList.length = s.size := (Array.length_toList ..); omega⟩⟩
    | zero =>
      have g1 : decide ((k : Int) < (L.length : Int)) = false := decide_eq_false (by omega)
      have g2 : decide (k < L.length) = false := decide_eq_false (by omega)
      have hkL : L.take k = L := List.take_of_length_le (by omega)
      rw [hkL] at HD
      go_wp2_with (first | (go_at_call 40; go_loud ((with_reducible refine (Tryd.Builder_String_any w.heap.size w.heap.size _ _ HD.out HB2.out.size).mono ?_); rintro e w3 ⟨rfl, hb3⟩; have HB4 := Aside0.mk (HB2.out.trans hb3); clear hb3)))
      go_ret
      exact ⟨rfl, HB4.out⟩

theorem bt_idx (s : ByteArray) (i : Nat) (h : i < s.size) : bt s (i : Int) = ((s[i]'h).toNat : Int) := by
  unfold bt
  rw [dif_pos (by simpa using h)]
  simp
theorem get_idx (s : ByteArray) (i : Nat) (h : i < s.size) : (s.get! i).toNat = (s[i]'h).toNat := by
  congr 1
  show s.data[i]! = _
  rw [getElem!_pos s.data i (by simpa using h)]
  rfl
theorem decode_hi3 (s : ByteArray) (pos : Nat) (h : pos < s.size) (ha : 128 ≤ (s[pos]'h).toNat) : 128 ≤ (Utf8.decode s pos).1 ∧ (Utf8.decode s pos).1 ≤ 1114111 ∧ 1 ≤ (Utf8.decode s pos).2 := by
  have e : (s.get! (pos + 0)).toNat = (s[pos]'h).toNat := get_idx s pos h
  unfold Utf8.decode
  simp only [e]
  rw [if_neg (by omega)]
  repeat' split
  all_goals simp_all [Utf8.runeError, Utf8.valid]
  all_goals omega
theorem decode_span (s : ByteArray) (pos : Nat) (h : pos < s.size) (ha : 128 ≤ (s[pos]'h).toNat) : pos + (Utf8.decode s pos).2 ≤ s.size ∧ ∀ j, pos ≤ j → j < pos + (Utf8.decode s pos).2 → bt s (j : Int) ≠ 10 := by
  have hi : ∀ k, (pos + k < s.size ∧ (s.get! (pos + k)).toNat / 64 = 2) → bt s ((pos + k : Nat) : Int) ≠ 10 := fun k hk => by
    rw [bt_idx s (pos + k) hk.1, ← get_idx s (pos + k) hk.1]
    omega
  have h0 : bt s (pos : Int) ≠ 10 := by
    rw [bt_idx s pos h]
    omega
  have e : (s.get! (pos + 0)).toNat = (s[pos]'h).toNat := get_idx s pos h
  have one : pos + 1 ≤ s.size ∧ ∀ j, pos ≤ j → j < pos + 1 → bt s (j : Int) ≠ 10 := ⟨by omega, fun j q1 q2 => by
    have : j = pos := by omega
    rw [this]
    exact h0⟩
  have two : (pos + 1 < s.size ∧ (s.get! (pos + 1)).toNat / 64 = 2) → pos + 2 ≤ s.size ∧ ∀ j, pos ≤ j → j < pos + 2 → bt s (j : Int) ≠ 10 := fun q => ⟨by omega, fun j q1 q2 => by
    rcases Nat.lt_or_ge j (pos + 1) with c | c
    · exact one.2 j q1 c
    · have : j = pos + 1 := by omega
      rw [this]
      exact hi 1 q⟩
  have three : (pos + 1 < s.size ∧ (s.get! (pos + 1)).toNat / 64 = 2) → (pos + 2 < s.size ∧ (s.get! (pos + 2)).toNat / 64 = 2) → pos + 3 ≤ s.size ∧ ∀ j, pos ≤ j → j < pos + 3 → bt s (j : Int) ≠ 10 := fun q r => ⟨by omega, fun j q1 q2 => by
    rcases Nat.lt_or_ge j (pos + 2) with c | c
    · exact (two q).2 j q1 c
    · have : j = pos + 2 := by omega
      rw [this]
      exact hi 2 r⟩
  have four : (pos + 1 < s.size ∧ (s.get! (pos + 1)).toNat / 64 = 2) → (pos + 2 < s.size ∧ (s.get! (pos + 2)).toNat / 64 = 2) → (pos + 3 < s.size ∧ (s.get! (pos + 3)).toNat / 64 = 2) → pos + 4 ≤ s.size ∧ ∀ j, pos ≤ j → j < pos + 4 → bt s (j : Int) ≠ 10 := fun q r t => ⟨by omega, fun j q1 q2 => by
    rcases Nat.lt_or_ge j (pos + 3) with c | c
    · exact (three q r).2 j q1 c
    · have : j = pos + 3 := by omega
      rw [this]
      exact hi 3 t⟩
  unfold Utf8.decode
  simp only [e]
  rw [if_neg (by omega)]
  clear hi h0
  split
  · rename_i c
    simp only [Bool.and_eq_true, decide_eq_true_eq, beq_iff_eq] at c
    split
    · exact two c.2
    · exact one
  · split
    · rename_i c
      simp only [Bool.and_eq_true, decide_eq_true_eq, beq_iff_eq] at c
      split
      · exact three c.1.2 c.2
      · exact one
    · split
      · rename_i c
        simp only [Bool.and_eq_true, decide_eq_true_eq, beq_iff_eq] at c
        split
        · exact four c.1.1.2 c.1.2 c.2
        · exact one
      · exact one
def splitL (s : ByteArray) : Nat → Nat → Nat → List ByteArray → List ByteArray
  | 0, _, fr, out => if fr < s.size then out ++ [s.extract fr s.size] else out
  | g + 1, i, fr, out => if bt s (i : Int) = 10 then splitL s g (i + 1) (i + 1) (out ++ [s.extract fr (i + 1)]) else splitL s g (i + 1) fr out
theorem splitL_skip (s : ByteArray) : ∀ (d g i fr : Nat) (out : List ByteArray), (∀ j, i ≤ j → j < i + d → bt s (j : Int) ≠ 10) → splitL s (d + g) i fr out = splitL s g (i + d) fr out
  | 0, g, i, fr, out, _ => by simp
  | d + 1, g, i, fr, out, h => by
    rw [show d + 1 + g = (d + g) + 1 by omega, splitL, if_neg (h i (Nat.le_refl _) (by omega)), splitL_skip s d g (i + 1) fr out (fun j q1 q2 => h j (by omega) (by omega)), show i + 1 + d = i + (d + 1) by omega]

set_option maxHeartbeats 8000000 in
set_option maxRecDepth 100000 in
theorem lines_Split.calls (s : ByteArray) (w : World) (hs : s.size ≤ 1000000) : Calls Tryd.prog 29 #[.string s] w fun e w' => ∃ v, e = .returned v ∧ Kd.R Kd.string 9 w' w.heap.size (fun _ => True) v (splitL s s.size 0 0 []) ∧ Below w.heap.size w w' := by
  obtain ⟨LS, hLS⟩ : ∃ LS, LS = splitL s s.size 0 0 [] := ⟨_, rfl⟩
  rw [← hLS]
  have HLS := Aside0.mk hLS
  clear hLS
  go_enter Tryd.func29, Tryd.ntmps29
  go_wp2
  go_loopg [3, 4] s.size (fun gk v3 v4 w' => ∃ (i fr : Nat) (out : List ByteArray), v4 = .int .i64 fr ∧ fr ≤ i ∧ i + gk = s.size ∧ out.length ≤ i ∧ Aside0 (w'.heap[w.heap.size]? = some (.stringIter s i)) ∧ Aside0 (Kd.R Kd.string 9 w' w.heap.size (fun k => k ≠ w.heap.size) v3 out) ∧ Aside0 (splitL s gk i fr out = LS) ∧ Aside0 (Below w.heap.size w w'))
  case atStart =>
    refine ⟨0, 0, [], rfl, Nat.le_refl _, by omega, by simp, ⟨blk_new _ _⟩, ⟨Kd.R_nil _ _ _ _ _⟩, ⟨HLS.out.symm⟩, ⟨below_alloc (Below.refl _ _) _⟩⟩
  case round =>
    obtain ⟨i, fr, out, rfl, hfr, hi, hol, HI, HO, HV, HB1⟩ := hrel
    obtain ⟨go, rfl⟩ : ∃ go, go = gk := ⟨gk, rfl⟩
    have HX := Aside0.mk hi
    cases go with
    | zero =>
      have hnx := fun ty => Lib.run_next_end_at (P := Tryd.prog) wr w.heap.size s i ty HI.out (by omega)
      have hv := HV.out
      rw [splitL] at hv
      by_cases c : fr < s.size
      · rw [if_pos c] at hv
        have g1 : decide ((fr : Int) < (s.size : Int)) = true := decide_eq_true (by omega)
        have g2 : decide (fr < s.size) = true := decide_eq_true c
        obtain ⟨Ao, co, eo⟩ := Kd.R_slice HO.out
        subst eo
        have HHV := Aside0.mk hv
        have hb44 : out.length < 8796093022208 := by omega
        have hq1 : ((fr : Int) ≤ (s.size : Int)) = True := eq_true (by omega)
        have hwl : w.heap.size < wr.heap.size := blk_lt HI.out
        have HF := Aside0.mk (show ∀ k, wr.heap.size ≤ k → k ≠ w.heap.size from fun k hk e => by omega)
        have HWL := Aside0.mk hwl
        have HON := Aside0.mk (show some w.heap.size ≠ (Value.slice Ao out.length co).ownBlock from fun e => (HO.out.1 _ e.symm) rfl)
        have HO2 := HO
        have HB2 := HB1
        have HI2 := HI
        clear hi hv hwl
        go_wp2_with ((with_reducible refine gate_builtin (b := .append) (xs := #[.tmp 29, .tmp 33]) rfl ?_); at_builtin; go_loud (refine Kd.R_append Kd.string (w0 := w) w.heap.size rfl (.tmp 29) (.tmp 33) 66 9 (.string ⟨#[]⟩) 16 rfl Tryd.underlying66 info9 rfl (by decide) (by omega) (.slice Ao out.length co) out (s.extract fr s.size) [.string (s.extract fr s.size)] (fun k => k ≠ w.heap.size) (fun _ => False) rfl rfl ?aP (fun _ hk => hk.elim) ?aF ?aO ?aB ?aS ?aL ?_; (case aP => exact rfl); (case aF => exact (fun k hk e => HF.out k hk e)); (case aO => exact (by (with_reducible repeat (first | apply Kd.R_alloc | apply Kd.R_drewN | apply Kd.R_drew)); exact HO2.out)); (case aB => exact (by repeat (first | (with_reducible first | exact HB2.out | apply below_alloc | apply pw_below_drewN | apply below_drew1) | exact HB2.out))); (case aS => exact (below_size (by repeat (first | (with_reducible first | exact HB2.out | apply below_alloc | apply pw_below_drewN | apply below_drew1) | exact HB2.out)))); (case aL => omega); intro v9 w9 ho hb hg hat; have HO9 := Aside0.mk ho; have HB9 := Aside0.mk hb; have HI9 := Aside0.mk (show w9.heap[w.heap.size]? = _ from (hg.block w.heap.size HWL.out (fun e => HON.out e)).trans HI2.out); clear ho hb hg hat))
        go_ret
        exact ⟨_, rfl, by rw [← HHV.out]; exact Kd.R_mono HO9.out (fun _ _ => trivial), HB9.out⟩
      · rw [if_neg c] at hv
        have g1 : decide ((fr : Int) < (s.size : Int)) = false := decide_eq_false (by omega)
        have g2 : decide (fr < s.size) = false := decide_eq_false c
        subst hv
        clear hi
        go_wp2
        go_ret
        exact ⟨_, rfl, Kd.R_mono HO.out (fun _ _ => trivial), HB1.out⟩
    | succ g =>
      have hlt : i < s.size := by omega
      have hwl : w.heap.size < wr.heap.size := blk_lt HI.out
      by_cases ha : (s[i]'hlt).toNat < 128
      · have hnx := fun ty => Lib.run_next_ascii_at (P := Tryd.prog) wr w.heap.size s i ty HI.out hlt ha
        have hv := HV.out
        rw [splitL, bt_idx s i hlt] at hv
        obtain ⟨c, hc⟩ : ∃ c : Nat, c = (s[i]'hlt).toNat := ⟨_, rfl⟩
        rw [← hc] at hnx hv ha
        clear hc
        have HI2 := Aside0.mk (Lib.iterAt_heap wr w.heap.size s i (i + 1) HI.out)
        have HB2 := Aside0.mk (Lib.below_iterAt HB1.out (Nat.le_refl _) s (i + 1))
        by_cases h10 : (c : Int) = 10
        · rw [if_pos h10] at hv
          have x1 : ((c : Int) == 10) = true := beq_iff_eq.mpr h10
          have x2 : ((c : Int) != 10) = false := bne_eq_false_iff_eq.mpr h10
          obtain ⟨Ao, co, eo⟩ := Kd.R_slice HO.out
          subst eo
          have HO2 := Aside0.mk (Kd.R_step (w1 := wr.iterAt w.heap.size s (i + 1)) HO.out (fun k hk _ => Lib.iterAt_other wr w.heap.size k s (i + 1) hk))
          have HV' := Aside0.mk hv
          have HF := Aside0.mk (show ∀ k, (wr.iterAt w.heap.size s (i + 1)).heap.size ≤ k → k ≠ w.heap.size from fun k hk e => by rw [Lib.iterAt_size] at hk; omega)
          have HWL := Aside0.mk (show w.heap.size < (wr.iterAt w.heap.size s (i + 1)).heap.size by rw [Lib.iterAt_size]; exact hwl)
          have HON := Aside0.mk (show some w.heap.size ≠ (Value.slice Ao out.length co).ownBlock from fun e => (HO.out.1 _ e.symm) rfl)
          have hb44 : out.length < 8796093022208 := by omega
          have hw1 : IntKind.i64.wrap ((i : Int) + 1) = (i : Int) + 1 := (i64_w _).trans (by unfold wrap64; omega)
          have hq1 : ((fr : Int) ≤ (i : Int) + 1) = True := eq_true (by omega)
          have hq2 : ((i : Int) + 1 ≤ (s.size : Int)) = True := eq_true (by omega)
          have hq3 : ((i : Int) + 1).toNat = i + 1 := by omega
          have HFR := Aside0.mk hfr
          clear hv hi h10 hwl
          go_wp2_with ((with_reducible refine gate_builtin (b := .append) (xs := #[.tmp 15, .tmp 21]) rfl ?_); at_builtin; go_loud (refine Kd.R_append Kd.string (w0 := w) w.heap.size rfl (.tmp 15) (.tmp 21) 66 9 (.string ⟨#[]⟩) 16 rfl Tryd.underlying66 info9 rfl (by decide) (by omega) (.slice Ao out.length co) out (s.extract fr (i + 1)) [.string (s.extract fr (i + 1))] (fun k => k ≠ w.heap.size) (fun _ => False) rfl rfl ?aP (fun _ hk => hk.elim) ?aF ?aO ?aB ?aS ?aL ?_; (case aP => exact rfl); (case aF => exact (fun k hk e => HF.out k hk e)); (case aO => exact (by (with_reducible repeat (first | apply Kd.R_alloc | apply Kd.R_drewN | apply Kd.R_drew)); exact HO2.out)); (case aB => exact (by repeat (first | (with_reducible first | exact HB2.out | apply below_alloc | apply pw_below_drewN | apply below_drew1) | exact HB2.out))); (case aS => exact (below_size (by repeat (first | (with_reducible first | exact HB2.out | apply below_alloc | apply pw_below_drewN | apply below_drew1) | exact HB2.out)))); (case aL => omega); intro v9 w9 ho hb hg hat; have HO9 := Aside0.mk ho; have HB9 := Aside0.mk hb; have HI9 := Aside0.mk (show w9.heap[w.heap.size]? = _ from (hg.block w.heap.size HWL.out (fun e => HON.out e)).trans HI2.out); clear ho hb hg hat))
          go_roundg g
          case measure => omega
          case rel => exact ⟨i + 1, i + 1, out ++ [s.extract fr (i + 1)], by rw [Int.natCast_add, Int.natCast_one], Nat.le_refl _, by have := HX.out; omega, by simp; omega, HI9, HO9, HV', HB9⟩
        · rw [if_neg h10] at hv
          have x1 : ((c : Int) == 10) = false := beq_eq_false_iff_ne.mpr h10
          have x2 : ((c : Int) != 10) = true := bne_iff_ne.mpr h10
          have HO2 := Aside0.mk (Kd.R_step (w1 := wr.iterAt w.heap.size s (i + 1)) HO.out (fun k hk _ => Lib.iterAt_other wr w.heap.size k s (i + 1) hk))
          have HV' := Aside0.mk hv
          have HFR := Aside0.mk hfr
          clear hv hi h10
          go_wp2
          go_roundg g
          case measure => omega
          case rel => exact ⟨i + 1, fr, out, rfl, by have := HFR.out; omega, by have := HX.out; omega, by omega, HI2, HO2, HV', HB2⟩
      · have hnx := fun ty => Lib.run_next_any_at (P := Tryd.prog) wr w.heap.size s i ty HI.out hlt
        obtain ⟨q1, q2, q3⟩ := decode_hi3 s i hlt (by omega)
        obtain ⟨q4, q5⟩ := decode_span s i hlt (by omega)
        obtain ⟨c, hc⟩ : ∃ c : Nat, c = (Utf8.decode s i).1 := ⟨_, rfl⟩
        obtain ⟨dd, hd⟩ : ∃ dd : Nat, dd = (Utf8.decode s i).2 := ⟨_, rfl⟩
        rw [← hc, ← hd] at hnx
        rw [← hc] at q1 q2
        rw [← hd] at q3 q4 q5
        clear hc hd ha
        have hv := HV.out
        have e : g + 1 = dd + (s.size - (i + dd)) := by omega
        rw [e, splitL_skip s dd _ i fr out q5] at hv
        have HI2 := Aside0.mk (Lib.iterAt_heap wr w.heap.size s i (i + dd) HI.out)
        have HB2 := Aside0.mk (Lib.below_iterAt HB1.out (Nat.le_refl _) s (i + dd))
        have x1 : ((c : Int) == 10) = false := beq_eq_false_iff_ne.mpr (by omega)
        have x2 : ((c : Int) != 10) = true := bne_iff_ne.mpr (by omega)
        have HO2 := Aside0.mk (Kd.R_step (w1 := wr.iterAt w.heap.size s (i + dd)) HO.out (fun k hk _ => Lib.iterAt_other wr w.heap.size k s (i + dd) hk))
        have HV' := Aside0.mk hv
        have HFR := Aside0.mk hfr
        have HQ3 := Aside0.mk q3
        have HQ4 := Aside0.mk q4
        clear hv hi q5 e q1 q2 q3 q4
        go_wp2
        go_roundg (s.size - (i + dd))
        case measure => have := HX.out; have := HQ3.out; have := HQ4.out; omega
        case rel => exact ⟨i + dd, fr, out, rfl, by have := HFR.out; omega, by have := HQ4.out; omega, by omega, HI2, HO2, HV', HB2⟩

theorem idx_range : ∀ (l : List UInt8) (c : UInt8), (Lib.indexByte l c = -1) ∨ (0 ≤ Lib.indexByte l c ∧ Lib.indexByte l c < (l.length : Int)) := by
  intro l c
  induction l with
  | nil => exact .inl rfl
  | cons a l ih =>
    unfold Lib.indexByte
    simp only [List.length_cons]
    split
    · exact .inr ⟨Int.le_refl _, by omega⟩
    · rcases ih with h | h
      · rw [h]
        exact .inl rfl
      · refine .inr ?_
        rw [show (Lib.indexByte l c == -1) = false from beq_eq_false_iff_ne.2 (by omega)]
        simp only [Bool.false_eq_true, if_false]
        omega
def cut32 (s : ByteArray) : ByteArray × ByteArray × Bool := if 0 ≤ Lib.indexByte s.data.toList 32 then (s.extract 0 (Lib.indexByte s.data.toList 32).toNat, s.extract ((Lib.indexByte s.data.toList 32).toNat + 1) s.size, true) else (s, ⟨#[]⟩, false)
set_option maxHeartbeats 8000000 in
set_option maxRecDepth 100000 in
theorem slCut_calls (s : ByteArray) (hs : s.size ≤ 1000000) (w : World) : Calls Tryd.prog 66 #[.string s, .string ⟨#[32]⟩] w fun e w' => e = .returned (.tuple #[.string (cut32 s).1, .string (cut32 s).2.1, .bool (cut32 s).2.2]) ∧ Below w.heap.size w w' := by
  have HI := Aside0.mk (fun W => Tryd.stringslite_Index_one s 32 W)
  have hlen : s.data.toList.length = s.size := Array.length_toList ..
  unfold cut32
  rcases idx_range s.data.toList 32 with h | ⟨h1, h2⟩
  · rw [h] at HI ⊢
    rw [if_neg (by decide)]
    go_enter Tryd.func66, Tryd.ntmps66
    go_wp2_with (first | (go_at_call 76; (with_reducible refine (HI.out _).mono ?_); rintro e w1 ⟨rfl, rfl⟩))
    go_ret3
    exact ⟨rfl, Below.refl _ _⟩
  · rw [if_pos h1]
    obtain ⟨i, hi⟩ : ∃ i : Nat, (i : Int) = Lib.indexByte s.data.toList 32 := ⟨(Lib.indexByte s.data.toList 32).toNat, by omega⟩
    rw [← hi] at HI h1 h2 ⊢
    rw [Int.toNat_natCast]
    have hil : i < s.size := by omega
    have g1 : decide ((0 : Int) ≤ (i : Int)) = true := decide_eq_true (by omega)
    have hw1 : IntKind.i64.wrap ((i : Int) + 1) = (i : Int) + 1 := (i64_w _).trans (by unfold wrap64; omega)
    have hq1 : ((i : Int) + 1 ≤ (s.size : Int)) = True := eq_true (by omega)
    have hq2 : ((i : Int) ≤ (s.size : Int)) = True := eq_true (by omega)
    have hq3 : ((i : Int) + 1).toNat = i + 1 := by omega
    have hq4 : (0 ≤ (i : Int) + 1) = True := eq_true (by omega)
    clear hi hlen h1 h2
    go_enter Tryd.func66, Tryd.ntmps66
    go_wp2_with (first | (go_at_call 76; (with_reducible refine (HI.out _).mono ?_); rintro e w1 ⟨rfl, rfl⟩))
    go_region
    all_goals go_wp2
    all_goals go_ret3
    all_goals exact ⟨rfl, pw_below_drewN (Below.refl _ _) 1⟩
set_option maxHeartbeats 8000000 in
set_option maxRecDepth 100000 in
theorem Cut_calls (s : ByteArray) (hs : s.size ≤ 1000000) (w : World) : Calls Tryd.prog 51 #[.string s, .string ⟨#[32]⟩] w fun e w' => e = .returned (.tuple #[.string (cut32 s).1, .string (cut32 s).2.1, .bool (cut32 s).2.2]) ∧ Below w.heap.size w w' := by
  have HC := Aside0.mk (slCut_calls s hs)
  generalize cut32 s = t at *
  obtain ⟨t1, t2, t3⟩ := t
  go_enter Tryd.func51, Tryd.ntmps51
  go_wp2_with (first | (go_at_call 66; (with_reducible refine (HC.out _).mono ?_); rintro e w1 ⟨rfl, hb1⟩; have HB1 := Aside0.mk hb1; clear hb1))
  go_ret3
  exact ⟨rfl, HB1.out⟩

theorem cut32_size (s : ByteArray) : (cut32 s).1.size ≤ s.size ∧ (cut32 s).2.1.size ≤ s.size := by
  unfold cut32
  split
  · simp only [ByteArray.size_extract]
    omega
  · exact ⟨Nat.le_refl _, Nat.zero_le _⟩
set_option maxHeartbeats 8000000 in
set_option maxRecDepth 100000 in
theorem readA (s b1 h1 h2 x1 x2 : ByteArray) (b2 h3 x3 : Bool) (hs : s.size ≤ 1000000) (hb : strings_CutSuffix.f s ⟨#[10]⟩ = some (b1, b2)) (hc1 : cut32 b1 = (h1, h2, h3)) (hc2 : cut32 h2 = (x1, x2, x3)) (hz1 : b1.size ≤ 1000000) (hz2 : h2.size ≤ 1000000) (hg : (b2 && h3 && x3) = false) (w : World) : Calls Tryd.prog 30 #[.string s] w fun e w' => e = .returned (.tuple #[decV z35, .bool false]) ∧ Below w.heap.size w w' := by
  have hu35 := Tryd.underlying35
  have HCS := Aside0.mk (fun W => strings_CutSuffix.calls s ⟨#[10]⟩ b1 b2 W hb)
  have HC1 := Aside0.mk (Cut_calls b1 hz1)
  have HC2 := Aside0.mk (Cut_calls h2 hz2)
  rw [hc1] at HC1
  rw [hc2] at HC2
  clear hb hc1 hc2 hz1 hz2
  cases b2 <;> cases h3 <;> cases x3 <;> first
    | (exact absurd hg (by decide))
    | (go_enter Tryd.func30, Tryd.ntmps30
       go_wp2_with (first | (go_at_call 50; ((with_reducible refine (HCS.out _).mono ?_); rintro e w2 ⟨rfl, hd2⟩; obtain ⟨nd, rfl⟩ := hd2.out; have HZ2 : Aside0 (((w.alloc (.cells #[.int .u64 0, .int .i64 0, .string ⟨#[]⟩, .string ⟨#[]⟩] 35 (0, 0))).drewN nd).heap[w.heap.size]? = some (.cells #[.int .u64 0, .int .i64 0, .string ⟨#[]⟩, .string ⟨#[]⟩] 35 (0, 0))) := ⟨blk_new w _⟩; have HB2 : Aside0 (Below w.heap.size w ((w.alloc (.cells #[.int .u64 0, .int .i64 0, .string ⟨#[]⟩, .string ⟨#[]⟩] 35 (0, 0))).drewN nd)) := ⟨pw_below_drewN (below_alloc (Below.refl _ _) _) nd⟩)) | (go_at_call 51; ((with_reducible refine (HC1.out _).mono ?_); rintro e w3 ⟨rfl, hb3⟩; have HZ3 := Aside0.mk (blk_below HZ2.out hb3); have HB3 := Aside0.mk (below_step HB2.out hb3); clear hb3)) | (go_at_call 51; ((with_reducible refine (HC2.out _).mono ?_); rintro e w4 ⟨rfl, hb4⟩; have HZ4 := Aside0.mk (blk_below HZ3.out hb4); have HB4 := Aside0.mk (below_step HB3.out hb4); have hz := HZ4.out; have hz0 := (blk_cell hz 0).trans rfl; have hz1 := (blk_cell hz 1).trans rfl; have hz2 := (blk_cell hz 2).trans rfl; have hz3 := (blk_cell hz 3).trans rfl; have hf0 := blk_frozen hz 0; have hf1 := blk_frozen hz 1; have hf2 := blk_frozen hz 2; have hf3 := blk_frozen hz 3; clear hb4 hz)))
       refine bodyPost_ret (results_ct rfl _ _ w.heap.size 35 #[.int .u64 0, .int .i64 0, .string ⟨#[]⟩, .string ⟨#[]⟩] (0, 0) _ rfl (blk_put (blk_put (blk_put (blk_put HZ4.out 0 _ rfl) 1 _ rfl) 2 _ rfl) 3 _ rfl) hu35 rfl (by kernel_rfl)) rfl ?_
       exact ⟨rfl, below_set (below_set (below_set (below_set HB4.out (Nat.le_refl _)) (Nat.le_refl _)) (Nat.le_refl _)) (Nat.le_refl _)⟩)

set_option maxHeartbeats 8000000 in
set_option maxRecDepth 100000 in
theorem readB (s b1 h1 h2 x1 x2 : ByteArray) (hs : s.size ≤ 1000000) (hb : strings_CutSuffix.f s ⟨#[10]⟩ = some (b1, true)) (hc1 : cut32 b1 = (h1, h2, true)) (hc2 : cut32 h2 = (x1, x2, true)) (hz1 : b1.size ≤ 1000000) (hz2 : h2.size ≤ 1000000) (key ec : Int) (hp : digest_Parse.f h1 = some (key, ec)) (hne : ec ≠ 0) (w : World) (hG : Glob w) : Calls Tryd.prog 30 #[.string s] w fun e w' => e = .returned (.tuple #[decV z35, .bool false]) ∧ Below w.heap.size w w' := by
  have hu35 := Tryd.underlying35
  have HG := Aside0.mk hG
  have HCS := Aside0.mk (fun W => strings_CutSuffix.calls s ⟨#[10]⟩ b1 true W hb)
  have HC1 := Aside0.mk (Cut_calls b1 hz1)
  have HC2 := Aside0.mk (Cut_calls h2 hz2)
  rw [hc1] at HC1
  rw [hc2] at HC2
  have HP := Aside0.mk hp
  have g1 : (ec == 0) = false := beq_eq_false_iff_ne.2 hne
  have g2 : (ec != 0) = true := bne_iff_ne.2 hne
  clear hb hc1 hc2 hz1 hz2 hp hG
  go_enter Tryd.func30, Tryd.ntmps30
  go_wp2_with (first | (go_at_call 50; ((with_reducible refine (HCS.out _).mono ?_); rintro e w2 ⟨rfl, hd2⟩; obtain ⟨nd, rfl⟩ := hd2.out; have HZ2 : Aside0 (((w.alloc (.cells #[.int .u64 0, .int .i64 0, .string ⟨#[]⟩, .string ⟨#[]⟩] 35 (0, 0))).drewN nd).heap[w.heap.size]? = some (.cells #[.int .u64 0, .int .i64 0, .string ⟨#[]⟩, .string ⟨#[]⟩] 35 (0, 0))) := ⟨blk_new w _⟩; have HB2 : Aside0 (Below w.heap.size w ((w.alloc (.cells #[.int .u64 0, .int .i64 0, .string ⟨#[]⟩, .string ⟨#[]⟩] 35 (0, 0))).drewN nd)) := ⟨pw_below_drewN (below_alloc (Below.refl _ _) _) nd⟩)) | (go_at_call 51; ((with_reducible refine (HC1.out _).mono ?_); rintro e w3 ⟨rfl, hb3⟩; have HZ3 := Aside0.mk (blk_below HZ2.out hb3); have HB3 := Aside0.mk (below_step HB2.out hb3); clear hb3)) | (go_at_call 51; ((with_reducible refine (HC2.out _).mono ?_); rintro e w4 ⟨rfl, hb4⟩; have HZ4 := Aside0.mk (blk_below HZ3.out hb4); have HB4 := Aside0.mk (below_step HB3.out hb4); have hz := HZ4.out; have hz0 := (blk_cell hz 0).trans rfl; have hz1 := (blk_cell hz 1).trans rfl; have hz2 := (blk_cell hz 2).trans rfl; have hz3 := (blk_cell hz 3).trans rfl; have hf0 := blk_frozen hz 0; have hf1 := blk_frozen hz 1; have hf2 := blk_frozen hz 2; have hf3 := blk_frozen hz 3; clear hb4 hz)) | (go_at_call 52; go_loud ((with_reducible refine (digest_Parse.calls h1 key ec _ (Glob.below HB4.out HG.out) HP.out).mono ?_); rintro e w5 ⟨rfl, hd5⟩; obtain ⟨nd5, rfl⟩ := hd5.out)))
  refine bodyPost_ret (results_ct rfl _ _ w.heap.size 35 #[.int .u64 0, .int .i64 0, .string ⟨#[]⟩, .string ⟨#[]⟩] (0, 0) _ rfl (blk_put (blk_put (blk_put (blk_put (blk_drewN HZ4.out _) 0 _ rfl) 1 _ rfl) 2 _ rfl) 3 _ rfl) hu35 rfl (by kernel_rfl)) rfl ?_
  exact ⟨rfl, below_set (below_set (below_set (below_set (pw_below_drewN HB4.out _) (Nat.le_refl _)) (Nat.le_refl _)) (Nat.le_refl _)) (Nat.le_refl _)⟩

end Go.Proofs.YtfajgjmhfpabiaaDoor.Scratch
