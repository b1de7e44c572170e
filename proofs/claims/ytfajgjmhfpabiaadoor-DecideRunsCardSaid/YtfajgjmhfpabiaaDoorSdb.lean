/- Read, last cases: proved here by steps through the program's text; no condition but those that stand in each theorem. -/
import Derived.WalkSpells
import Derived.Deep.RegionLaw
import Derived.Lib.OthersKept
import Derived.Test.YtfajgjmhfpabiaaDoorShelf
import Derived.Test.YtfajgjmhfpabiaaDoorQ0
import Derived.Test.YtfajgjmhfpabiaaDoorQ4
import Derived.Test.YtfajgjmhfpabiaaDoorQ5
import Derived.Test.YtfajgjmhfpabiaaDoorSc
namespace Go.Proofs.YtfajgjmhfpabiaaDoor.Scratch
set_option linter.unusedVariables false
open Go.RowKit Go.Proofs.YtfajgjmhfpabiaaDoorW.PrintWords Go.Proofs.YtfajgjmhfpabiaaDoorW.PrintLast Go.Proofs.YtfajgjmhfpabiaaDoorW.PrintMore Go.Proofs.YtfajgjmhfpabiaaDoor.Q
attribute [local go_sem] max2_int min2_int max_two min_two max_three min_three max_four min_four
set_option maxHeartbeats 16000000 in
set_option maxRecDepth 100000 in
theorem readCLF (s b1 h1 h2 x1 x2 y1 y2 : ByteArray) (y3 : Bool) (hs : s.size ≤ 1000000) (hb : strings_CutSuffix.f s ⟨#[10]⟩ = some (b1, true)) (hc1 : cut32 b1 = (h1, h2, true)) (hc2 : cut32 h2 = (x1, x2, true)) (hc3 : cut32 x2 = (y1, y2, y3)) (hz1 : b1.size ≤ 1000000) (hz2 : h2.size ≤ 1000000) (hz3 : x2.size ≤ 1000000) (key : Int) (hp : digest_Parse.f h1 = some (key, 0)) (hx : (x1.toList == [114, 105, 103, 104, 116]) = false) (f : Nat) (er : Int) (hfa : decide_fault.f f key 1 y1 y2 = some er) (hne : er ≠ 0) (w : World) (hG : Glob w) : Calls Tryd.prog 30 #[.string s] w fun e w' => e = .returned (.tuple #[decV ⟨key, 1, y1, y2⟩, .bool false]) ∧ Below w.heap.size w w' := by
  have hu35 := Tryd.underlying35
  have HG := Aside0.mk hG
  have HCS := Aside0.mk (fun W => strings_CutSuffix.calls s ⟨#[10]⟩ b1 true W hb)
  have HC1 := Aside0.mk (Cut_calls b1 hz1)
  have HC2 := Aside0.mk (Cut_calls h2 hz2)
  have HC3 := Aside0.mk (Cut_calls x2 hz3)
  rw [hc1] at HC1
  rw [hc2] at HC2
  rw [hc3] at HC3
  have HP := Aside0.mk hp
  have HFA := Aside0.mk hfa
  have g1 : (er == 0) = false := beq_eq_false_iff_ne.2 hne
  have g2 : (er != 0) = true := bne_iff_ne.2 hne
  have g3 : (x1.toList != [114, 105, 103, 104, 116]) = true := by rw [bne, hx]; rfl
  clear hb hc1 hc2 hc3 hz1 hz2 hz3 hp hG hfa hne
  go_enter Tryd.func30, Tryd.ntmps30
  go_wp2_with (first | (go_at_call 50; ((with_reducible refine (HCS.out _).mono ?_); rintro e w2 ⟨rfl, hd2⟩; obtain ⟨nd, rfl⟩ := hd2.out; have HZ2 : Aside0 (((w.alloc (.cells #[.int .u64 0, .int .i64 0, .string ⟨#[]⟩, .string ⟨#[]⟩] 35 (0, 0))).drewN nd).heap[w.heap.size]? = some (.cells #[.int .u64 0, .int .i64 0, .string ⟨#[]⟩, .string ⟨#[]⟩] 35 (0, 0))) := ⟨blk_new w _⟩; have HB2 : Aside0 (Below w.heap.size w ((w.alloc (.cells #[.int .u64 0, .int .i64 0, .string ⟨#[]⟩, .string ⟨#[]⟩] 35 (0, 0))).drewN nd)) := ⟨pw_below_drewN (below_alloc (Below.refl _ _) _) nd⟩)) | (go_at_call 51; ((with_reducible refine (HC1.out _).mono ?_); rintro e w3 ⟨rfl, hb3⟩; have HZ3 := Aside0.mk (blk_below HZ2.out hb3); have HB3 := Aside0.mk (below_step HB2.out hb3); clear hb3)) | (go_at_call 51; ((with_reducible refine (HC2.out _).mono ?_); rintro e w4 ⟨rfl, hb4⟩; have HZ4 := Aside0.mk (blk_below HZ3.out hb4); have HB4 := Aside0.mk (below_step HB3.out hb4); clear hb4)) | (go_at_call 52; ((with_reducible refine (digest_Parse.calls h1 key 0 _ (Glob.below HB4.out HG.out) HP.out).mono ?_); rintro e w5 ⟨rfl, hd5⟩; obtain ⟨nd5, rfl⟩ := hd5.out; have hz : ((w4.drewN nd5).alloc (.cells #[.int .u64 0, .int .i64 0, .string ⟨#[]⟩, .string ⟨#[]⟩] 35 (0, 0))).heap[w4.heap.size]? = some (.cells #[.int .u64 0, .int .i64 0, .string ⟨#[]⟩, .string ⟨#[]⟩] 35 (0, 0)) := blk_new (w4.drewN nd5) _; have hz0 := (blk_cell hz 0).trans rfl; have hz1 := (blk_cell hz 1).trans rfl; have hz2 := (blk_cell hz 2).trans rfl; have hz3 := (blk_cell hz 3).trans rfl; have hf0 := blk_frozen hz 0; have hf1 := blk_frozen hz 1; have hf2 := blk_frozen hz 2; have hf3 := blk_frozen hz 3; have HZ5 := Aside0.mk hz; clear hz; have HN : Aside0 (w.heap.size < w4.heap.size) := ⟨blk_lt HZ4.out⟩)) | (go_at_call 51; ((with_reducible refine (HC3.out _).mono ?_); rintro e w6 ⟨rfl, hb6⟩; clear hz0 hz1 hz2 hz3 hf0 hf1 hf2 hf3; have hz : w6.heap[w4.heap.size]? = some (.cells #[.int .u64 key, .int .i64 1, .string ⟨#[]⟩, .string ⟨#[]⟩] 35 (0, 0)) := blk_below (blk_put (blk_put (blk_put (blk_put HZ5.out 0 _ rfl) 1 _ rfl) 2 _ rfl) 3 _ rfl) hb6; have HR6 : Aside0 (w6.heap[w.heap.size]? = some (.cells #[.int .u64 0, .int .i64 0, .string ⟨#[]⟩, .string ⟨#[]⟩] 35 (0, 0))) := ⟨blk_below (blk_far (blk_far (blk_far (blk_far (blk_alloc (blk_drewN HZ4.out _) _) (Nat.ne_of_lt HN.out) _) (Nat.ne_of_lt HN.out) _) (Nat.ne_of_lt HN.out) _) (Nat.ne_of_lt HN.out) _) hb6⟩; have HB6 : Aside0 (Below w.heap.size w w6) := ⟨below_step (below_set (below_set (below_set (below_set (below_alloc (pw_below_drewN HB4.out _) _) (Nat.le_of_lt HN.out)) (Nat.le_of_lt HN.out)) (Nat.le_of_lt HN.out)) (Nat.le_of_lt HN.out)) hb6⟩; have hz0 := (blk_cell hz 0).trans rfl; have hz1 := (blk_cell hz 1).trans rfl; have hz2 := (blk_cell hz 2).trans rfl; have hz3 := (blk_cell hz 3).trans rfl; have hf0 := blk_frozen hz 0; have hf1 := blk_frozen hz 1; have hf2 := blk_frozen hz 2; have hf3 := blk_frozen hz 3; have HZ6 := Aside0.mk hz; clear hz hb6)))
  have hz7 : ((w6.setCell ⟨w4.heap.size, 2, none⟩ (.string y1)).setCell ⟨w4.heap.size, 3, none⟩ (.string y2)).heap[w4.heap.size]? = some (.cells #[.int .u64 key, .int .i64 1, .string y1, .string y2] 35 (0, 0)) := blk_put (blk_put HZ6.out 2 _ rfl) 3 _ rfl
  have hr7 : ((w6.setCell ⟨w4.heap.size, 2, none⟩ (.string y1)).setCell ⟨w4.heap.size, 3, none⟩ (.string y2)).heap[w.heap.size]? = some (.cells #[.int .u64 0, .int .i64 0, .string ⟨#[]⟩, .string ⟨#[]⟩] 35 (0, 0)) := blk_far (blk_far HR6.out (Nat.ne_of_lt HN.out) _) (Nat.ne_of_lt HN.out) _
  have hb7 : Below w.heap.size w ((w6.setCell ⟨w4.heap.size, 2, none⟩ (.string y1)).setCell ⟨w4.heap.size, 3, none⟩ (.string y2)) := below_set (below_set HB6.out (Nat.le_of_lt HN.out)) (Nat.le_of_lt HN.out)
  clear hz0 hz1 hz2 hz3 hf0 hf1 hf2 hf3 HZ6 HR6 HB6 HZ5 HZ4 HZ3 HZ2 HB2 HB3 HB4 HC1 HC2 HC3 HCS HP
  generalize hW : ((w6.setCell ⟨w4.heap.size, 2, none⟩ (.string y1)).setCell ⟨w4.heap.size, 3, none⟩ (.string y2)) = W at *
  have HZ7 : Aside0 (W.drew.heap[w4.heap.size]? = some (.cells #[.int .u64 key, .int .i64 1, .string y1, .string y2] 35 (0, 0))) := ⟨hz7⟩
  have HR7 : Aside0 (W.drew.heap[w.heap.size]? = some (.cells #[.int .u64 0, .int .i64 0, .string ⟨#[]⟩, .string ⟨#[]⟩] 35 (0, 0))) := ⟨hr7⟩
  have HB7 : Aside0 (Below w.heap.size w W.drew) := ⟨pw_below_drewN hb7 1⟩
  have hz0 := (blk_cell HZ7.out 0).trans rfl
  have hz1 := (blk_cell HZ7.out 1).trans rfl
  have hz2 := (blk_cell HZ7.out 2).trans rfl
  have hz3 := (blk_cell HZ7.out 3).trans rfl
  clear hW hz7 hr7 hb7
  first | go_region_law (go_simp; first | (go_at_call 33; ((with_reducible refine (decide_fault.calls f key 1 y1 y2 er _ HFA.out).mono ?_); rintro e w8 ⟨rfl, hb8⟩; have hy := blk_below HR7.out hb8; have HR8 := Aside0.mk hy; have HB8 := Aside0.mk (below_step HB7.out hb8); have hx := blk_below HZ7.out hb8; have HZ8 := Aside0.mk hx; have hx80 := (blk_cell hx 0).trans rfl; have hx81 := (blk_cell hx 1).trans rfl; have hx82 := (blk_cell hx 2).trans rfl; have hx83 := (blk_cell hx 3).trans rfl; have hy80 := (blk_cell hy 0).trans rfl; have hy81 := (blk_cell hy 1).trans rfl; have hy82 := (blk_cell hy 2).trans rfl; have hy83 := (blk_cell hy 3).trans rfl; have hf80 := blk_frozen hy 0; have hf81 := blk_frozen hy 1; have hf82 := blk_frozen hy 2; have hf83 := blk_frozen hy 3; clear hx hy hb8))) | fail
  all_goals go_wp2
  all_goals refine bodyPost_ret (results_ct rfl _ _ w.heap.size 35 #[.int .u64 key, .int .i64 1, .string y1, .string y2] (0, 0) _ rfl (blk_put (cs := #[.int .u64 key, .int .i64 1, .string y1, .string ⟨#[]⟩]) (blk_put (cs := #[.int .u64 key, .int .i64 1, .string ⟨#[]⟩, .string ⟨#[]⟩]) (blk_put (cs := #[.int .u64 key, .int .i64 0, .string ⟨#[]⟩, .string ⟨#[]⟩]) (blk_put HR8.out 0 _ rfl) 1 _ rfl) 2 _ rfl) 3 _ rfl) hu35 rfl (by kernel_rfl)) rfl ?_
  all_goals exact ⟨rfl, below_set (below_set (below_set (below_set HB8.out (Nat.le_refl _)) (Nat.le_refl _)) (Nat.le_refl _)) (Nat.le_refl _)⟩

set_option maxHeartbeats 16000000 in
set_option maxRecDepth 100000 in
theorem readCLO (s b1 h1 h2 x1 x2 y1 y2 : ByteArray) (y3 : Bool) (hs : s.size ≤ 1000000) (hb : strings_CutSuffix.f s ⟨#[10]⟩ = some (b1, true)) (hc1 : cut32 b1 = (h1, h2, true)) (hc2 : cut32 h2 = (x1, x2, true)) (hc3 : cut32 x2 = (y1, y2, y3)) (hz1 : b1.size ≤ 1000000) (hz2 : h2.size ≤ 1000000) (hz3 : x2.size ≤ 1000000) (key : Int) (hp : digest_Parse.f h1 = some (key, 0)) (hx : (x1.toList == [114, 105, 103, 104, 116]) = false) (f : Nat) (hfa : decide_fault.f f key 1 y1 y2 = some 0) (ln : ByteArray) (hln : decide_line.f key 1 y1 y2 = some ln) (bb : Bool) (hbb : (ln.toList == s.toList) = bb) (w : World) (hG : Glob w) : Calls Tryd.prog 30 #[.string s] w fun e w' => e = .returned (.tuple #[decV ⟨key, 1, y1, y2⟩, .bool bb]) ∧ Below w.heap.size w w' := by
  have hu35 := Tryd.underlying35
  have HG := Aside0.mk hG
  have HCS := Aside0.mk (fun W => strings_CutSuffix.calls s ⟨#[10]⟩ b1 true W hb)
  have HC1 := Aside0.mk (Cut_calls b1 hz1)
  have HC2 := Aside0.mk (Cut_calls h2 hz2)
  have HC3 := Aside0.mk (Cut_calls x2 hz3)
  rw [hc1] at HC1
  rw [hc2] at HC2
  rw [hc3] at HC3
  have HP := Aside0.mk hp
  have HFA := Aside0.mk hfa
  have HLN := Aside0.mk hln
  have g4 : (ln.toList != s.toList) = !bb := by rw [bne, hbb]
  have g3 : (x1.toList != [114, 105, 103, 104, 116]) = true := by rw [bne, hx]; rfl
  clear hb hc1 hc2 hc3 hz1 hz2 hz3 hp hG hfa hln
  go_enter Tryd.func30, Tryd.ntmps30
  go_wp2_with (first | (go_at_call 50; ((with_reducible refine (HCS.out _).mono ?_); rintro e w2 ⟨rfl, hd2⟩; obtain ⟨nd, rfl⟩ := hd2.out; have HZ2 : Aside0 (((w.alloc (.cells #[.int .u64 0, .int .i64 0, .string ⟨#[]⟩, .string ⟨#[]⟩] 35 (0, 0))).drewN nd).heap[w.heap.size]? = some (.cells #[.int .u64 0, .int .i64 0, .string ⟨#[]⟩, .string ⟨#[]⟩] 35 (0, 0))) := ⟨blk_new w _⟩; have HB2 : Aside0 (Below w.heap.size w ((w.alloc (.cells #[.int .u64 0, .int .i64 0, .string ⟨#[]⟩, .string ⟨#[]⟩] 35 (0, 0))).drewN nd)) := ⟨pw_below_drewN (below_alloc (Below.refl _ _) _) nd⟩)) | (go_at_call 51; ((with_reducible refine (HC1.out _).mono ?_); rintro e w3 ⟨rfl, hb3⟩; have HZ3 := Aside0.mk (blk_below HZ2.out hb3); have HB3 := Aside0.mk (below_step HB2.out hb3); clear hb3)) | (go_at_call 51; ((with_reducible refine (HC2.out _).mono ?_); rintro e w4 ⟨rfl, hb4⟩; have HZ4 := Aside0.mk (blk_below HZ3.out hb4); have HB4 := Aside0.mk (below_step HB3.out hb4); clear hb4)) | (go_at_call 52; ((with_reducible refine (digest_Parse.calls h1 key 0 _ (Glob.below HB4.out HG.out) HP.out).mono ?_); rintro e w5 ⟨rfl, hd5⟩; obtain ⟨nd5, rfl⟩ := hd5.out; have hz : ((w4.drewN nd5).alloc (.cells #[.int .u64 0, .int .i64 0, .string ⟨#[]⟩, .string ⟨#[]⟩] 35 (0, 0))).heap[w4.heap.size]? = some (.cells #[.int .u64 0, .int .i64 0, .string ⟨#[]⟩, .string ⟨#[]⟩] 35 (0, 0)) := blk_new (w4.drewN nd5) _; have hz0 := (blk_cell hz 0).trans rfl; have hz1 := (blk_cell hz 1).trans rfl; have hz2 := (blk_cell hz 2).trans rfl; have hz3 := (blk_cell hz 3).trans rfl; have hf0 := blk_frozen hz 0; have hf1 := blk_frozen hz 1; have hf2 := blk_frozen hz 2; have hf3 := blk_frozen hz 3; have HZ5 := Aside0.mk hz; clear hz; have HN : Aside0 (w.heap.size < w4.heap.size) := ⟨blk_lt HZ4.out⟩)) | (go_at_call 51; ((with_reducible refine (HC3.out _).mono ?_); rintro e w6 ⟨rfl, hb6⟩; clear hz0 hz1 hz2 hz3 hf0 hf1 hf2 hf3; have hz : w6.heap[w4.heap.size]? = some (.cells #[.int .u64 key, .int .i64 1, .string ⟨#[]⟩, .string ⟨#[]⟩] 35 (0, 0)) := blk_below (blk_put (blk_put (blk_put (blk_put HZ5.out 0 _ rfl) 1 _ rfl) 2 _ rfl) 3 _ rfl) hb6; have HR6 : Aside0 (w6.heap[w.heap.size]? = some (.cells #[.int .u64 0, .int .i64 0, .string ⟨#[]⟩, .string ⟨#[]⟩] 35 (0, 0))) := ⟨blk_below (blk_far (blk_far (blk_far (blk_far (blk_alloc (blk_drewN HZ4.out _) _) (Nat.ne_of_lt HN.out) _) (Nat.ne_of_lt HN.out) _) (Nat.ne_of_lt HN.out) _) (Nat.ne_of_lt HN.out) _) hb6⟩; have HB6 : Aside0 (Below w.heap.size w w6) := ⟨below_step (below_set (below_set (below_set (below_set (below_alloc (pw_below_drewN HB4.out _) _) (Nat.le_of_lt HN.out)) (Nat.le_of_lt HN.out)) (Nat.le_of_lt HN.out)) (Nat.le_of_lt HN.out)) hb6⟩; have hz0 := (blk_cell hz 0).trans rfl; have hz1 := (blk_cell hz 1).trans rfl; have hz2 := (blk_cell hz 2).trans rfl; have hz3 := (blk_cell hz 3).trans rfl; have hf0 := blk_frozen hz 0; have hf1 := blk_frozen hz 1; have hf2 := blk_frozen hz 2; have hf3 := blk_frozen hz 3; have HZ6 := Aside0.mk hz; clear hz hb6)))
  have hz7 : ((w6.setCell ⟨w4.heap.size, 2, none⟩ (.string y1)).setCell ⟨w4.heap.size, 3, none⟩ (.string y2)).heap[w4.heap.size]? = some (.cells #[.int .u64 key, .int .i64 1, .string y1, .string y2] 35 (0, 0)) := blk_put (blk_put HZ6.out 2 _ rfl) 3 _ rfl
  have hr7 : ((w6.setCell ⟨w4.heap.size, 2, none⟩ (.string y1)).setCell ⟨w4.heap.size, 3, none⟩ (.string y2)).heap[w.heap.size]? = some (.cells #[.int .u64 0, .int .i64 0, .string ⟨#[]⟩, .string ⟨#[]⟩] 35 (0, 0)) := blk_far (blk_far HR6.out (Nat.ne_of_lt HN.out) _) (Nat.ne_of_lt HN.out) _
  have hb7 : Below w.heap.size w ((w6.setCell ⟨w4.heap.size, 2, none⟩ (.string y1)).setCell ⟨w4.heap.size, 3, none⟩ (.string y2)) := below_set (below_set HB6.out (Nat.le_of_lt HN.out)) (Nat.le_of_lt HN.out)
  clear hz0 hz1 hz2 hz3 hf0 hf1 hf2 hf3 HZ6 HR6 HB6 HZ5 HZ4 HZ3 HZ2 HB2 HB3 HB4 HC1 HC2 HC3 HCS HP
  generalize hW : ((w6.setCell ⟨w4.heap.size, 2, none⟩ (.string y1)).setCell ⟨w4.heap.size, 3, none⟩ (.string y2)) = W at *
  have HZ7 : Aside0 (W.drew.heap[w4.heap.size]? = some (.cells #[.int .u64 key, .int .i64 1, .string y1, .string y2] 35 (0, 0))) := ⟨hz7⟩
  have HR7 : Aside0 (W.drew.heap[w.heap.size]? = some (.cells #[.int .u64 0, .int .i64 0, .string ⟨#[]⟩, .string ⟨#[]⟩] 35 (0, 0))) := ⟨hr7⟩
  have HB7 : Aside0 (Below w.heap.size w W.drew) := ⟨pw_below_drewN hb7 1⟩
  have hz0 := (blk_cell HZ7.out 0).trans rfl
  have hz1 := (blk_cell HZ7.out 1).trans rfl
  have hz2 := (blk_cell HZ7.out 2).trans rfl
  have hz3 := (blk_cell HZ7.out 3).trans rfl
  clear hW hz7 hr7 hb7
  first | go_region_law (go_simp; first | (go_at_call 33; ((with_reducible refine (decide_fault.calls f key 1 y1 y2 0 _ HFA.out).mono ?_); rintro e w8 ⟨rfl, hb8⟩; have hy := blk_below HR7.out hb8; have HR8 := Aside0.mk hy; have HB8 := Aside0.mk (below_step HB7.out hb8); have hx := blk_below HZ7.out hb8; have HZ8 := Aside0.mk hx; have hx80 := (blk_cell hx 0).trans rfl; have hx81 := (blk_cell hx 1).trans rfl; have hx82 := (blk_cell hx 2).trans rfl; have hx83 := (blk_cell hx 3).trans rfl; have hy80 := (blk_cell hy 0).trans rfl; have hy81 := (blk_cell hy 1).trans rfl; have hy82 := (blk_cell hy 2).trans rfl; have hy83 := (blk_cell hy 3).trans rfl; have hf80 := blk_frozen hy 0; have hf81 := blk_frozen hy 1; have hf82 := blk_frozen hy 2; have hf83 := blk_frozen hy 3; clear hx hy hb8)) | (go_at_call 39; ((with_reducible refine (decide_line.calls key 1 y1 y2 ln _ (Glob.below HB8.out HG.out) HLN.out).mono ?_); rintro e w9 ⟨rfl, hb9⟩; have hy := blk_below HR8.out hb9; have HR9 := Aside0.mk hy; have HB9 := Aside0.mk (below_step HB8.out hb9); have hx := blk_below HZ8.out hb9; have HZ9 := Aside0.mk hx; have hx90 := (blk_cell hx 0).trans rfl; have hx91 := (blk_cell hx 1).trans rfl; have hx92 := (blk_cell hx 2).trans rfl; have hx93 := (blk_cell hx 3).trans rfl; have hy90 := (blk_cell hy 0).trans rfl; have hy91 := (blk_cell hy 1).trans rfl; have hy92 := (blk_cell hy 2).trans rfl; have hy93 := (blk_cell hy 3).trans rfl; have hf90 := blk_frozen hy 0; have hf91 := blk_frozen hy 1; have hf92 := blk_frozen hy 2; have hf93 := blk_frozen hy 3; clear hx hy hb9))) | fail
  all_goals go_wp2
  all_goals refine bodyPost_ret (results_ct rfl _ _ w.heap.size 35 #[.int .u64 key, .int .i64 1, .string y1, .string y2] (0, 0) _ rfl (blk_put (cs := #[.int .u64 key, .int .i64 1, .string y1, .string ⟨#[]⟩]) (blk_put (cs := #[.int .u64 key, .int .i64 1, .string ⟨#[]⟩, .string ⟨#[]⟩]) (blk_put (cs := #[.int .u64 key, .int .i64 0, .string ⟨#[]⟩, .string ⟨#[]⟩]) (blk_put HR9.out 0 _ rfl) 1 _ rfl) 2 _ rfl) 3 _ rfl) hu35 rfl (by kernel_rfl)) rfl ?_
  all_goals exact ⟨rfl, below_set (below_set (below_set (below_set HB9.out (Nat.le_refl _)) (Nat.le_refl _)) (Nat.le_refl _)) (Nat.le_refl _)⟩

end Go.Proofs.YtfajgjmhfpabiaaDoor.Scratch
