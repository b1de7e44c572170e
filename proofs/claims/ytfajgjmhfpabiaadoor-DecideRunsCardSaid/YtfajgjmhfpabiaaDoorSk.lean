/- The examples of the laws return true: proved here by steps through the program's text; no condition but those that stand in each theorem. -/
import Derived.WalkSpells
import Derived.Deep.RegionLaw
import Derived.Lib.OthersKept
import Derived.Test.YtfajgjmhfpabiaaDoorShelf
import Derived.Test.YtfajgjmhfpabiaaDoorQ0
import Derived.Test.YtfajgjmhfpabiaaDoorQ4
import Derived.Test.YtfajgjmhfpabiaaDoorQ5
import Derived.Test.YtfajgjmhfpabiaaDoorSb
import Derived.Test.YtfajgjmhfpabiaaDoorSc
import Derived.Test.YtfajgjmhfpabiaaDoorSf
import Derived.Test.YtfajgjmhfpabiaaDoorSg
import Derived.Test.YtfajgjmhfpabiaaDoorSh
import Derived.Test.YtfajgjmhfpabiaaDoorSi
import Derived.Test.YtfajgjmhfpabiaaDoorSj
import Derived.Deep.QuietTactic
import Derived.BigQuiet
namespace Go.Proofs.YtfajgjmhfpabiaaDoor.Scratch
set_option linter.unusedVariables false
open Go.RowKit Go.Proofs.YtfajgjmhfpabiaaDoorW.PrintWords Go.Proofs.YtfajgjmhfpabiaaDoorW.PrintLast Go.Proofs.YtfajgjmhfpabiaaDoorW.PrintMore Go.Proofs.YtfajgjmhfpabiaaDoor.Q
attribute [local go_sem] max2_int min2_int max_two min_two max_three min_three max_four min_four
theorem lineA_size : lineA.size = 32 := rfl
theorem parseA_calls (w : World) (hG : Glob w) : Calls Tryd.prog 11 #[.string lineA] w fun e w' => ∃ pb, e = .returned (.tuple #[.pointer (some ⟨pb, 0, none⟩), .int .i64 0, .int .i64 0]) ∧ BookAt w' (fun k => w.heap.size ≤ k ∧ k < w'.heap.size) w.heap.size pb [dA] ∧ KeptS w w' (fun _ => False) := by
  refine (decide_Parse.calls lineA (by rw [lineA_size]; omega) w hG).mono fun e w' q => ?_
  rw [parseGoA] at q
  obtain ⟨⟨L, h1, _, _, pb, h2, h3⟩ | ⟨er, at_, h1, _⟩, hk⟩ := q
  · obtain rfl := Option.some.inj (Prod.mk.inj h1).1
    exact ⟨pb, h2, h3, hk⟩
  · exact absurd (Prod.mk.inj h1).1 (by simp)
theorem parseAA_calls (w : World) (hG : Glob w) : Calls Tryd.prog 11 #[.string (lineA ++ lineA)] w fun e w' => e = .returned (.tuple #[.pointer none, .int .i64 14, .int .i64 2]) ∧ KeptS w w' (fun _ => False) := by
  refine (decide_Parse.calls (lineA ++ lineA) (by rw [ByteArray.size_append, lineA_size]; omega) w hG).mono fun e w' q => ?_
  rw [parseGoAA] at q
  obtain ⟨⟨L, h1, _⟩ | ⟨er, at_, h1, h2⟩, hk⟩ := q
  · exact absurd (Prod.mk.inj h1).1 (by simp)
  · obtain ⟨h3, h4⟩ := Prod.mk.inj (Prod.mk.inj h1).2
    subst h3 h4
    exact ⟨h2, hk⟩

theorem plainA : ∀ d ∈ [dA], PlainD d := fun d h => by
  rw [List.mem_singleton.1 h]
  exact ⟨by decide, by decide, by decide, by decide⟩
def okA (a b : Nat) (k : Nat) : Prop := (a ≤ k ∧ k < b) ∨ b + 1 ≤ k
theorem okA_ge {a b k : Nat} (h : a ≤ b) (q : okA a b k) : a ≤ k := by
  rcases q with q | q
  · exact q.1
  · omega
set_option maxHeartbeats 8000000 in
set_option maxRecDepth 100000 in
theorem awake_calls (w : World) (hG : Glob w) : Calls Tryd.prog 10 #[] w fun e w' => e = .returned (.bool true) ∧ KeptS w w' (fun _ => False) := by
  have HG := Aside0.mk hG
  have hu35 := Tryd.underlying35
  clear hG
  go_enter Tryd.func10, Tryd.ntmps10
  go_wp2_with (first | (go_at_call 16; ((with_reducible refine (decide_New.calls2 _).mono ?_); rintro e w1 ⟨b, rfl, hbk, hb1⟩; have HBK1 : Aside0 (BookAt (w1.alloc (.cells #[.int .u64 255, .int .i64 1, .string ⟨#[97, 110, 110]⟩, .string ⟨#[111, 107, 32, 115, 111]⟩] 35 (0, 0))) (okA w.heap.size w1.heap.size) w.heap.size b []) := ⟨(hbk.mono (ok' := okA w.heap.size w1.heap.size) (fun k hk => .inl hk)).below (below_alloc (Below.refl _ _) _)⟩; have HW1 := Aside0.mk hb1.size; have HD1 : Aside0 ((w1.alloc (.cells #[.int .u64 255, .int .i64 1, .string ⟨#[97, 110, 110]⟩, .string ⟨#[111, 107, 32, 115, 111]⟩] 35 (0, 0))).heap[w1.heap.size]? = some (.cells #[.int .u64 255, .int .i64 1, .string ⟨#[97, 110, 110]⟩, .string ⟨#[111, 107, 32, 115, 111]⟩] 35 (0, 0))) := ⟨blk_new w1 _⟩; have HS1 : Aside0 ((w1.alloc (.cells #[.int .u64 255, .int .i64 1, .string ⟨#[97, 110, 110]⟩, .string ⟨#[111, 107, 32, 115, 111]⟩] 35 (0, 0))).heap.size = w1.heap.size + 1) := ⟨sz_alloc _ _⟩; have HK1 : Aside0 (KeptS w (w1.alloc (.cells #[.int .u64 255, .int .i64 1, .string ⟨#[97, 110, 110]⟩, .string ⟨#[111, 107, 32, 115, 111]⟩] 35 (0, 0))) (fun _ => False)) := ⟨KeptS.alloc (KeptS.of_below hb1 _) _⟩; clear hbk hb1)) | (go_at_call 17; (have h := add_calls (w1.alloc (.cells #[.int .u64 255, .int .i64 1, .string ⟨#[97, 110, 110]⟩, .string ⟨#[111, 107, 32, 115, 111]⟩] 35 (0, 0))) _ _ b [] HBK1.out List.Pairwise.nil dA (fun q hq => .inr (by rw [HS1.out] at hq; exact hq)) (by simp); rw [aA1] at h; (with_reducible refine h.mono ?_); clear h; rintro e w2 ⟨rfl, hbk2, hk2⟩; have HBK2 := Aside0.mk hbk2; have HD2 := Aside0.mk (blk_keptS HD1.out hk2 (fun q => by rcases q with q | q <;> omega)); have HS2 : Aside0 (w1.heap.size + 1 ≤ w2.heap.size) := ⟨by have := hk2.1; rw [HS1.out] at this; exact this⟩; have HK2 : Aside0 (KeptS w w2 (fun _ => False)) := ⟨HK1.out.then_ hk2 (fun q hq => .inr (okA_ge HW1.out hq))⟩; clear hbk2 hk2)) | (go_at_call 17; (have h := add_calls w2 _ _ b [dA] HBK2.out (List.pairwise_singleton _ _) ⟨1, 3, annB, ⟨#[]⟩⟩ (fun q hq => .inr (Nat.le_trans HS2.out hq)) (by simp); rw [aA2] at h; (with_reducible refine h.mono ?_); clear h; rintro e w3 ⟨rfl, hbk3, hk3⟩; have HBK3 := Aside0.mk hbk3; have HD3 := Aside0.mk (blk_keptS HD2.out hk3 (fun q => by rcases q with q | q <;> omega)); have HS3 : Aside0 (w1.heap.size + 1 ≤ w3.heap.size) := ⟨Nat.le_trans HS2.out hk3.1⟩; have HK3 : Aside0 (KeptS w w3 (fun _ => False)) := ⟨HK2.out.then_ hk3 (fun q hq => .inr (okA_ge HW1.out hq))⟩; clear hbk3 hk3)) | (go_at_call 17; (have h := add_calls w3 _ _ b [dA] HBK3.out (List.pairwise_singleton _ _) ⟨1, 1, ⟨#[97, 32, 98]⟩, ⟨#[]⟩⟩ (fun q hq => .inr (Nat.le_trans HS3.out hq)) (by simp); rw [aA3] at h; (with_reducible refine h.mono ?_); clear h; rintro e w4 ⟨rfl, hbk4, hk4⟩; have HBK4 := Aside0.mk hbk4; have HD4 := Aside0.mk (blk_keptS HD3.out hk4 (fun q => by rcases q with q | q <;> omega)); have HS4 : Aside0 (w1.heap.size + 1 ≤ w4.heap.size) := ⟨Nat.le_trans HS3.out hk4.1⟩; have HK4 : Aside0 (KeptS w w4 (fun _ => False)) := ⟨HK3.out.then_ hk4 (fun q hq => .inr (okA_ge HW1.out hq))⟩; clear hbk4 hk4)) | (go_at_call 19; (have h : Calls Tryd.prog 19 #[.pointer (some ⟨b, 0, none⟩), .int .u64 255] w4 fun e w' => e = .returned (.tuple #[.agg #[.int .u64 255, .int .i64 1, .string ⟨#[97, 110, 110]⟩, .string ⟨#[111, 107, 32, 115, 111]⟩], .bool true]) ∧ Below w4.heap.size w4 w' := decide_Book_Find.calls w4 _ _ b [dA] HBK4.out 255; (with_reducible refine h.mono ?_); clear h; rintro e w5 ⟨rfl, hb5⟩; have HBK5 : Aside0 (BookAt (w5.alloc (.cells #[.int .u64 255, .int .i64 1, .string ⟨#[97, 110, 110]⟩, .string ⟨#[111, 107, 32, 115, 111]⟩] 35 (0, 0))) (okA w.heap.size w1.heap.size) w.heap.size b [dA]) := ⟨HBK4.out.below (below_alloc hb5 _)⟩; have HD5 : Aside0 ((w5.alloc (.cells #[.int .u64 255, .int .i64 1, .string ⟨#[97, 110, 110]⟩, .string ⟨#[111, 107, 32, 115, 111]⟩] 35 (0, 0))).heap[w1.heap.size]? = some (.cells #[.int .u64 255, .int .i64 1, .string ⟨#[97, 110, 110]⟩, .string ⟨#[111, 107, 32, 115, 111]⟩] 35 (0, 0))) := ⟨blk_alloc (blk_below HD4.out hb5) _⟩; have HX5 : Aside0 ((w5.alloc (.cells #[.int .u64 255, .int .i64 1, .string ⟨#[97, 110, 110]⟩, .string ⟨#[111, 107, 32, 115, 111]⟩] 35 (0, 0))).heap[w5.heap.size]? = some (.cells #[.int .u64 255, .int .i64 1, .string ⟨#[97, 110, 110]⟩, .string ⟨#[111, 107, 32, 115, 111]⟩] 35 (0, 0))) := ⟨blk_new w5 _⟩; have HK5 : Aside0 (KeptS w (w5.alloc (.cells #[.int .u64 255, .int .i64 1, .string ⟨#[97, 110, 110]⟩, .string ⟨#[111, 107, 32, 115, 111]⟩] 35 (0, 0))) (fun _ => False)) := ⟨KeptS.alloc (HK4.out.below hb5) _⟩; have HG5 := Aside0.mk (Glob.keptGS HK5.out (fun _ h => h.elim) HG.out); have hz : (w5.alloc (.cells #[.int .u64 0, .int .i64 0, .string ⟨#[]⟩, .string ⟨#[]⟩] 35 (0, 0))).heap[w5.heap.size]? = some (.cells #[.int .u64 0, .int .i64 0, .string ⟨#[]⟩, .string ⟨#[]⟩] 35 (0, 0)) := blk_new w5 _; have hz0 := (blk_cell hz 0).trans rfl; have hz1 := (blk_cell hz 1).trans rfl; have hz2 := (blk_cell hz 2).trans rfl; have hz3 := (blk_cell hz 3).trans rfl; have hf0 := blk_frozen hz 0; have hf1 := blk_frozen hz 1; have hf2 := blk_frozen hz 2; have hf3 := blk_frozen hz 3; clear hb5 hz)) | (go_at_call 22; (have h := decide_Book_Print.calls (w5.alloc (.cells #[.int .u64 255, .int .i64 1, .string ⟨#[97, 110, 110]⟩, .string ⟨#[111, 107, 32, 115, 111]⟩] 35 (0, 0))) HG5.out _ _ b [dA] HBK5.out (by simp) (by simp) plainA; rw [printA] at h; (with_reducible refine h.mono ?_); clear h hz0 hz1 hz2 hz3 hf0 hf1 hf2 hf3; rintro e w6 ⟨rfl, hb6⟩; have HBK6 := Aside0.mk (HBK5.out.below hb6); have HD6 := Aside0.mk (blk_below HD5.out hb6); have HX6 := Aside0.mk (blk_below HX5.out hb6); have HK6 := Aside0.mk (HK5.out.below hb6); have HG6 := Aside0.mk (Glob.keptGS HK6.out (fun _ h => h.elim) HG.out); clear hb6)) | (go_at_call 11; (have h := parseA_calls w6 HG6.out; (with_reducible refine h.mono ?_); clear h; rintro e w7 ⟨pb, rfl, hpb, hk7⟩; have HPB7 := Aside0.mk hpb; have HBK7 := Aside0.mk (HBK6.out.bound.keptS hk7 (fun _ _ h => h)); have HD7 := Aside0.mk (blk_keptS HD6.out hk7 (fun h => h)); have HX7 := Aside0.mk (blk_keptS HX6.out hk7 (fun h => h)); have HK7 : Aside0 (KeptS w w7 (fun _ => False)) := ⟨HK6.out.then_ hk7 (fun _ h => h.elim)⟩; have HG7 := Aside0.mk (Glob.keptGS HK7.out (fun _ h => h.elim) HG.out); clear hpb hk7)) | (go_at_call 11; (have h := parseAA_calls w7 HG7.out; (with_reducible refine h.mono ?_); clear h; rintro e w8 ⟨rfl, hk8⟩; have HPB8 := Aside0.mk (HPB7.out.keptS hk8 (fun _ _ h => h)); have HBK8 := Aside0.mk (HBK7.out.keptS hk8 (fun _ _ h => h)); have HD8 := Aside0.mk (blk_keptS HD7.out hk8 (fun h => h)); have HX8 := Aside0.mk (blk_keptS HX7.out hk8 (fun h => h)); have HK8 : Aside0 (KeptS w w8 (fun _ => False)) := ⟨HK7.out.then_ hk8 (fun _ h => h.elim)⟩; have hd0 := (blk_cell HD8.out 0).trans rfl; have hd1 := (blk_cell HD8.out 1).trans rfl; have hd2 := (blk_cell HD8.out 2).trans rfl; have hd3 := (blk_cell HD8.out 3).trans rfl; have hx0 := (blk_cell HX8.out 0).trans rfl; have hx1 := (blk_cell HX8.out 1).trans rfl; have hx2 := (blk_cell HX8.out 2).trans rfl; have hx3 := (blk_cell HX8.out 3).trans rfl; clear hk8)) | (go_at_call 14; (have h := decide_Book_List.calls w8 _ _ pb [dA] HPB8.out (by simp) (by simp); go_loud ((with_reducible refine h.mono ?_); clear h hd0 hd1 hd2 hd3 hx0 hx1 hx2 hx3; rintro e w9 ⟨v, rfl, hr9, hb9⟩; obtain ⟨gl, cl, rfl, _, _, _⟩ := Kd.R_form hr9 (by decide); obtain ⟨al, el, hy0, hy1, hy2, hy3⟩ := at_T35 (Kd.R_reads' hr9).2.2 0 (by decide) (by decide); cases el; have HY := Aside0.mk (And.intro hy0 (And.intro hy1 (And.intro hy2 hy3))); clear hy0 hy1 hy2 hy3; have HBK9 := Aside0.mk (HBK8.out.below hb9); have HD9 := Aside0.mk (blk_below HD8.out hb9); have HK9 := Aside0.mk (HK8.out.below hb9); clear hb9 hr9))))
  have hy0 : w9.drew.cell? ⟨gl, 0, none⟩ = some (.int .u64 255) := HY.out.1
  have hy1 : w9.drew.cell? ⟨gl, 1, none⟩ = some (.int .i64 1) := HY.out.2.1
  have hy2 : w9.drew.cell? ⟨gl, 2, none⟩ = some (.string ⟨#[97, 110, 110]⟩) := HY.out.2.2.1
  have hy3 : w9.drew.cell? ⟨gl, 3, none⟩ = some (.string ⟨#[111, 107, 32, 115, 111]⟩) := HY.out.2.2.2
  have hd0 : w9.drew.cell? ⟨w1.heap.size, 0, none⟩ = some (.int .u64 255) := (blk_cell HD9.out 0).trans rfl
  have hd1 : w9.drew.cell? ⟨w1.heap.size, 1, none⟩ = some (.int .i64 1) := (blk_cell HD9.out 1).trans rfl
  have hd2 : w9.drew.cell? ⟨w1.heap.size, 2, none⟩ = some (.string ⟨#[97, 110, 110]⟩) := (blk_cell HD9.out 2).trans rfl
  have hd3 : w9.drew.cell? ⟨w1.heap.size, 3, none⟩ = some (.string ⟨#[111, 107, 32, 115, 111]⟩) := (blk_cell HD9.out 3).trans rfl
  have HB9D := Aside0.mk (HBK9.out.below (w' := w9.drew) (pw_below_drewN (Below.refl _ _) 1))
  have HRM := Aside0.mk (remD w9.drew _ _ b [dA] HB9D.out (List.pairwise_singleton _ _) 255 dA (by simp) rfl)
  first | go_region_law (go_simp; first | (go_at_call 28; ((with_reducible refine (HRM.out).mono ?_); rintro e w10 ⟨rfl, hbk10, hk10⟩; have HBK10 := Aside0.mk (show BookAt w10 _ _ b [] from hbk10); have HK10 : Aside0 (KeptS w w10 (fun _ => False)) := ⟨(KeptS.drew HK9.out).then_ hk10 (fun q hq => .inr hq.2.1)⟩; clear hbk10 hk10)) | (go_at_call 28; ((with_reducible refine (remN w10 _ _ b [] HBK10.out 255 rfl).mono ?_); rintro e w11 ⟨rfl, hb11⟩; have HK11 := Aside0.mk (HK10.out.below hb11); clear hb11))) | fail
  all_goals go_wp2
  all_goals go_ret
  all_goals exact ⟨rfl, HK11.out⟩

end Go.Proofs.YtfajgjmhfpabiaaDoor.Scratch
