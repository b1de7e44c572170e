/- DecideRuns returns true: proved here by steps through the program's text; no condition but those that stand in each theorem. -/
import Derived.WalkSpells
import Derived.Deep.RegionLaw
import Derived.Lib.OthersKept
import Derived.Test.YtfajgjmhfpabiaaDoorShelf
import Derived.Test.YtfajgjmhfpabiaaDoorQ0
import Derived.Test.YtfajgjmhfpabiaaDoorQ4
import Derived.Test.YtfajgjmhfpabiaaDoorQ5
import Derived.Test.YtfajgjmhfpabiaaDoorSb
import Derived.Test.YtfajgjmhfpabiaaDoorSe
import Derived.Test.YtfajgjmhfpabiaaDoorSg
import Derived.Test.YtfajgjmhfpabiaaDoorSh
import Derived.Test.YtfajgjmhfpabiaaDoorSi
import Derived.Test.YtfajgjmhfpabiaaDoorSj
import Derived.Test.YtfajgjmhfpabiaaDoorSk
import Derived.Test.YtfajgjmhfpabiaaDoorSm
import Derived.Test.YtfajgjmhfpabiaaDoorSq
import Derived.Test.YtfajgjmhfpabiaaDoorSu
import Derived.Test.YtfajgjmhfpabiaaDoorQ7
import Derived.Test.YtfajgjmhfpabiaaDoorQ9
import Derived.Test.YtfajgjmhfpabiaaDoorQ10
import Derived.OpenShut
namespace Go.Proofs.YtfajgjmhfpabiaaDoor.Scratch
set_option linter.unusedVariables false
open Go.RowKit Go.Proofs.YtfajgjmhfpabiaaDoorW.PrintWords Go.Proofs.YtfajgjmhfpabiaaDoorW.PrintLast Go.Proofs.YtfajgjmhfpabiaaDoorW.PrintMore Go.Proofs.YtfajgjmhfpabiaaDoor.Q
attribute [local go_sem] max2_int min2_int max_two min_two max_three min_three max_four min_four
/-- A step of a run. -/
structure S50 where
  f0 : Int
  f1 : S35
  f2 : List S56
def k50 : Kd S50 := Kd.iso (Kd.pair (Kd.int .i64) (Kd.pair k35 (Kd.slice 56 k56))) (fun x : S50 => (x.f0, x.f1, x.f2))
def z50 : S50 := ⟨0, z35, []⟩
theorem k50_open {w : World} {x : S50} {cs : List Value} (h : k50.K w x cs) : ∃ A c, cs = [.int .i64 x.f0, .int .u64 x.f1.f0, .int .i64 x.f1.f1, .string x.f1.f2, .string x.f1.f3, .slice A x.f2.length c] ∧ x.f2.length ≤ c ∧ Kd.C k56 w A x.f2.length x.f2 := by
  obtain ⟨_, _, rfl, rfl, ⟨_, _, rfl, h1, h2⟩⟩ := h
  obtain rfl := k35_open h1
  obtain ⟨A, c, rfl, hl, hr⟩ := h2
  exact ⟨A, c, rfl, hl, hr⟩
def rd_T50 (xs : List S50) (i : Int) : S50 := xs.getD i.toNat z50
theorem at_T50 {w : World} {A : Option Addr} {n : Nat} {xs : List S50} (h : Kd.C k50 w A n xs) (i : Int) (h0 : 0 ≤ i) (h1 : i < n) : ∃ ad B c, A = some ad ∧ (w.cell? (ad.add (i.toNat * 6)) = some (.int .i64 (rd_T50 xs i).f0) ∧ w.cell? ⟨(ad.add (i.toNat * 6)).block, (ad.add (i.toNat * 6)).off + 1, none⟩ = some (.int .u64 (rd_T50 xs i).f1.f0) ∧ w.cell? ⟨(ad.add (i.toNat * 6)).block, (ad.add (i.toNat * 6)).off + 2, none⟩ = some (.int .i64 (rd_T50 xs i).f1.f1) ∧ w.cell? ⟨(ad.add (i.toNat * 6)).block, (ad.add (i.toNat * 6)).off + 3, none⟩ = some (.string (rd_T50 xs i).f1.f2) ∧ w.cell? ⟨(ad.add (i.toNat * 6)).block, (ad.add (i.toNat * 6)).off + 4, none⟩ = some (.string (rd_T50 xs i).f1.f3) ∧ w.cell? ⟨(ad.add (i.toNat * 6)).block, (ad.add (i.toNat * 6)).off + 5, none⟩ = some (.slice B (rd_T50 xs i).f2.length c)) ∧ (rd_T50 xs i).f2.length ≤ c ∧ Kd.C k56 w B (rd_T50 xs i).f2.length (rd_T50 xs i).f2 := by
  obtain ⟨ad, c, e, _, hK, hc0⟩ := Kd.C_get h z50 i h0 h1
  have hc : ∀ j u, c[j]? = some u → w.cell? (ad.add (i.toNat * 6 + j)) = some u := hc0
  obtain ⟨B, q, rfl, hl, hC⟩ := k50_open hK
  exact ⟨ad, B, q, e, ⟨hc 0 _ rfl, by rw [← add_field _ _ 1 (by omega)]; exact hc 1 _ rfl, by rw [← add_field _ _ 2 (by omega)]; exact hc 2 _ rfl, by rw [← add_field _ _ 3 (by omega)]; exact hc 3 _ rfl, by rw [← add_field _ _ 4 (by omega)]; exact hc 4 _ rfl, by rw [← add_field _ _ 5 (by omega)]; exact hc 5 _ rfl⟩, hl, hC⟩
/-- The book and the reference's list, in blocks apart. -/
structure Both (w0 w : World) (baseB b : Nat) (v : Value) (L : List S35) : Prop where
  out : ∃ okB okM : Nat → Prop, BookAt w okB baseB b L ∧ Kd.R k35 35 w w0.heap.size okM v L ∧ (∀ k, okB k → w0.heap.size ≤ k ∧ k < w.heap.size ∧ ¬ okM k) ∧ (∀ k, okM k → k < w.heap.size)
theorem Both.below {w0 w w' : World} {baseB b : Nat} {v : Value} {L : List S35} (h : Both w0 w baseB b v L) (hb : Below w.heap.size w w') : Both w0 w' baseB b v L := by
  obtain ⟨okB, okM, h1, h2, h3, h4⟩ := h.out
  have hz := hb.size
  exact ⟨okB, okM, h1.below hb, Kd.R_below h2 hb, fun k hk => ⟨(h3 k hk).1, by have := (h3 k hk).2.1; omega, (h3 k hk).2.2⟩, fun k hk => by have := h4 k hk; omega⟩
/-- What a book is made into by a call that writes into its own blocks, and what the list's blocks are after that. -/
theorem Both.book {w0 w W1 : World} {baseB b : Nat} {v : Value} {L : List S35} (h : Both w0 w baseB b v L) (hz : w0.heap.size ≤ w.heap.size) (hb1 : Below w.heap.size w W1) : ∃ okB okM : Nat → Prop, BookAt W1 okB baseB b L ∧ (∀ k, W1.heap.size ≤ k → okB k) ∧ (∀ k, okB k → w0.heap.size ≤ k) ∧ (∀ k, okB k → k < w.heap.size ∨ W1.heap.size ≤ k) ∧ (∀ k, okM k → k < w.heap.size) ∧
    (∀ w' L', BookAt w' okB baseB b L' → KeptS W1 w' okB → Kd.R k35 35 w' w0.heap.size okM v L ∧ ∀ w'' , Kept w' w'' okM → w'.heap.size ≤ w''.heap.size → ∀ v' L'', Kd.R k35 35 w'' w0.heap.size (fun k => okM k ∨ w'.heap.size ≤ k) v' L'' → L' = L'' → Both w0 w'' baseB b v' L') := by
  obtain ⟨okB, okM, h1, h2, h3, h4⟩ := h.out
  have hz1 := hb1.size
  refine ⟨fun k => okB k ∨ W1.heap.size ≤ k, okM, (h1.below hb1).mono (fun k hk => .inl hk), fun k hk => .inr hk, fun k hk => hk.elim (fun q => (h3 k q).1) (fun q => by omega), fun k hk => hk.elim (fun q => .inl (h3 k q).2.1) .inr, h4, fun w' L' hB hK => ?_⟩
  have hdis : ∀ k, okM k → ¬ (okB k ∨ W1.heap.size ≤ k) := fun k hk q => q.elim (fun q => (h3 k q).2.2 hk) (fun q => by have := h4 k hk; omega)
  have hs1 := hK.size
  refine ⟨R_keptS (Kd.R_below h2 hb1) hK hdis, fun w'' hk hs v' L'' hR e => ?_⟩
  subst e
  have hB2 : BookAt w'' (fun k => (okB k ∨ W1.heap.size ≤ k) ∧ baseB ≤ k ∧ k < w'.heap.size) baseB b L' := hB.bound.kept hk (fun k q hm => hdis k hm q.1)
  refine ⟨_, fun k => (okM k ∨ w'.heap.size ≤ k) ∧ k < w''.heap.size, hB2, Kd.R_mono (Kd.R_bound hR) (fun k q => ⟨q.1, q.2.2.1⟩), fun k q => ⟨q.1.elim (fun q => (h3 k q).1) (fun q => by omega), by omega, fun m => m.1.elim (fun m => hdis k m q.1) (fun m => by omega)⟩, fun k q => q.2⟩
theorem Both.read {w0 w : World} {baseB b : Nat} {v : Value} {L : List S35} (h : Both w0 w baseB b v L) : ∃ (ok : Nat → Prop) (A : Option Addr) (c : Nat), v = .slice A L.length c ∧ BookAt w ok baseB b L ∧ L.length ≤ c ∧ Kd.C k35 w A L.length L := by
  obtain ⟨okB, okM, h1, h2, h3, h4⟩ := h.out
  obtain ⟨A, c, rfl⟩ := Kd.R_slice h2
  exact ⟨okB, A, c, rfl, h1, (Kd.R_reads' h2).2.1, (Kd.R_reads' h2).2.2⟩
def stepS (L : List S35) (s : S50) : List S35 := if s.f0 = 0 then (bookAdd L s.f1).1 else if s.f0 = 1 then (remS L s.f1.f0).1 else L
theorem remS_asc (L : List S35) (key : Int) (h : Asc L) : Asc (remS L key).1 := by
  unfold remS
  split
  · exact bookDel_asc L key h
  · exact h
theorem remS_len (L : List S35) (key : Int) : (remS L key).1.length ≤ L.length := by
  unfold remS
  split
  · exact del_len L key
  · exact Nat.le_refl _
theorem bookAdd_len1 (L : List S35) (x : S35) (h : Asc L) : (bookAdd L x).1.length ≤ L.length + 1 := addAll_le [x] L h
theorem stepS_asc (L : List S35) (s : S50) (h : Asc L) : Asc (stepS L s) := by
  unfold stepS
  repeat' split
  · exact bookAdd_asc L _ h
  · exact remS_asc L _ h
  · exact h
theorem stepS_len (L : List S35) (s : S50) (h : Asc L) : (stepS L s).length ≤ L.length + 1 := by
  unfold stepS
  split
  · exact bookAdd_len1 L _ h
  · split
    · exact Nat.le_succ_of_le (remS_len L _)
    · exact Nat.le_succ _
theorem bookAdd_good (L : List S35) (x : S35) (hx : 0 ≤ x.f0 ∧ x.f0 < 2 ^ 64) (h : ∀ d ∈ L, GoodD d) : ∀ d ∈ (bookAdd L x).1, GoodD d := fun d hd => by
  rcases addAll_mem [x] L d hd with q | ⟨q, f⟩
  · exact h d q
  · rw [List.mem_singleton.1 q] at f ⊢
    exact ⟨hx, f⟩
theorem stepS_good (L : List S35) (s : S50) (hx : 0 ≤ s.f1.f0 ∧ s.f1.f0 < 2 ^ 64) (h : ∀ d ∈ L, GoodD d) : ∀ d ∈ stepS L s, GoodD d := by
  unfold stepS
  split
  · exact bookAdd_good L _ hx h
  · split
    · unfold remS
      split
      · exact fun d hd => h d (List.mem_filter.1 hd).1
      · exact h
    · exact h

set_option maxHeartbeats 8000000 in
set_option maxRecDepth 100000 in
theorem run_add (w0 w : World) (hB0 : Below w0.heap.size w0 w) (hG : Glob w) (baseB b : Nat) (v : Value) (L : List S35) (hBt : Both w0 w baseB b v L) (ha : Asc L) (hl : L.length ≤ 200) (hgd : ∀ d ∈ L, GoodD d) (s : S50) (Bc : Option Addr) (cc : Nat) (hC : Kd.C k56 w Bc s.f2.length s.f2) (hcc : s.f2.length ≤ cc) (hf2 : s.f2.length ≤ 10) (hfz : ∀ c ∈ s.f2, FewC c) (hk : s.f0 = 0) : Calls Tryd.prog 25 #[.pointer (some ⟨b, 0, none⟩), v, .agg #[.int .i64 s.f0, .int .u64 s.f1.f0, .int .i64 s.f1.f1, .string s.f1.f2, .string s.f1.f3, .slice Bc s.f2.length cc]] w fun e w' => ∃ v', e = .returned (.tuple #[v', .bool true]) ∧ Both w0 w' baseB b v' (stepS L s) ∧ Below w0.heap.size w0 w' := by
  have hb1 := below_alloc (Below.refl w.heap.size w) (.cells #[.int .i64 s.f0, .int .u64 s.f1.f0, .int .i64 s.f1.f1, .string s.f1.f2, .string s.f1.f3, .slice Bc s.f2.length cc] 50 (0, 0))
  have HX1 := Aside0.mk (blk_new w (.cells #[.int .i64 s.f0, .int .u64 s.f1.f0, .int .i64 s.f1.f1, .string s.f1.f2, .string s.f1.f3, .slice Bc s.f2.length cc] 50 (0, 0)))
  have hz0 := hB0.size
  have hu35 := Tryd.underlying35
  have hu50 := Tryd.underlying50
  have hx0 := (blk_cell HX1.out 0).trans rfl
  have hx1 := (blk_cell HX1.out 1).trans rfl
  have hx2 := (blk_cell HX1.out 2).trans rfl
  have hx3 := (blk_cell HX1.out 3).trans rfl
  have hx4 := (blk_cell HX1.out 4).trans rfl
  have hx5 := (blk_cell HX1.out 5).trans rfl
  obtain ⟨okB, okM, hBk, hfr, hlo, hbd, hmd, hnext⟩ := hBt.book hz0 hb1
  have hno : ¬ okB w.heap.size := fun q => by
    have h1 := hbd _ q
    have h2 := sz_alloc w (.cells #[.int .i64 s.f0, .int .u64 s.f1.f0, .int .i64 s.f1.f1, .string s.f1.f2, .string s.f1.f3, .slice Bc s.f2.length cc] 50 (0, 0))
    omega
  have HNX := Aside0.mk hnext
  have HB1 := Aside0.mk (hB0.trans (hb1.mono hz0))
  have HLO := Aside0.mk hlo
  have HNO := Aside0.mk hno
  have HAD := Aside0.mk (add_calls _ okB baseB b L hBk ha s.f1 hfr (by omega))
  obtain ⟨kr, hkr⟩ := (radd_ev L s.f1 ha (by omega)).rounds
  have HKR := Aside0.mk (show treemergeref36_Add.f kr L s.f1.f0 s.f1.f1 s.f1.f2 s.f1.f3 = some ((bookAdd L s.f1).1, (bookAdd L s.f1).2) from hkr)
  obtain ⟨R2, hR2⟩ : ∃ R2, R2 = (bookAdd L s.f1).2 := ⟨_, rfl⟩
  rw [← hR2] at HAD HKR
  have HST := Aside0.mk (show stepS L s = (bookAdd L s.f1).1 by unfold stepS; rw [if_pos hk])
  have e0 : (s.f0 == 0) = true := beq_iff_eq.2 hk
  have d0 : decide (s.f0 = 0) = true := decide_eq_true hk
  clear hk
  clear hBk hfr hlo hbd hmd hnext hno hb1 hBt hG hB0 hC hcc hf2 hfz hgd hz0
  go_enter Tryd.func25, Tryd.ntmps25
  go_wp2_with (first | (go_at_call 17; go_loud ((with_reducible refine HAD.out.mono ?_); rintro e w2 ⟨rfl, hbk2, hk2⟩; clear hx0 hx1 hx2 hx3 hx4 hx5; have HX2 := Aside0.mk (blk_keptS HX1.out hk2 HNO.out); have hx0 := (blk_cell HX2.out 0).trans rfl; have hx1 := (blk_cell HX2.out 1).trans rfl; have hx2 := (blk_cell HX2.out 2).trans rfl; have hx3 := (blk_cell HX2.out 3).trans rfl; have hx4 := (blk_cell HX2.out 4).trans rfl; have hx5 := (blk_cell HX2.out 5).trans rfl; obtain ⟨hr2, hn2⟩ := HNX.out w2 _ hbk2 hk2; have HR2 := Aside0.mk hr2; have HN2 := Aside0.mk hn2; have HB2 := Aside0.mk (HB1.out.trans (hk2.belowOf HLO.out HB1.out.size)); clear hbk2 hk2 hr2 hn2)) | (go_at_call 41; go_loud ((with_reducible refine (treemergeref36_Add.calls kr okM v L s.f1.f0 s.f1.f1 s.f1.f2 s.f1.f3 _ _ w0 _ HB2.out HR2.out HKR.out).mono ?_); rintro e w3 ⟨v3, rfl, hr3, hb3, hk3⟩; have HBB := Aside0.mk (HN2.out w3 hk3 hk3.1 v3 _ hr3 rfl); have HB3 := Aside0.mk hb3; clear hr3 hb3 hk3 hx0 hx1 hx2 hx3 hx4 hx5)))
  go_ret2
  exact ⟨_, rfl, by rw [HST.out]; exact HBB.out, HB3.out⟩
set_option maxHeartbeats 8000000 in
set_option maxRecDepth 100000 in
theorem run_rem (w0 w : World) (hB0 : Below w0.heap.size w0 w) (hG : Glob w) (baseB b : Nat) (v : Value) (L : List S35) (hBt : Both w0 w baseB b v L) (ha : Asc L) (hl : L.length ≤ 200) (hgd : ∀ d ∈ L, GoodD d) (s : S50) (Bc : Option Addr) (cc : Nat) (hC : Kd.C k56 w Bc s.f2.length s.f2) (hcc : s.f2.length ≤ cc) (hf2 : s.f2.length ≤ 10) (hfz : ∀ c ∈ s.f2, FewC c) (hk : s.f0 = 1) : Calls Tryd.prog 25 #[.pointer (some ⟨b, 0, none⟩), v, .agg #[.int .i64 s.f0, .int .u64 s.f1.f0, .int .i64 s.f1.f1, .string s.f1.f2, .string s.f1.f3, .slice Bc s.f2.length cc]] w fun e w' => ∃ v', e = .returned (.tuple #[v', .bool true]) ∧ Both w0 w' baseB b v' (stepS L s) ∧ Below w0.heap.size w0 w' := by
  have hb1 := below_alloc (Below.refl w.heap.size w) (.cells #[.int .i64 s.f0, .int .u64 s.f1.f0, .int .i64 s.f1.f1, .string s.f1.f2, .string s.f1.f3, .slice Bc s.f2.length cc] 50 (0, 0))
  have HX1 := Aside0.mk (blk_new w (.cells #[.int .i64 s.f0, .int .u64 s.f1.f0, .int .i64 s.f1.f1, .string s.f1.f2, .string s.f1.f3, .slice Bc s.f2.length cc] 50 (0, 0)))
  have hz0 := hB0.size
  have hu35 := Tryd.underlying35
  have hu50 := Tryd.underlying50
  have hx0 := (blk_cell HX1.out 0).trans rfl
  have hx1 := (blk_cell HX1.out 1).trans rfl
  have hx2 := (blk_cell HX1.out 2).trans rfl
  have hx3 := (blk_cell HX1.out 3).trans rfl
  have hx4 := (blk_cell HX1.out 4).trans rfl
  have hx5 := (blk_cell HX1.out 5).trans rfl
  obtain ⟨okB, okM, hBk, hfr, hlo, hbd, hmd, hnext⟩ := hBt.book hz0 hb1
  have hno : ¬ okB w.heap.size := fun q => by
    have h1 := hbd _ q
    have h2 := sz_alloc w (.cells #[.int .i64 s.f0, .int .u64 s.f1.f0, .int .i64 s.f1.f1, .string s.f1.f2, .string s.f1.f3, .slice Bc s.f2.length cc] 50 (0, 0))
    omega
  have HNX := Aside0.mk hnext
  have HB1 := Aside0.mk (hB0.trans (hb1.mono hz0))
  have HLO := Aside0.mk hlo
  have HNO := Aside0.mk hno
  have HAD : Aside0 (Calls Tryd.prog 28 #[.pointer (some ⟨b, 0, none⟩), .int .u64 s.f1.f0] (w.alloc (.cells #[.int .i64 s.f0, .int .u64 s.f1.f0, .int .i64 s.f1.f1, .string s.f1.f2, .string s.f1.f3, .slice Bc s.f2.length cc] 50 (0, 0))) fun e w' => e = .returned (.int .i64 (remS L s.f1.f0).2) ∧ BookAt w' okB baseB b (remS L s.f1.f0).1 ∧ KeptS (w.alloc (.cells #[.int .i64 s.f0, .int .u64 s.f1.f0, .int .i64 s.f1.f1, .string s.f1.f2, .string s.f1.f3, .slice Bc s.f2.length cc] 50 (0, 0))) w' okB) := ⟨by
    unfold remS
    cases h : bookIn L s.f1.f0 with
    | some d =>
      rw [if_pos (show (some d).isSome = true from rfl)]
      exact remD _ okB baseB b L hBk ha s.f1.f0 d (by omega) h
    | none =>
      rw [if_neg (show ¬ (none : Option S35).isSome = true by simp)]
      exact (remN _ okB baseB b L hBk s.f1.f0 h).mono fun e w' q => ⟨q.1, hBk.below q.2, KeptS.of_below q.2 _⟩⟩
  obtain ⟨kr, hkr⟩ := (rrem_ev L s.f1.f0 ha (by omega)).rounds
  have HKR := Aside0.mk (show treemergeref36_Remove.f kr L s.f1.f0 = some ((remS L s.f1.f0).1, (remS L s.f1.f0).2) from hkr)
  obtain ⟨R2, hR2⟩ : ∃ R2, R2 = (remS L s.f1.f0).2 := ⟨_, rfl⟩
  rw [← hR2] at HAD HKR
  have HST := Aside0.mk (show stepS L s = (remS L s.f1.f0).1 by unfold stepS; rw [if_neg (by rw [hk]; decide), if_pos hk])
  have e0 : (s.f0 == 0) = false := beq_eq_false_iff_ne.2 (by omega)
  have d0 : decide (s.f0 = 0) = false := decide_eq_false (by omega)
  have e1 : (s.f0 == 1) = true := beq_iff_eq.2 hk
  have d1 : decide (s.f0 = 1) = true := decide_eq_true hk
  clear hk
  clear hBk hfr hlo hbd hmd hnext hno hb1 hBt hG hB0 hC hcc hf2 hfz hgd hz0
  go_enter Tryd.func25, Tryd.ntmps25
  go_wp2_with (first | (go_at_call 28; go_loud ((with_reducible refine HAD.out.mono ?_); rintro e w2 ⟨rfl, hbk2, hk2⟩; clear hx0 hx1 hx2 hx3 hx4 hx5; have HX2 := Aside0.mk (blk_keptS HX1.out hk2 HNO.out); have hx0 := (blk_cell HX2.out 0).trans rfl; have hx1 := (blk_cell HX2.out 1).trans rfl; have hx2 := (blk_cell HX2.out 2).trans rfl; have hx3 := (blk_cell HX2.out 3).trans rfl; have hx4 := (blk_cell HX2.out 4).trans rfl; have hx5 := (blk_cell HX2.out 5).trans rfl; obtain ⟨hr2, hn2⟩ := HNX.out w2 _ hbk2 hk2; have HR2 := Aside0.mk hr2; have HN2 := Aside0.mk hn2; have HB2 := Aside0.mk (HB1.out.trans (hk2.belowOf HLO.out HB1.out.size)); clear hbk2 hk2 hr2 hn2)) | (go_at_call 42; go_loud ((with_reducible refine (treemergeref36_Remove.calls kr okM v L s.f1.f0 _ _ w0 _ HB2.out HR2.out HKR.out).mono ?_); rintro e w3 ⟨v3, rfl, hr3, hb3, hk3⟩; have HBB := Aside0.mk (HN2.out w3 hk3 hk3.1 v3 _ hr3 rfl); have HB3 := Aside0.mk hb3; clear hr3 hb3 hk3 hx0 hx1 hx2 hx3 hx4 hx5)))
  go_ret2
  exact ⟨_, rfl, by rw [HST.out]; exact HBB.out, HB3.out⟩

set_option maxHeartbeats 8000000 in
set_option maxRecDepth 100000 in
theorem run_find (w0 w : World) (hB0 : Below w0.heap.size w0 w) (hG : Glob w) (baseB b : Nat) (v : Value) (L : List S35) (hBt : Both w0 w baseB b v L) (ha : Asc L) (hl : L.length ≤ 200) (hgd : ∀ d ∈ L, GoodD d) (s : S50) (Bc : Option Addr) (cc : Nat) (hC : Kd.C k56 w Bc s.f2.length s.f2) (hcc : s.f2.length ≤ cc) (hf2 : s.f2.length ≤ 10) (hfz : ∀ c ∈ s.f2, FewC c) (hk : s.f0 = 2) : Calls Tryd.prog 25 #[.pointer (some ⟨b, 0, none⟩), v, .agg #[.int .i64 s.f0, .int .u64 s.f1.f0, .int .i64 s.f1.f1, .string s.f1.f2, .string s.f1.f3, .slice Bc s.f2.length cc]] w fun e w' => ∃ v', e = .returned (.tuple #[v', .bool true]) ∧ Both w0 w' baseB b v' (stepS L s) ∧ Below w0.heap.size w0 w' := by
  have hb1 := below_alloc (Below.refl w.heap.size w) (.cells #[.int .i64 s.f0, .int .u64 s.f1.f0, .int .i64 s.f1.f1, .string s.f1.f2, .string s.f1.f3, .slice Bc s.f2.length cc] 50 (0, 0))
  have HX1 := Aside0.mk (blk_new w (.cells #[.int .i64 s.f0, .int .u64 s.f1.f0, .int .i64 s.f1.f1, .string s.f1.f2, .string s.f1.f3, .slice Bc s.f2.length cc] 50 (0, 0)))
  have hz0 := hB0.size
  have hu35 := Tryd.underlying35
  have hu50 := Tryd.underlying50
  have hx0 := (blk_cell HX1.out 0).trans rfl
  have hx1 := (blk_cell HX1.out 1).trans rfl
  have hx2 := (blk_cell HX1.out 2).trans rfl
  have hx3 := (blk_cell HX1.out 3).trans rfl
  have hx4 := (blk_cell HX1.out 4).trans rfl
  have hx5 := (blk_cell HX1.out 5).trans rfl
  have hBt1 := hBt.below hb1
  obtain ⟨ok, Am, cm, rfl, hBk, hlc, hRC⟩ := hBt1.read
  have HBT := Aside0.mk hBt1
  have HBK := Aside0.mk hBk
  have HRC := Aside0.mk hRC
  have HW1 := Aside0.mk (hB0.trans (hb1.mono hz0))
  have HGB := Aside0.mk (fun W (h : Below w.heap.size w W) => Glob.below h hG)
  have HB1 := Aside0.mk hb1
  have HST := Aside0.mk (show stepS L s = L by unfold stepS; rw [if_neg (by omega), if_neg (by omega)])
  have HC1 := Aside0.mk hC
  have HA := Aside0.mk ha
  have HGD := Aside0.mk hgd
  obtain ⟨kf, hkf⟩ := (rfind_ev L s.f1.f0 (by omega)).rounds
  obtain ⟨D, hD⟩ : ∃ D, D = (bookIn L s.f1.f0).getD z35 := ⟨_, rfl⟩
  obtain ⟨ob, hob⟩ : ∃ ob, ob = (bookIn L s.f1.f0).isSome := ⟨_, rfl⟩
  have HKF : Aside0 (treemergeref36_Find.f kf L s.f1.f0 = some (D.f0, D.f1, D.f2, D.f3, ob)) := ⟨by
    rw [hkf, hD, hob]
    cases bookIn L s.f1.f0 <;> rfl⟩
  have HFB : Aside0 (Calls Tryd.prog 19 #[.pointer (some ⟨b, 0, none⟩), .int .u64 s.f1.f0] (w.alloc (.cells #[.int .i64 s.f0, .int .u64 s.f1.f0, .int .i64 s.f1.f1, .string s.f1.f2, .string s.f1.f3, .slice Bc s.f2.length cc] 50 (0, 0))) fun e w' => e = .returned (.tuple #[.agg #[.int .u64 D.f0, .int .i64 D.f1, .string D.f2, .string D.f3], .bool ob]) ∧ Below (w.alloc (.cells #[.int .i64 s.f0, .int .u64 s.f1.f0, .int .i64 s.f1.f1, .string s.f1.f2, .string s.f1.f3, .slice Bc s.f2.length cc] 50 (0, 0))).heap.size (w.alloc (.cells #[.int .i64 s.f0, .int .u64 s.f1.f0, .int .i64 s.f1.f1, .string s.f1.f2, .string s.f1.f3, .slice Bc s.f2.length cc] 50 (0, 0))) w') := ⟨by
    have h := decide_Book_Find.calls _ ok baseB b L HBK.out s.f1.f0
    rw [← hD, ← hob] at h
    exact h⟩
  clear hkf hD hob
  have e0 : (s.f0 == 0) = false := beq_eq_false_iff_ne.2 (by omega)
  have d0 : decide (s.f0 = 0) = false := decide_eq_false (by omega)
  have e1 : (s.f0 == 1) = false := beq_eq_false_iff_ne.2 (by omega)
  have d1 : decide (s.f0 = 1) = false := decide_eq_false (by omega)
  have e2 : (s.f0 == 2) = true := beq_iff_eq.2 hk
  have d2 : decide (s.f0 = 2) = true := decide_eq_true hk
  clear hBk hRC hb1 hBt hBt1 hG hB0 hC hcc hf2 hfz hgd hz0 ha hk
  go_enter Tryd.func25, Tryd.ntmps25
  go_wp2_with (first | (go_at_call 19; go_loud ((with_reducible refine HFB.out.mono ?_); rintro e w2 ⟨rfl, hb2⟩; clear hx0 hx1 hx2 hx3 hx4 hx5; have hz : (w2.alloc (.cells #[.int .u64 0, .int .i64 0, .string ⟨#[]⟩, .string ⟨#[]⟩] 35 (0, 0))).heap[w2.heap.size]? = some (.cells #[.int .u64 0, .int .i64 0, .string ⟨#[]⟩, .string ⟨#[]⟩] 35 (0, 0)) := blk_new w2 _; have hz0 := (blk_cell hz 0).trans rfl; have hz1 := (blk_cell hz 1).trans rfl; have hz2 := (blk_cell hz 2).trans rfl; have hz3 := (blk_cell hz 3).trans rfl; have hf0 := blk_frozen hz 0; have hf1 := blk_frozen hz 1; have hf2 := blk_frozen hz 2; have hf3 := blk_frozen hz 3; have HQ2 := Aside0.mk (below_alloc hb2 (.cells #[.int .u64 D.f0, .int .i64 D.f1, .string D.f2, .string D.f3] 35 (0, 0))); have HX2 := Aside0.mk (blk_below HX1.out HQ2.out); have hx0 := (blk_cell HX2.out 0).trans rfl; have hx1 := (blk_cell HX2.out 1).trans rfl; have hx2 := (blk_cell HX2.out 2).trans rfl; have hx3 := (blk_cell HX2.out 3).trans rfl; have hx4 := (blk_cell HX2.out 4).trans rfl; have hx5 := (blk_cell HX2.out 5).trans rfl; have HD2 : Aside0 ((w2.alloc (.cells #[.int .u64 D.f0, .int .i64 D.f1, .string D.f2, .string D.f3] 35 (0, 0))).heap[w2.heap.size]? = some (.cells #[.int .u64 D.f0, .int .i64 D.f1, .string D.f2, .string D.f3] 35 (0, 0))) := ⟨blk_new w2 _⟩; clear hb2 hz)) | (go_at_call 23; go_loud (clear hz0 hz1 hz2 hz3 hf0 hf1 hf2 hf3 hx0 hx1 hx2 hx3 hx4 hx5; (with_reducible refine (treemergeref36_Find.calls kf Am cm L _ _ _ _ _ _ _ (Kd.C_below HRC.out HQ2.out) hlc HKF.out).mono ?_); rintro e w4 ⟨rfl, hb4⟩; have hz : (w4.alloc (.cells #[.int .u64 0, .int .i64 0, .string ⟨#[]⟩, .string ⟨#[]⟩] 35 (0, 0))).heap[w4.heap.size]? = some (.cells #[.int .u64 0, .int .i64 0, .string ⟨#[]⟩, .string ⟨#[]⟩] 35 (0, 0)) := blk_new w4 _; have hz0 := (blk_cell hz 0).trans rfl; have hz1 := (blk_cell hz 1).trans rfl; have hz2 := (blk_cell hz 2).trans rfl; have hz3 := (blk_cell hz 3).trans rfl; have hf0 := blk_frozen hz 0; have hf1 := blk_frozen hz 1; have hf2 := blk_frozen hz 2; have hf3 := blk_frozen hz 3; have HQ4 := Aside0.mk (below_alloc (below_step HQ2.out hb4) (.cells #[.int .u64 D.f0, .int .i64 D.f1, .string D.f2, .string D.f3] 35 (0, 0))); have hd := blk_alloc (blk_below HD2.out hb4) (.cells #[.int .u64 D.f0, .int .i64 D.f1, .string D.f2, .string D.f3] 35 (0, 0)); have hd0 := (blk_cell hd 0).trans rfl; have hd1 := (blk_cell hd 1).trans rfl; have hd2 := (blk_cell hd 2).trans rfl; have hd3 := (blk_cell hd 3).trans rfl; have hy : (w4.alloc (.cells #[.int .u64 D.f0, .int .i64 D.f1, .string D.f2, .string D.f3] 35 (0, 0))).heap[w4.heap.size]? = some (.cells #[.int .u64 D.f0, .int .i64 D.f1, .string D.f2, .string D.f3] 35 (0, 0)) := blk_new w4 _; have hy0 := (blk_cell hy 0).trans rfl; have hy1 := (blk_cell hy 1).trans rfl; have hy2 := (blk_cell hy 2).trans rfl; have hy3 := (blk_cell hy 3).trans rfl; clear hb4 hz hd hy)))
  go_ret2
  exact ⟨_, rfl, by rw [HST.out]; exact HBT.out.below HQ4.out, HW1.out.trans (HQ4.out.mono HW1.out.size)⟩
set_option maxHeartbeats 8000000 in
set_option maxRecDepth 100000 in
theorem run_picks (w0 w : World) (hB0 : Below w0.heap.size w0 w) (hG : Glob w) (baseB b : Nat) (v : Value) (L : List S35) (hBt : Both w0 w baseB b v L) (ha : Asc L) (hl : L.length ≤ 200) (hgd : ∀ d ∈ L, GoodD d) (s : S50) (Bc : Option Addr) (cc : Nat) (hC : Kd.C k56 w Bc s.f2.length s.f2) (hcc : s.f2.length ≤ cc) (hf2 : s.f2.length ≤ 10) (hfz : ∀ c ∈ s.f2, FewC c) (hk : s.f0 = 3) : Calls Tryd.prog 25 #[.pointer (some ⟨b, 0, none⟩), v, .agg #[.int .i64 s.f0, .int .u64 s.f1.f0, .int .i64 s.f1.f1, .string s.f1.f2, .string s.f1.f3, .slice Bc s.f2.length cc]] w fun e w' => ∃ v', e = .returned (.tuple #[v', .bool true]) ∧ Both w0 w' baseB b v' (stepS L s) ∧ Below w0.heap.size w0 w' := by
  have hb1 := below_alloc (Below.refl w.heap.size w) (.cells #[.int .i64 s.f0, .int .u64 s.f1.f0, .int .i64 s.f1.f1, .string s.f1.f2, .string s.f1.f3, .slice Bc s.f2.length cc] 50 (0, 0))
  have HX1 := Aside0.mk (blk_new w (.cells #[.int .i64 s.f0, .int .u64 s.f1.f0, .int .i64 s.f1.f1, .string s.f1.f2, .string s.f1.f3, .slice Bc s.f2.length cc] 50 (0, 0)))
  have hz0 := hB0.size
  have hu35 := Tryd.underlying35
  have hu50 := Tryd.underlying50
  have hx0 := (blk_cell HX1.out 0).trans rfl
  have hx1 := (blk_cell HX1.out 1).trans rfl
  have hx2 := (blk_cell HX1.out 2).trans rfl
  have hx3 := (blk_cell HX1.out 3).trans rfl
  have hx4 := (blk_cell HX1.out 4).trans rfl
  have hx5 := (blk_cell HX1.out 5).trans rfl
  have hBt1 := hBt.below hb1
  obtain ⟨ok, Am, cm, rfl, hBk, hlc, hRC⟩ := hBt1.read
  have HBT := Aside0.mk hBt1
  have HBK := Aside0.mk hBk
  have HRC := Aside0.mk hRC
  have HW1 := Aside0.mk (hB0.trans (hb1.mono hz0))
  have HGB := Aside0.mk (fun W (h : Below w.heap.size w W) => Glob.below h hG)
  have HB1 := Aside0.mk hb1
  have HST := Aside0.mk (show stepS L s = L by unfold stepS; rw [if_neg (by omega), if_neg (by omega)])
  have HC1 := Aside0.mk hC
  have HA := Aside0.mk ha
  have HGD := Aside0.mk hgd
  obtain ⟨kp, hkp⟩ := (rpicks_ev L s.f2 (by omega) (by omega) hfz).rounds
  have HPB := Aside0.mk (decide_Book_Picks.calls (w.alloc (.cells #[.int .i64 s.f0, .int .u64 s.f1.f0, .int .i64 s.f1.f1, .string s.f1.f2, .string s.f1.f3, .slice Bc s.f2.length cc] 50 (0, 0))) (HGB.out _ HB1.out) ok baseB b L HBK.out Bc cc s.f2 (Kd.C_below hC HB1.out) (by omega) hfz)
  have hpl := (picksGo_inv L s.f2 [] [] List.nodup_nil (fun _ h => by cases h)).2.2.2.2
  have hol : (picksGo L s.f2 [] []).2.length ≤ s.f2.length := by rw [picksGo_open, List.nil_append]; exact List.length_filter_le _ _
  rw [List.length_nil, Nat.zero_add] at hpl
  have HKP := Aside0.mk (show treemergeref36_Picks.f kp L s.f2 = some ((picksGo L s.f2 [] []).1, (picksGo L s.f2 [] []).2) from hkp)
  obtain ⟨P, hP⟩ : ∃ P, P = (picksGo L s.f2 [] []).1 := ⟨_, rfl⟩
  obtain ⟨O, hO⟩ : ∃ O, O = (picksGo L s.f2 [] []).2 := ⟨_, rfl⟩
  rw [← hP, ← hO] at HKP HPB
  rw [← hP] at hpl
  rw [← hO] at hol
  obtain ⟨ks, hks⟩ := (samep_ev P (by omega)).rounds
  obtain ⟨kt, hkt⟩ := (samec_ev O (by omega)).rounds
  have HKS := Aside0.mk hks
  have HKT := Aside0.mk hkt
  have HCC := Aside0.mk hcc
  clear hkp hP hO hks hkt hpl hol
  have e0 : (s.f0 == 0) = false := beq_eq_false_iff_ne.2 (by omega)
  have d0 : decide (s.f0 = 0) = false := decide_eq_false (by omega)
  have e1 : (s.f0 == 1) = false := beq_eq_false_iff_ne.2 (by omega)
  have d1 : decide (s.f0 = 1) = false := decide_eq_false (by omega)
  have e2 : (s.f0 == 2) = false := beq_eq_false_iff_ne.2 (by omega)
  have d2 : decide (s.f0 = 2) = false := decide_eq_false (by omega)
  have e3 : (s.f0 == 3) = true := beq_iff_eq.2 hk
  have d3 : decide (s.f0 = 3) = true := decide_eq_true hk
  clear hBk hRC hb1 hBt hBt1 hG hB0 hC hcc hf2 hfz hgd hz0 ha hk
  go_enter Tryd.func25, Tryd.ntmps25
  go_wp2_with (first | (go_at_call 27; go_loud ((with_reducible refine HPB.out.mono ?_); rintro e w2 ⟨v0, v1, rfl, hp2, ho2, hb2⟩; clear hx0 hx1 hx2 hx3 hx4 hx5; obtain ⟨Ap, cp, rfl⟩ := Kd.R_slice hp2; obtain ⟨Ao, co, rfl⟩ := Kd.R_slice ho2; have HP2 := Aside0.mk hp2; have HO2 := Aside0.mk ho2; have HQ2 := Aside0.mk hb2; have HX2 := Aside0.mk (blk_below HX1.out hb2); have hx0 := (blk_cell HX2.out 0).trans rfl; have hx1 := (blk_cell HX2.out 1).trans rfl; have hx2 := (blk_cell HX2.out 2).trans rfl; have hx3 := (blk_cell HX2.out 3).trans rfl; have hx4 := (blk_cell HX2.out 4).trans rfl; have hx5 := (blk_cell HX2.out 5).trans rfl; clear hb2 hp2 ho2)) | (go_at_call 43; go_loud (clear hx0 hx1 hx2 hx3 hx4 hx5; (with_reducible refine (treemergeref36_Picks.calls kp Am cm L Bc cc s.f2 _ _ _ (Kd.C_below HRC.out HQ2.out) hlc (Kd.C_below (Kd.C_below HC1.out HB1.out) HQ2.out) HCC.out HKP.out).mono ?_); rintro e w3 ⟨v2, v3, rfl, hp3, ho3, hb3⟩; obtain ⟨Ap3, cp3, rfl⟩ := Kd.R_slice hp3; obtain ⟨Ao3, co3, rfl⟩ := Kd.R_slice ho3; have HP3 := Aside0.mk hp3; have HO3 := Aside0.mk ho3; have HPa := Aside0.mk (Kd.R_below HP2.out hb3); have HOa := Aside0.mk (Kd.R_below HO2.out hb3); have HQ3 := Aside0.mk (below_step HQ2.out hb3); clear hb3 hp3 ho3)) | (go_at_call 44; go_loud ((with_reducible refine (treemergeref36_SamePicks.calls ks _ _ P _ _ P true _ (Kd.R_reads' HPa.out).2.2 (Kd.R_reads' HPa.out).2.1 (Kd.R_reads' HP3.out).2.2 (Kd.R_reads' HP3.out).2.1 HKS.out).mono ?_); rintro e w4 ⟨rfl, hb4⟩; have HOb := Aside0.mk (Kd.R_below HOa.out hb4.below); have HOc := Aside0.mk (Kd.R_below HO3.out hb4.below); have HQ4 := Aside0.mk (below_step HQ3.out hb4.below); clear hb4)) | (go_at_call 45; go_loud ((with_reducible refine (treemergeref34_Same.calls kt _ _ O _ _ O true _ (Kd.R_reads' HOb.out).2.2 (Kd.R_reads' HOb.out).2.1 (Kd.R_reads' HOc.out).2.2 (Kd.R_reads' HOc.out).2.1 HKT.out).mono ?_); rintro e w5 ⟨rfl, hb5⟩; have HQ5 := Aside0.mk (below_step HQ4.out hb5.below); clear hb5)))
  go_ret2
  exact ⟨_, rfl, by rw [HST.out]; exact HBT.out.below HQ5.out, HW1.out.trans (HQ5.out.mono HW1.out.size)⟩
set_option maxHeartbeats 8000000 in
set_option maxRecDepth 100000 in
theorem run_list (w0 w : World) (hB0 : Below w0.heap.size w0 w) (hG : Glob w) (baseB b : Nat) (v : Value) (L : List S35) (hBt : Both w0 w baseB b v L) (ha : Asc L) (hl : L.length ≤ 200) (hgd : ∀ d ∈ L, GoodD d) (s : S50) (Bc : Option Addr) (cc : Nat) (hC : Kd.C k56 w Bc s.f2.length s.f2) (hcc : s.f2.length ≤ cc) (hf2 : s.f2.length ≤ 10) (hfz : ∀ c ∈ s.f2, FewC c) (hk : s.f0 ≠ 0 ∧ s.f0 ≠ 1 ∧ s.f0 ≠ 2 ∧ s.f0 ≠ 3) : Calls Tryd.prog 25 #[.pointer (some ⟨b, 0, none⟩), v, .agg #[.int .i64 s.f0, .int .u64 s.f1.f0, .int .i64 s.f1.f1, .string s.f1.f2, .string s.f1.f3, .slice Bc s.f2.length cc]] w fun e w' => ∃ v', e = .returned (.tuple #[v', .bool true]) ∧ Both w0 w' baseB b v' (stepS L s) ∧ Below w0.heap.size w0 w' := by
  have hb1 := below_alloc (Below.refl w.heap.size w) (.cells #[.int .i64 s.f0, .int .u64 s.f1.f0, .int .i64 s.f1.f1, .string s.f1.f2, .string s.f1.f3, .slice Bc s.f2.length cc] 50 (0, 0))
  have HX1 := Aside0.mk (blk_new w (.cells #[.int .i64 s.f0, .int .u64 s.f1.f0, .int .i64 s.f1.f1, .string s.f1.f2, .string s.f1.f3, .slice Bc s.f2.length cc] 50 (0, 0)))
  have hz0 := hB0.size
  have hu35 := Tryd.underlying35
  have hu50 := Tryd.underlying50
  have hx0 := (blk_cell HX1.out 0).trans rfl
  have hx1 := (blk_cell HX1.out 1).trans rfl
  have hx2 := (blk_cell HX1.out 2).trans rfl
  have hx3 := (blk_cell HX1.out 3).trans rfl
  have hx4 := (blk_cell HX1.out 4).trans rfl
  have hx5 := (blk_cell HX1.out 5).trans rfl
  have hBt1 := hBt.below hb1
  obtain ⟨ok, Am, cm, rfl, hBk, hlc, hRC⟩ := hBt1.read
  have HBT := Aside0.mk hBt1
  have HBK := Aside0.mk hBk
  have HRC := Aside0.mk hRC
  have HW1 := Aside0.mk (hB0.trans (hb1.mono hz0))
  have HGB := Aside0.mk (fun W (h : Below w.heap.size w W) => Glob.below h hG)
  have HB1 := Aside0.mk hb1
  have HST := Aside0.mk (show stepS L s = L by unfold stepS; rw [if_neg (by omega), if_neg (by omega)])
  have HC1 := Aside0.mk hC
  have HA := Aside0.mk ha
  have HGD := Aside0.mk hgd
  obtain ⟨ks, hks⟩ := (same_ev L (by omega)).rounds
  obtain ⟨kp, hkp⟩ := (rprint_ev L (by omega) hgd).rounds
  have HKS := Aside0.mk hks
  have HKP := Aside0.mk hkp
  have HPD : Aside0 (∀ d ∈ L, PlainD d) := ⟨fun d hd => by
    obtain ⟨_, z2, z3, _, _⟩ := fault_zero (hgd d hd).2
    exact ⟨(hgd d hd).1.1, (hgd d hd).1.2, by omega, by omega⟩⟩
  clear hks hkp
  have e0 : (s.f0 == 0) = false := beq_eq_false_iff_ne.2 (by omega)
  have d0 : decide (s.f0 = 0) = false := decide_eq_false (by omega)
  have e1 : (s.f0 == 1) = false := beq_eq_false_iff_ne.2 (by omega)
  have d1 : decide (s.f0 = 1) = false := decide_eq_false (by omega)
  have e2 : (s.f0 == 2) = false := beq_eq_false_iff_ne.2 (by omega)
  have d2 : decide (s.f0 = 2) = false := decide_eq_false (by omega)
  have e3 : (s.f0 == 3) = false := beq_eq_false_iff_ne.2 (by omega)
  have d3 : decide (s.f0 = 3) = false := decide_eq_false (by omega)
  clear hBk hRC hb1 hBt hBt1 hG hB0 hC hcc hf2 hfz hgd hz0 ha hk
  go_enter Tryd.func25, Tryd.ntmps25
  go_wp2_with (first | (go_at_call 14; go_loud ((with_reducible refine (decide_Book_List.calls _ ok baseB b L HBK.out HA.out.nodup (by omega)).mono ?_); rintro e w2 ⟨v0, rfl, hr2, hb2⟩; clear hx0 hx1 hx2 hx3 hx4 hx5; obtain ⟨Al, cl, rfl⟩ := Kd.R_slice hr2; have HR2 := Aside0.mk hr2; have HQ2 := Aside0.mk hb2; clear hb2 hr2)) | (go_at_call 13; go_loud ((with_reducible refine (treemergeref36_Same.calls ks _ _ L _ _ L true _ (Kd.R_reads' HR2.out).2.2 (Kd.R_reads' HR2.out).2.1 (Kd.C_below HRC.out HQ2.out) hlc HKS.out).mono ?_); rintro e w3 ⟨rfl, hb3⟩; have HQ3 := Aside0.mk (below_step HQ2.out hb3.below); clear hb3)) | (go_at_call 22; go_loud ((with_reducible refine (decide_Book_Print.calls _ (HGB.out _ (below_step HB1.out HQ3.out)) ok baseB b L (HBK.out.below HQ3.out) HA.out.nodup (by omega) HPD.out).mono ?_); rintro e w4 ⟨rfl, hb4⟩; have HQ4 := Aside0.mk (below_step HQ3.out hb4); clear hb4)) | (go_at_call 46; go_loud ((with_reducible refine (treemergeref36_Print.calls kp Am cm L _ _ (Kd.C_below HRC.out HQ4.out) hlc HKP.out).mono ?_); rintro e w5 ⟨rfl, hb5⟩; have HQ5 := Aside0.mk (below_step HQ4.out hb5); clear hb5)))
  go_ret2
  exact ⟨_, rfl, by rw [HST.out]; exact HBT.out.below HQ5.out, HW1.out.trans (HQ5.out.mono HW1.out.size)⟩
theorem run_calls (w0 w : World) (hB0 : Below w0.heap.size w0 w) (hG : Glob w) (baseB b : Nat) (v : Value) (L : List S35) (hBt : Both w0 w baseB b v L) (ha : Asc L) (hl : L.length ≤ 200) (hgd : ∀ d ∈ L, GoodD d) (s : S50) (Bc : Option Addr) (cc : Nat) (hC : Kd.C k56 w Bc s.f2.length s.f2) (hcc : s.f2.length ≤ cc) (hf2 : s.f2.length ≤ 10) (hfz : ∀ c ∈ s.f2, FewC c) : Calls Tryd.prog 25 #[.pointer (some ⟨b, 0, none⟩), v, .agg #[.int .i64 s.f0, .int .u64 s.f1.f0, .int .i64 s.f1.f1, .string s.f1.f2, .string s.f1.f3, .slice Bc s.f2.length cc]] w fun e w' => ∃ v', e = .returned (.tuple #[v', .bool true]) ∧ Both w0 w' baseB b v' (stepS L s) ∧ Below w0.heap.size w0 w' := by
  by_cases h0 : s.f0 = 0
  · exact run_add w0 w hB0 hG baseB b v L hBt ha hl hgd s Bc cc hC hcc hf2 hfz h0
  by_cases h1 : s.f0 = 1
  · exact run_rem w0 w hB0 hG baseB b v L hBt ha hl hgd s Bc cc hC hcc hf2 hfz h1
  by_cases h2 : s.f0 = 2
  · exact run_find w0 w hB0 hG baseB b v L hBt ha hl hgd s Bc cc hC hcc hf2 hfz h2
  by_cases h3 : s.f0 = 3
  · exact run_picks w0 w hB0 hG baseB b v L hBt ha hl hgd s Bc cc hC hcc hf2 hfz h3
  exact run_list w0 w hB0 hG baseB b v L hBt ha hl hgd s Bc cc hC hcc hf2 hfz ⟨h0, h1, h2, h3⟩

theorem rd50_at {L : List S50} {i : Nat} (h : i < L.length) : rd_T50 L (i : Int) = L[i] := by simp [rd_T50, List.getD_eq_getElem?_getD, List.getElem?_eq_getElem h]
def GoodS (s : S50) : Prop := (s.f1.f2.size ≤ 300 ∧ s.f1.f3.size ≤ 600) ∧ FewL s.f2 10
def WfS (x : S50) : Prop := (Lit.int .i64 x.f0).wf = true ∧ WfD x.f1 ∧ (x.f2.length * 64 ≤ 140737488351232 ∧ ∀ c ∈ x.f2, WfC c)
set_option maxHeartbeats 8000000 in
set_option maxRecDepth 100000 in
theorem DecideRuns_calls (A0 : Option Addr) (c0 : Nat) (l0 : List S50) (w : World) (hG : Glob w) (hr0 : Kd.C k50 w A0 l0.length l0) (hc0 : l0.length ≤ c0) (hlen : l0.length ≤ 30) (hok : ∀ x ∈ l0, WfS x) : Calls Tryd.prog 7 #[.slice A0 l0.length c0] w fun e w' => e = .returned (.bool true) ∧ Below w.heap.size w w' := by
  have HG := Aside0.mk (fun W (hb : Below w.heap.size w W) => Glob.below hb hG)
  have HC0 := Aside0.mk hr0
  have HOK := Aside0.mk hok
  have hu35 := Tryd.underlying35
  have hu50 := Tryd.underlying50
  have g0 : decide ((l0.length : Int) > 30) = false := decide_eq_false (by omega)
  have g01 : decide (30 < (l0.length : Int)) = false := decide_eq_false (by omega)
  have g02 : decide (30 < l0.length) = false := decide_eq_false (by omega)
  clear hG hok
  go_enter Tryd.func7, Tryd.ntmps7
  go_wp2
  go_loopg [3] l0.length (fun gk v3 w' => ∃ (k : Nat), v3 = .int .i64 k ∧ k + gk = l0.length ∧ Aside0 (∀ x ∈ l0.take k, GoodS x) ∧ Aside0 (Below w.heap.size w w'))
  case atStart => exact ⟨0, rfl, by omega, ⟨by simp⟩, ⟨Below.refl _ _⟩⟩
  case round =>
    obtain ⟨k, rfl, hk, HGS, HB⟩ := hrel
    obtain ⟨go, rfl⟩ : ∃ go, go = gk := ⟨gk, rfl⟩
    have HK := Aside0.mk hk
    cases go with
    | succ g =>
      have hkl : k < l0.length := by omega
      have g1 : decide ((k : Int) < (l0.length : Int)) = true := decide_eq_true (by omega)
      have g2 : decide (k < l0.length) = true := decide_eq_true (by omega)
      have p12 : 0 ≤ (k : Int) := by omega
      have q12 : (k : Int) < (l0.length : Int) := by omega
      obtain ⟨ad, B, c, e, ⟨hx0, hx1, hx2, hx3, hx4, hx5⟩, hcc, hC⟩ := at_T50 (Kd.C_below HC0.out HB.out) (k : Int) p12 q12
      cases e
      rw [Int.toNat_natCast, rd50_at hkl] at hx0 hx1 hx2 hx3 hx4 hx5
      rw [rd50_at hkl] at hcc hC
      have HCC := Aside0.mk hcc
      have HCK := Aside0.mk hC
      have hws := HOK.out l0[k] (List.getElem_mem hkl)
      have HT := Aside0.mk (List.take_succ_eq_append_getElem hkl)
      obtain ⟨s, hse⟩ : ∃ s, s = l0[k] := ⟨_, rfl⟩
      rw [← hse] at hx0 hx1 hx2 hx3 hx4 hx5 HCC HCK hws HT
      have hwk : IntKind.i64.wrap ((k : Int) + 1) = (k : Int) + 1 := (i64_w _).trans (by unfold wrap64; omega)
      have HPL := Aside0.mk (plain36_is s.f1)
      have hl2 : s.f2.length ≤ 140737488351232 := by have := hws.2.2.1; omega
      obtain ⟨kf, hkf⟩ := (few36_ev s.f2 10 (by decide) hl2).rounds
      have HKF := Aside0.mk (show treemergelaw36_few.f kf s.f2 10 = some (decide (FewL s.f2 10)) from hkf)
      clear hkf hse hk hcc hC hws hl2
      by_cases hp : s.f1.f2.size ≤ 300 ∧ s.f1.f3.size ≤ 600
      · rw [decide_eq_true hp] at HPL
        by_cases hf : FewL s.f2 10
        · rw [decide_eq_true hf] at HKF
          have HGS2 := Aside0.mk (show ∀ x ∈ l0.take (k + 1), GoodS x from fun x hx => by
            rw [HT.out] at hx
            rcases List.mem_append.1 hx with hx | hx
            · exact HGS.out x hx
            · rw [List.mem_singleton.1 hx]
              exact ⟨hp, hf⟩)
          clear hp hf
          go_wp2_with (first | (go_at_call 15; go_loud ((with_reducible refine (treemergelaw36_plain.calls _ _ _ _ true _ HPL.out).mono ?_); rintro e w2 ⟨rfl, hb2⟩; have HB2 := Aside0.mk (below_step HB.out hb2); have h5 := pw_cell_below hb2 hx5; have HC2 := Aside0.mk (Kd.C_below HCK.out hb2); clear hb2 hx0 hx1 hx2 hx3 hx4 hx5)) | (go_at_call 24; go_loud ((with_reducible refine (treemergelaw36_few.calls kf B c s.f2 10 true _ HC2.out HCC.out HKF.out).mono ?_); rintro e w3 ⟨rfl, hb3⟩; have HB3 := Aside0.mk (below_step HB2.out hb3.below); clear hb3 h5)))
          go_roundg g
          case measure => omega
          case rel => exact ⟨k + 1, by go_num, by have := HK.out; omega, HGS2, HB3⟩
        · rw [decide_eq_false hf] at HKF
          clear hp hf
          go_wp2_with (first | (go_at_call 15; go_loud ((with_reducible refine (treemergelaw36_plain.calls _ _ _ _ true _ HPL.out).mono ?_); rintro e w2 ⟨rfl, hb2⟩; have HB2 := Aside0.mk (below_step HB.out hb2); have h5 := pw_cell_below hb2 hx5; have HC2 := Aside0.mk (Kd.C_below HCK.out hb2); clear hb2 hx0 hx1 hx2 hx3 hx4 hx5)) | (go_at_call 24; go_loud ((with_reducible refine (treemergelaw36_few.calls kf B c s.f2 10 false _ HC2.out HCC.out HKF.out).mono ?_); rintro e w3 ⟨rfl, hb3⟩; have HB3 := Aside0.mk (below_step HB2.out hb3.below); clear hb3 h5)) | (go_at_call 10; go_loud ((with_reducible refine (awake_calls _ (HG.out _ HB3.out)).mono ?_); rintro e w9 ⟨rfl, hk9⟩; have HB9 := Aside0.mk (below_step HB3.out hk9.asBelow); clear hk9)))
          go_ret
          exact ⟨rfl, HB9.out⟩
      · rw [decide_eq_false hp] at HPL
        clear hp
        go_wp2_with (first | (go_at_call 15; go_loud ((with_reducible refine (treemergelaw36_plain.calls _ _ _ _ false _ HPL.out).mono ?_); rintro e w2 ⟨rfl, hb2⟩; have HB2 := Aside0.mk (below_step HB.out hb2); have h5 := pw_cell_below hb2 hx5; have HC2 := Aside0.mk (Kd.C_below HCK.out hb2); clear hb2 hx0 hx1 hx2 hx3 hx4 hx5)) | (go_at_call 10; go_loud ((with_reducible refine (awake_calls _ (HG.out _ HB2.out)).mono ?_); rintro e w9 ⟨rfl, hk9⟩; have HB9 := Aside0.mk (below_step HB2.out hk9.asBelow); clear hk9)))
        go_ret
        exact ⟨rfl, HB9.out⟩
    | zero =>
      have g1 : decide ((k : Int) < (l0.length : Int)) = false := decide_eq_false (by omega)
      have g2 : decide (k < l0.length) = false := decide_eq_false (by omega)
      rw [List.take_of_length_le (show l0.length ≤ k by omega)] at HGS
      clear hk
      go_wp2_with (first | (go_at_call 16; ((with_reducible refine (decide_New.calls2 _).mono ?_); rintro e w1 ⟨b, rfl, hbk, hb1⟩; have HBK1 := Aside0.mk hbk; have HB1 := Aside0.mk (below_step HB.out hb1); have HS1 := Aside0.mk hb1.size; clear hbk hb1)))
      obtain ⟨baseB, hbase⟩ : ∃ n, n = wr.heap.size := ⟨_, rfl⟩
      rw [← hbase] at HBK1
      have HBT := Aside0.mk (show Both w w1 baseB b (.slice none 0 0) [] from ⟨_, fun _ => False, HBK1.out, Kd.R_nil _ _ _ _ _, fun k q => ⟨by have h1 := HB.out.size; have h2 := q.1; omega, q.2, fun h => h⟩, fun k q => q.elim⟩)
      clear hbase HBK1
      go_loopg [5, 6] l0.length (fun gk v5 v6 w' => ∃ (k : Nat) (L : List S35), v6 = .int .i64 k ∧ k + gk = l0.length ∧ L.length ≤ k ∧ Aside0 (Asc L) ∧ Aside0 (∀ d ∈ L, GoodD d) ∧ Aside0 (Both w w' baseB b v5 L) ∧ Aside0 (Below w.heap.size w w'))
      case atStart => exact ⟨0, [], rfl, by omega, Nat.le_refl _, ⟨List.Pairwise.nil⟩, ⟨by simp⟩, HBT, HB1⟩
      case round =>
        obtain ⟨k, L, rfl, hk, hL, HA, HGD, HBT, HB⟩ := hrel
        obtain ⟨go, rfl⟩ : ∃ go, go = gk := ⟨gk, rfl⟩
        have HK := Aside0.mk hk
        have HL := Aside0.mk hL
        cases go with
        | succ g =>
          have hkl : k < l0.length := by omega
          have g1 : decide ((k : Int) < (l0.length : Int)) = true := decide_eq_true (by omega)
          have g2 : decide (k < l0.length) = true := decide_eq_true (by omega)
          have p12 : 0 ≤ (k : Int) := by omega
          have q12 : (k : Int) < (l0.length : Int) := by omega
          obtain ⟨ad, B, c, e, ⟨hx0, hx1, hx2, hx3, hx4, hx5⟩, hcc, hC⟩ := at_T50 (Kd.C_below HC0.out HB.out) (k : Int) p12 q12
          cases e
          rw [Int.toNat_natCast, rd50_at hkl] at hx0 hx1 hx2 hx3 hx4 hx5
          rw [rd50_at hkl] at hcc hC
          have hws := HOK.out l0[k] (List.getElem_mem hkl)
          have hgs := HGS.out l0[k] (List.getElem_mem hkl)
          obtain ⟨s, hse⟩ : ∃ s, s = l0[k] := ⟨_, rfl⟩
          rw [← hse] at hx0 hx1 hx2 hx3 hx4 hx5 hcc hC hws hgs
          have hwk : IntKind.i64.wrap ((k : Int) + 1) = (k : Int) + 1 := (i64_w _).trans (by unfold wrap64; omega)
          have hrng : 0 ≤ s.f1.f0 ∧ s.f1.f0 < 2 ^ 64 := by
            have := bounds_u64 hws.2.1.1
            omega
          have HRN := Aside0.mk (run_calls w wr HB.out (HG.out _ HB.out) baseB b _ L HBT.out HA.out (by omega) HGD.out s B c hC hcc hgs.2.1 (fun y hy => fewC_of (hws.2.2.2 y hy) (hgs.2.2 y hy)))
          have HA2 := Aside0.mk (stepS_asc L s HA.out)
          have HL2 := Aside0.mk (stepS_len L s HA.out)
          have HG2 := Aside0.mk (stepS_good L s hrng HGD.out)
          obtain ⟨ks, hks⟩ := (same_ev (stepS L s) (by have := stepS_len L s HA.out; omega)).rounds
          have HKS := Aside0.mk hks
          clear hks hse hk hL hcc hC hws hgs hrng
          go_wp2_with (first | (go_at_call 25; go_loud ((with_reducible refine HRN.out.mono ?_); rintro e w2 ⟨v2, rfl, hbt2, hb2⟩; clear hx0 hx1 hx2 hx3 hx4 hx5; obtain ⟨ok2, A2, c2, rfl, hbk2, hlc2, hrc2⟩ := hbt2.read; have HBT2 := Aside0.mk hbt2; have HBK2 := Aside0.mk hbk2; have HRC2 := Aside0.mk hrc2; have HB2 := Aside0.mk hb2; clear hbt2 hbk2 hrc2 hb2)) | (go_at_call 14; go_loud ((with_reducible refine (decide_Book_List.calls _ ok2 baseB b (stepS L s) HBK2.out HA2.out.nodup (by have := HL2.out; have := HL.out; omega)).mono ?_); rintro e w3 ⟨v3, rfl, hr3, hb3⟩; obtain ⟨A3, c3, rfl⟩ := Kd.R_slice hr3; have HR3 := Aside0.mk hr3; have HQ3 := Aside0.mk hb3; clear hr3 hb3)) | (go_at_call 13; go_loud ((with_reducible refine (treemergeref36_Same.calls ks _ _ (stepS L s) _ _ (stepS L s) true _ (Kd.R_reads' HR3.out).2.2 (Kd.R_reads' HR3.out).2.1 (Kd.C_below HRC2.out HQ3.out) hlc2 HKS.out).mono ?_); rintro e w4 ⟨rfl, hb4⟩; have HQ4 := Aside0.mk (below_step HQ3.out hb4.below); clear hb4)))
          go_roundg g
          case measure => omega
          case rel => exact ⟨k + 1, stepS L s, by go_num, by have := HK.out; omega, by have := HL2.out; have := HL.out; omega, HA2, HG2, ⟨HBT2.out.below HQ4.out⟩, ⟨below_step HB2.out HQ4.out⟩⟩
        | zero =>
          have g1 : decide ((k : Int) < (l0.length : Int)) = false := decide_eq_false (by omega)
          have g2 : decide (k < l0.length) = false := decide_eq_false (by omega)
          clear hk hL
          go_wp2_with (first | (go_at_call 10; go_loud ((with_reducible refine (awake_calls _ (HG.out _ HB.out)).mono ?_); rintro e w9 ⟨rfl, hk9⟩; have HB9 := Aside0.mk (below_step HB.out hk9.asBelow); clear hk9)))
          go_ret
          exact ⟨rfl, HB9.out⟩
set_option maxHeartbeats 8000000 in
set_option maxRecDepth 100000 in
theorem DecideRuns_long (A0 : Option Addr) (c0 : Nat) (l0 : List S50) (w : World) (hG : Glob w) (hl : l0.length ≤ 140737488351232) (hlen : ¬ l0.length ≤ 30) : Calls Tryd.prog 7 #[.slice A0 l0.length c0] w fun e w' => e = .returned (.bool true) ∧ Below w.heap.size w w' := by
  have HAW := Aside0.mk (awake_calls w hG)
  have g0 : decide ((l0.length : Int) > 30) = true := decide_eq_true (by omega)
  have g01 : decide (30 < (l0.length : Int)) = true := decide_eq_true (by omega)
  have g02 : decide (30 < l0.length) = true := decide_eq_true (by omega)
  clear hG hlen
  go_enter Tryd.func7, Tryd.ntmps7
  go_wp2_with (first | (go_at_call 10; go_loud ((with_reducible refine HAW.out.mono ?_); rintro e w9 ⟨rfl, hk9⟩; have HB9 := Aside0.mk hk9.asBelow; clear hk9)))
  go_ret
  exact ⟨rfl, HB9.out⟩
theorem DecideRuns_row {w : World} (A0 : Option Addr) (c0 : Nat) (l0 : List S50) (hr0 : Kd.C k50 w A0 l0.length l0) (hc0 : l0.length ≤ c0) (hy0 : l0.length * 80 ≤ 140737488351232) (hok0 : ∀ x ∈ l0, WfS x) (hG : Glob w) : Calls Tryd.prog 7 #[.slice A0 l0.length c0] w fun e w' => e = .returned (.bool true) ∧ Below w.heap.size w w' := by
  by_cases hlen : l0.length ≤ 30
  · exact DecideRuns_calls A0 c0 l0 w hG hr0 hc0 hlen hok0
  · exact DecideRuns_long A0 c0 l0 w hG (by omega) hlen

end Go.Proofs.YtfajgjmhfpabiaaDoor.Scratch
