-- Written by a program of this session (mk.py) out of the translation; Lean checks it.
import Derived.Test.YtcfjdehpbckomaaQ0
import Derived.Test.YtcfjdehpbckomaaQ2
import Derived.Test.YtcfjdehpbckomaaQ3
import Derived.Test.YtcfjdehpbckomaaQ4
namespace Go.Proofs.Ytcfjdehpbckomaa.Q
open Go.RowKit Go.Proofs.YtcfjdehpbckomaaW.PrintWords Go.Proofs.YtcfjdehpbckomaaW.PrintLast Go.Proofs.YtcfjdehpbckomaaW.PrintMore
attribute [local go_sem] max2_int min2_int max_two min_two max_three min_three max_four min_four   -- for this text's walks alone
set_option linter.unusedVariables false
set_option linter.unusedSimpArgs false

/-! ### change_List: function 10 (by hand) -/
theorem idxL_bd (l : List S25) : ∀ (m : Nat) (k : Int), k ∈ idxL l m → (m : Int) ≤ k ∧ k < ((m + (preL l).length : Nat) : Int) := by
 induction l with
 | nil => intro m k h; simp [idxL] at h
 | cons y l ih =>
  intro m k h
  rw [idxL, List.mem_cons] at h
  have hp : (preT y).length = 1 + (preL y.f3).length := by rw [preT_eq, List.length_cons]; omega
  rw [preL, List.length_append]
  rcases h with h | h
  ·omega
  ·have := ih _ k h
   omega
/-- What a table's rows name lies in the table. -/
theorem rowsT_bd (x : S25) : ∀ (p : Int) (n : Nat) (r : S70), r ∈ rowsT x p n → (r.f0 = p ∨ ((n : Int) ≤ r.f0 ∧ r.f0 < ((n + (preT x).length : Nat) : Int))) ∧ ∀ k ∈ r.f4, (n : Int) < k ∧ k < ((n + (preT x).length : Nat) : Int) := by
 induction x using tree_ind with
 | h x ih =>
 intro p n r hr
 have hp : (preT x).length = 1 + (preL x.f3).length := by rw [preT_eq, List.length_cons]; omega
 have key : ∀ (l : List S25), (∀ y ∈ l, y ∈ x.f3) → ∀ n m, r ∈ rowsL l n m → (r.f0 = (n : Int) ∨ ((m : Int) ≤ r.f0 ∧ r.f0 < ((m + (preL l).length : Nat) : Int))) ∧ ∀ k ∈ r.f4, (m : Int) < k ∧ k < ((m + (preL l).length : Nat) : Int) := by
  intro l
  induction l with
  | nil => intro _ n m h; simp [rowsL] at h
  | cons y l ihl =>
   intro hl n m h
   rw [rowsL, List.mem_append] at h
   rw [preL, List.length_append]
   rcases h with h | h
   ·obtain ⟨h1, h2⟩ := ih y (hl y (by simp)) (n : Int) m r h
    exact ⟨by rcases h1 with h1 | h1; exact .inl h1; exact .inr (by omega), fun k hk => by have := h2 k hk; omega⟩
   ·obtain ⟨h1, h2⟩ := ihl (fun z hz => hl z (by simp [hz])) n (m + (preT y).length) h
    exact ⟨by rcases h1 with h1 | h1; exact .inl h1; exact .inr (by omega), fun k hk => by have := h2 k hk; omega⟩
 rw [rowsT_eq, List.mem_cons] at hr
 rcases hr with rfl | hr
 ·refine ⟨.inl rfl, fun k hk => ?_⟩
  have := idxL_bd _ _ k hk
  omega
 ·obtain ⟨h1, h2⟩ := key x.f3 (fun _ h => h) n (n + 1) hr
  exact ⟨.inr (by rcases h1 with h1 | h1 <;> omega), fun k hk => by have := h2 k hk; omega⟩
theorem rows_bd (x : S25) (r : S70) (hr : r ∈ rowsT x (-1) 0) : (r.f0 = -1 ∨ (0 ≤ r.f0 ∧ r.f0 < ((rowsT x (-1) 0).length : Int))) ∧ ∀ k ∈ r.f4, 0 ≤ k ∧ k < ((rowsT x (-1) 0).length : Int) := by
 obtain ⟨h1, h2⟩ := rowsT_bd x (-1) 0 r hr
 rw [rowsT_len]
 exact ⟨by rcases h1 with h1 | h1; exact .inl h1; exact .inr (by omega), fun k hk => by have := h2 k hk; omega⟩
/-- What is known about a node with an identifier. -/
structure Fct where
 par : Int
 txt : ByteArray
 gaps : List ByteArray
 kids : List Int
def factRow (ids : List Int) (r : S70) : Fct := ⟨if r.f0 < 0 then -1 else ids.getD r.f0.toNat 0, r.f2, r.f3, r.f4.map (fun k => ids.getD k.toNat 0)⟩
def factsTo (rows : List S70) (ids : List Int) : Nat → List (Int × Fct)
 | 0 => []
 | k + 1 => gput (factsTo rows ids k) (ids.getD k 0) (factRow ids (rows.getD k z70))
def factsOk (rows : List S70) (ids : List Int) : Bool := decide (rows.length = ids.length) && ids.all (fun k => decide (0 ≤ k)) && decide ((factsTo rows ids ids.length).length = ids.length)
def FctV (w : World) (P : Nat → Prop) (x : Fct) (v : Value) : Prop := ∃ A2 c2 A3 c3, v = .agg #[.int .i64 x.par, .string x.txt, .slice A2 x.gaps.length c2, .slice A3 x.kids.length c3] ∧ x.gaps.length ≤ c2 ∧ Kd.F Kd.string w P A2 x.gaps.length x.gaps ∧ x.kids.length ≤ c3 ∧ Kd.F (Kd.int .i64) w P A3 x.kids.length x.kids
theorem FctV.step {w w' : World} {P : Nat → Prop} {x : Fct} {v : Value} (h : FctV w P x v) (hm : ∀ k, P k → k < w.heap.size → w'.heap[k]? = w.heap[k]?) : FctV w' P x v := by
 obtain ⟨A2, c2, A3, c3, h1, h2, h3, h4, h5⟩ := h
 exact ⟨A2, c2, A3, c3, h1, h2, Kd.F_step h3 hm, h4, Kd.F_step h5 hm⟩
theorem FctV.below {w w' : World} {P : Nat → Prop} {x : Fct} {v : Value} (h : FctV w P x v) (hb : Below w.heap.size w w') : FctV w' P x v := h.step (fun k _ hk => hb.block k hk)
theorem FctV.mono {w : World} {P P' : Nat → Prop} {x : Fct} {v : Value} (h : FctV w P x v) (hp : ∀ k, P k → P' k) : FctV w P' x v := by
 obtain ⟨A2, c2, A3, c3, h1, h2, h3, h4, h5⟩ := h
 exact ⟨A2, c2, A3, c3, h1, h2, Kd.F_mono h3 hp, h4, Kd.F_mono h5 hp⟩
/-- The map of what is known, in block b. -/
def FMap (w : World) (b : Nat) (m : List (Int × Fct)) : Prop := MapT keyI (FctV w (fun k => k ≠ b)) w b m
theorem FMap.map {w : World} {b : Nat} {m : List (Int × Fct)} (h : FMap w b m) : MapT keyI (FctV w (fun k => k ≠ b)) w b m := h
theorem FMap.below {w w' : World} {b : Nat} {m : List (Int × Fct)} (h : FMap w b m) (hb : Below w.heap.size w w') : FMap w' b m := MapT.mono (MapT.below h hb) (fun _ _ hv => hv.below hb)
theorem FMap.put {w w' : World} {b : Nat} {m' : List (Int × Fct)} (h : MapT keyI (FctV w (fun k => k ≠ b)) w' b m') (hg : w.grownBy w' (some b)) : FMap w' b m' := MapT.mono h (fun _ _ hv => hv.step (fun k hk hl => hg.block k hl (fun e => hk (by injection e))))
theorem rowF_open {W : World} {ok : Nat → Prop} {x : S70} {cs : List Value} (h : Kd.FK k70 W ok x cs) : ∃ A3 c3 A4 c4, cs = [.int .i64 x.f0, .int .i64 x.f1, .string x.f2, .slice A3 x.f3.length c3, .slice A4 x.f4.length c4] ∧ x.f3.length ≤ c3 ∧ Kd.F Kd.string W ok A3 x.f3.length x.f3 ∧ x.f4.length ≤ c4 ∧ Kd.F (Kd.int .i64) W ok A4 x.f4.length x.f4 := by
 obtain ⟨A3, c3, A4, c4, rfl, l3, _, l4, _⟩ := k70_open (Kd.FK_now h)
 exact ⟨A3, c3, A4, c4, rfl, l3, (fun W' hW => by obtain ⟨A3_, c3_, A4_, c4_, he, l3_, g3_, l4_, g4_⟩ := k70_open (h W' hW); injection (Option.some.inj (show some (Value.slice A3 x.f3.length c3) = some (Value.slice A3_ x.f3.length c3_) from congrArg (fun l => l[3]?) he)) with ha_ _ _; rw [ha_]; exact g3_), l4, (fun W' hW => by obtain ⟨A3_, c3_, A4_, c4_, he, l3_, g3_, l4_, g4_⟩ := k70_open (h W' hW); injection (Option.some.inj (show some (Value.slice A4 x.f4.length c4) = some (Value.slice A4_ x.f4.length c4_) from congrArg (fun l => l[4]?) he)) with ha_ _ _; rw [ha_]; exact g4_)⟩
theorem at_F70 {w : World} {P : Nat → Prop} {A : Option Addr} {n : Nat} {xs : List S70} (h : Kd.F k70 w P A n xs) (i : Int) (h0 : 0 ≤ i) (h1 : i < n) : ∃ ad A3 c3 A4 c4, A = some ad ∧ w.cell? (ad.add (i.toNat * 5)) = some (.int .i64 (rd_T70 xs i).f0) ∧ w.cell? ⟨(ad.add (i.toNat * 5)).block, (ad.add (i.toNat * 5)).off + 1, none⟩ = some (.int .i64 (rd_T70 xs i).f1) ∧ w.cell? ⟨(ad.add (i.toNat * 5)).block, (ad.add (i.toNat * 5)).off + 2, none⟩ = some (.string (rd_T70 xs i).f2) ∧ w.cell? ⟨(ad.add (i.toNat * 5)).block, (ad.add (i.toNat * 5)).off + 3, none⟩ = some (.slice A3 (rd_T70 xs i).f3.length c3) ∧ w.cell? ⟨(ad.add (i.toNat * 5)).block, (ad.add (i.toNat * 5)).off + 4, none⟩ = some (.slice A4 (rd_T70 xs i).f4.length c4) ∧ (rd_T70 xs i).f3.length ≤ c3 ∧ Kd.F Kd.string w P A3 (rd_T70 xs i).f3.length (rd_T70 xs i).f3 ∧ (rd_T70 xs i).f4.length ≤ c4 ∧ Kd.F (Kd.int .i64) w P A4 (rd_T70 xs i).f4.length (rd_T70 xs i).f4 := by
 obtain ⟨ad, c, e, _, hK, hc0, _⟩ := Kd.F_get h z70 i h0 h1
 have hc : ∀ j u, c[j]? = some u → w.cell? (ad.add (i.toNat * 5 + j)) = some u := hc0
 obtain ⟨A3, c3, A4, c4, rfl, l3, g3, l4, g4⟩ := rowF_open hK
 exact ⟨ad, A3, c3, A4, c4, e, hc 0 _ rfl, by rw [← add_field _ _ 1 (by omega)]; exact hc 1 _ rfl, by rw [← add_field _ _ 2 (by omega)]; exact hc 2 _ rfl, by rw [← add_field _ _ 3 (by omega)]; exact hc 3 _ rfl, by rw [← add_field _ _ 4 (by omega)]; exact hc 4 _ rfl, l3, g3, l4, g4⟩
theorem factsOk_all {rows : List S70} {ids : List Int} (h : rows.length = ids.length) (h2 : ∀ i, i < ids.length → 0 ≤ ids.getD i 0) : factsOk rows ids = decide ((factsTo rows ids ids.length).length = ids.length) := by
 unfold factsOk
 have h1 : ids.all (fun k => decide (0 ≤ k)) = true := by
  rw [List.all_eq_true]
  intro k hk
  obtain ⟨i, hi, rfl⟩ := List.getElem_of_mem hk
  have := h2 i hi
  rw [List.getD_eq_getElem?_getD, List.getElem?_eq_getElem hi] at this
  simpa using this
 rw [h1, decide_eq_true h]
 rfl
theorem rowsT_kids (x : S25) : ∀ (p : Int) (n : Nat) (r : S70), r ∈ rowsT x p n → r.f4.length ≤ (preT x).length := by
 induction x using tree_ind with
 | h x ih =>
 intro p n r hr
 have hp : (preT x).length = 1 + (preL x.f3).length := by rw [preT_eq, List.length_cons]; omega
 have key : ∀ (l : List S25), (∀ y ∈ l, y ∈ x.f3) → ∀ n m, r ∈ rowsL l n m → r.f4.length ≤ (preL l).length := by
  intro l
  induction l with
  | nil => intro _ n m h; simp [rowsL] at h
  | cons y l ihl =>
   intro hl n m h
   rw [rowsL, List.mem_append] at h
   rw [preL, List.length_append]
   rcases h with h | h
   ·have := ih y (hl y (by simp)) (n : Int) m r h
    omega
   ·have := ihl (fun z hz => hl z (by simp [hz])) n (m + (preT y).length) h
    omega
 rw [rowsT_eq, List.mem_cons] at hr
 rcases hr with rfl | hr
 ·have h1 := preL_len x.f3
  simp only [idxL_len]
  omega
 ·have := key x.f3 (fun _ h => h) n (n + 1) hr
  omega
theorem rows_kids (x : S25) (hok : treeOk x = true) (r : S70) (hr : r ∈ rowsT x (-1) 0) : r.f4.length ≤ 1000000 := by
 have h1 := rowsT_kids x (-1) 0 r hr
 unfold treeOk at hok
 simp only [Bool.and_eq_true, decide_eq_true_eq] at hok
 omega
theorem factsOk_len {rows : List S70} {ids : List Int} (h : rows.length ≠ ids.length) : factsOk rows ids = false := by
 unfold factsOk
 rw [decide_eq_false h]
 rfl
theorem factsOk_neg {rows : List S70} {ids : List Int} {j : Nat} (hj : j < ids.length) (h : ids[j] < 0) : factsOk rows ids = false := by
 unfold factsOk
 have : ids.all (fun k => decide (0 ≤ k)) = false := by
  rw [List.all_eq_false]
  exact ⟨ids[j], List.getElem_mem hj, by simpa using h⟩
 rw [this]
 simp
set_option maxHeartbeats 16000000 in
set_option maxRecDepth 100000 in
theorem facts_calls (x : S25) (ids : List Int) (A2 : Option Addr) (c2 : Nat) (A3 : Option Addr) (c3 : Nat) (Ai : Option Addr) (ci : Nat) (w : World) (h2 : Kd.C Kd.string w A2 x.f2.length x.f2) (l2 : x.f2.length ≤ c2) (h3 : Kd.C k25 w A3 x.f3.length x.f3) (l3 : x.f3.length ≤ c3) (hi : Kd.C (Kd.int .i64) w Ai ids.length ids) (li : ids.length ≤ ci) (hok : treeOk x = true) :
  Calls Try.prog 23 #[.agg #[.int .i64 x.f0, .string x.f1, .slice A2 x.f2.length c2, .slice A3 x.f3.length c3], .slice Ai ids.length ci] w fun e w' => ∃ mb, e = .returned (.tuple #[.map mb, .bool (factsOk (rowsT x (-1) 0) ids)]) ∧ Below w.heap.size w w' ∧ (factsOk (rowsT x (-1) 0) ids = true → ∃ b, mb = some b ∧ w.heap.size ≤ b ∧ FMap w' b (factsTo (rowsT x (-1) 0) ids ids.length)) := by
 have hu25 := Try.underlying25
 have hu70 := Try.underlying70
 have HI := Aside0.mk hi
 have LI := Aside0.mk li
 obtain ⟨rows, hrows⟩ : ∃ rows, rows = rowsT x (-1) 0 := ⟨_, rfl⟩
 have HBD := Aside0.mk (fun r hr => by rw [hrows] at hr; have := rows_bd x r hr; rw [← hrows] at this; exact this : ∀ r ∈ rows, (r.f0 = -1 ∨ (0 ≤ r.f0 ∧ r.f0 < (rows.length : Int))) ∧ ∀ k ∈ r.f4, 0 ≤ k ∧ k < (rows.length : Int))
 have HRN := Aside0.mk (by rw [hrows, rowsT_len]; unfold treeOk at hok; simp only [Bool.and_eq_true, decide_eq_true_eq] at hok; exact hok.1 : rows.length ≤ 1000000)
 have HC := Aside0.mk (fun (W : World) (hb : Below w.heap.size w W) => tree_Rows.calls x.f0 x.f1 A2 c2 x.f2 A3 c3 x.f3 rows W (Kd.C_below h2 hb) l2 (Kd.C_below h3 hb) l3 (by unfold tree_Rows.f; rw [show (⟨x.f0, x.f1, x.f2, x.f3⟩ : S25) = x by cases x; rfl, if_pos hok, ← hrows]))
 have HL4 := Aside0.mk (by rw [hrows]; exact fun r hr => rows_kids x hok r hr : ∀ r ∈ rows, r.f4.length ≤ 1000000)
 rw [← hrows]
 clear hrows hok h2 l2 h3 l3 hi li
 have HB := Aside0.mk (Below.refl w.heap.size w)
 have hmm := @run_makeMap Try.prog
 by_cases hlen : rows.length = ids.length
 case neg =>
  have HN := Aside0.mk hlen
  have e1 : ((rows.length : Int) != (ids.length : Int)) = true := by rw [bne_iff_ne]; omega
  have HF := Aside0.mk (factsOk_len hlen)
  clear hlen
  go_enter Try.func23, Try.ntmps23
  go_wp2_with (first | ((with_reducible refine gate_dst (N := 2) rfl ?_); refine box_event ?hg (N := 2) ?hd (cs := #[.int .i64 x.f0, .string x.f1, .slice A2 x.f2.length c2, .slice A3 x.f3.length c3]) (t := 25) ?hr ?_; (case hd => rfl); (case hg => rfl); (case hr => first | (go_simp; done) | (go_simp; rfl)); intro g4 hg w1 hbox hb; have HB1 := Aside0.mk (below_step HB.out hb); have z40 := (blk_cell hbox 0).trans rfl; have z41 := (blk_cell hbox 1).trans rfl; have z42 := (blk_cell hbox 2).trans rfl; have z43 := (blk_cell hbox 3).trans rfl; clear hbox hb hg) | (go_at_call 49; go_loud ((with_reducible refine (HC.out _ HB1.out).mono ?_); rintro e w3 ⟨v, rfl, hR, hb3⟩; obtain ⟨Ar, cr, rfl⟩ := Kd.R_slice hR; have HB3 := Aside0.mk (below_step HB1.out hb3); clear hR hb3 z40 z41 z42 z43)))
  go_ret2
  exact ⟨none, by rw [HF.out]; rfl, HB3.out, fun h => by rw [HF.out] at h; cases h⟩
 have HLN := Aside0.mk hlen
 have e1 : ((rows.length : Int) != (ids.length : Int)) = false := by rw [bne_eq_false_iff_eq]; omega
 clear hlen
 go_enter Try.func23, Try.ntmps23
 go_wp2_with (first | ((with_reducible refine gate_dst (N := 2) rfl ?_); refine box_event ?hg (N := 2) ?hd (cs := #[.int .i64 x.f0, .string x.f1, .slice A2 x.f2.length c2, .slice A3 x.f3.length c3]) (t := 25) ?hr ?_; (case hd => rfl); (case hg => rfl); (case hr => first | (go_simp; done) | (go_simp; rfl)); intro g4 hg w1 hbox hb; have HB1 := Aside0.mk (below_step HB.out hb); have z40 := (blk_cell hbox 0).trans rfl; have z41 := (blk_cell hbox 1).trans rfl; have z42 := (blk_cell hbox 2).trans rfl; have z43 := (blk_cell hbox 3).trans rfl; clear hbox hb hg) | (go_at_call 49; go_loud ((with_reducible refine (HC.out _ HB1.out).mono ?_); rintro e w3 ⟨v, rfl, hR, hb3⟩; obtain ⟨Ar, cr, rfl⟩ := Kd.R_slice hR; have HB3 := Aside0.mk (below_step HB1.out hb3); have HRF := Aside0.mk (Kd.R_F (Kd.R_mono (ok' := fun k => k < w3.heap.size) (Kd.R_bound hR) (fun k hk => hk.2.2.1))); clear hR hb3 z40 z41 z42 z43)))
 have HWL := Aside0.mk (HB3.out.size : w.heap.size ≤ w3.heap.size)
 go_loopg [23] rows.length (fun gk v23 w' => ∃ (j : Nat), v23 = .int .i64 j ∧ j + gk = rows.length ∧ Aside0 (∀ i, i < j → 0 ≤ ids.getD i 0) ∧ Aside0 (FMap w' w3.heap.size (factsTo rows ids j)) ∧ Aside0 (Below w3.heap.size w3 w'))
 case atStart =>
  refine ⟨0, rfl, by omega, ⟨fun i h => by omega⟩, ⟨MapT.new _ _ _⟩, ⟨below_alloc (Below.refl _ _) _⟩⟩
 case round =>
  obtain ⟨j, rfl, hj, HNN, HM, HBW⟩ := hrel
  obtain ⟨go, rfl⟩ : ∃ go, go = gk := ⟨gk, rfl⟩
  have HJ := Aside0.mk hj
  cases go with
  | zero =>
   have g1 : decide ((j : Int) < (rows.length : Int)) = false := decide_eq_false (by omega)
   have g2 : decide (j < rows.length) = false := decide_eq_false (by omega)
   obtain rfl : j = rows.length := by omega
   clear hj
   go_wp2_with (with_reducible refine wpList_lenT rfl _ rfl Try.underlying52 rfl HM.out.map ?_)
   have HRL := Aside0.mk (factsOk_all HLN.out (fun i hi => HNN.out i (by rw [HLN.out]; exact hi)))
   go_ret2
   refine ⟨some w3.heap.size, ?_, below_then HB3.out HWL.out HBW.out, fun _ => ⟨_, rfl, HWL.out, by rw [← HLN.out]; exact HM.out⟩⟩
   rw [HRL.out, ← HLN.out]
   have e : ((((factsTo rows ids rows.length).length : Int) == (rows.length : Int))) = decide ((factsTo rows ids rows.length).length = rows.length) := by
    rw [Bool.eq_iff_iff, beq_iff_eq, decide_eq_true_iff]
    omega
   rw [← e]
   rfl
  | succ g =>
   have hjl : j < rows.length := by omega
   have HJL := Aside0.mk hjl
   have g1 : decide ((j : Int) < (rows.length : Int)) = true := decide_eq_true (by omega)
   have g2' : decide (j < rows.length) = true := decide_eq_true hjl
   have p0 : (0 : Int) ≤ (j : Int) := by omega
   have p1 : (j : Int) < (rows.length : Int) := by omega
   have p2 : (j : Int) < (ids.length : Int) := by have := HLN.out; omega
   have HB := Aside0.mk (below_then HB3.out HWL.out HBW.out)
   obtain ⟨ad, Ag, cg, Ak, ck, hA, q0, q1, q2, q3, q4, m3, G3, m4, G4⟩ := at_F70 (Kd.F_below HRF.out HBW.out) (j : Int) p0 p1
   obtain ⟨r, hr⟩ : ∃ r, r = rd_T70 rows (j : Int) := ⟨_, rfl⟩
   rw [Int.toNat_natCast] at q0 q1 q2 q3 q4
   rw [← hr] at q0 q1 q2 q3 q4 m3 G3 m4 G4
   have HR := Aside0.mk (hr.trans (by unfold rd_T70; rw [Int.toNat_natCast]) : r = rows.getD j z70)
   subst hA
   obtain ⟨ai, ei, hx⟩ := Kd.at_int (Kd.C_below HI.out HB.out) (j : Int) p0 p2
   cases ei
   rw [Int.toNat_natCast] at hx
   obtain ⟨id, hid⟩ : ∃ id, id = rd ids (j : Int) := ⟨_, rfl⟩
   rw [← hid] at hx
   have HID := Aside0.mk (hid.trans (by unfold rd; rw [Int.toNat_natCast]) : id = ids.getD j 0)
   have hxk := Aside0.mk hx
   have M3 := Aside0.mk m3
   have M4 := Aside0.mk m4
   have HG3 := Aside0.mk G3
   have HG4 := Aside0.mk G4
   clear hj hjl hr hid m3 m4 G3 G4
   by_cases hneg : id < 0
   ·have e3 : decide (id < 0) = true := decide_eq_true hneg
    have HNG := Aside0.mk hneg
    clear hneg
    go_wp2_with (first | ((with_reducible refine gate_dst (N := 9) rfl ?_); refine box_event ?hg (N := 9) ?hd (cs := #[.int .i64 0, .int .i64 0, .string (⟨#[]⟩ : ByteArray), .slice none 0 0, .slice none 0 0]) (t := 70) ?hr ?_; (case hd => rfl); (case hg => rfl); (case hr => first | (go_simp; done) | (go_simp; rfl)); intro g9 hg w4 hbox hb; have HBR := Aside0.mk hb; have BK9 := Aside0.mk hbox; have GE9 := Aside0.mk (by rw [hg]; exact Nat.le_refl _ : wr.heap.size ≤ g9); have hx4 := pw_cell_below hb hx; clear hx q0 q1 q2 q3 q4 hbox hb hg; have z90 := (blk_cell BK9.out 0).trans rfl; have z91 := (blk_cell BK9.out 1).trans rfl; have z92 := (blk_cell BK9.out 2).trans rfl; have z93 := (blk_cell BK9.out 3).trans rfl; have z94 := (blk_cell BK9.out 4).trans rfl; have y90 := blk_frozen BK9.out 0; have y91 := blk_frozen BK9.out 1; have y92 := blk_frozen BK9.out 2; have y93 := blk_frozen BK9.out 3; have y94 := blk_frozen BK9.out 4) | ((with_reducible refine settle5 BK9.out ?_); intro w5 hbk hg; clear z90 z91 z92 z93 z94 y90 y91 y92 y93 y94; have n0_ := Aside0.mk (below_own HBR.out hg GE9.out HBR.out.size); have n1_ := Aside0.mk hbk; have hx5 := pw_cell_below n0_.out hxk.out; clear HBR BK9 hx4 hbk hg; have HBR := n0_; have BK9 := n1_; clear n0_ n1_; have z90 := (blk_cell BK9.out 0).trans rfl; have z91 := (blk_cell BK9.out 1).trans rfl; have z92 := (blk_cell BK9.out 2).trans rfl; have z93 := (blk_cell BK9.out 3).trans rfl; have z94 := (blk_cell BK9.out 4).trans rfl))
    go_ret2
    refine ⟨none, ?_, below_then HB.out HB.out.size (below_step HBR.out (Below.refl _ _)), fun h => ?_⟩
    ·rw [factsOk_neg (j := j) (by have := HJL.out; have := HLN.out; omega) (by have h1 := HID.out; have h2 := HNG.out; rw [h1, List.getD_eq_getElem?_getD, List.getElem?_eq_getElem (by have := HJL.out; have := HLN.out; omega)] at h2; exact h2)]
     rfl
    ·rw [factsOk_neg (j := j) (by have := HJL.out; have := HLN.out; omega) (by have h1 := HID.out; have h2 := HNG.out; rw [h1, List.getD_eq_getElem?_getD, List.getElem?_eq_getElem (by have := HJL.out; have := HLN.out; omega)] at h2; exact h2)] at h
     cases h
   ·have e3 : decide (id < 0) = false := decide_eq_false hneg
    have HNG := Aside0.mk (by omega : 0 ≤ id)
    clear hneg
    have HRM := Aside0.mk (HBD.out r (by rw [HR.out, List.getD_eq_getElem?_getD, List.getElem?_eq_getElem HJL.out]; exact List.getElem_mem _))
    by_cases hp : 0 ≤ r.f0
    ·have e4 : decide (0 ≤ r.f0) = true := decide_eq_true hp
     have e5 : decide (r.f0 ≥ 0) = true := decide_eq_true hp
     have hp2 : r.f0 < (ids.length : Int) := by have := HRM.out.1; have := HLN.out; omega
     obtain ⟨ap, ep, hpx⟩ := Kd.at_int (Kd.C_below HI.out HB.out) r.f0 hp hp2
     injection ep with ep
     subst ep
     have hpk := Aside0.mk hpx
     have HFR := Aside0.mk (by unfold factRow; rw [if_neg (by omega)]; rfl : factRow ids r = ⟨rd ids r.f0, r.f2, r.f3, r.f4.map (fun k => ids.getD k.toNat 0)⟩)
     clear hpx
     go_wp2_with (first | ((with_reducible refine gate_dst (N := 9) rfl ?_); refine box_event ?hg (N := 9) ?hd (cs := #[.int .i64 0, .int .i64 0, .string (⟨#[]⟩ : ByteArray), .slice none 0 0, .slice none 0 0]) (t := 70) ?hr ?_; (case hd => rfl); (case hg => rfl); (case hr => first | (go_simp; done) | (go_simp; rfl)); intro g9 hg w4 hbox hb; have HBR := Aside0.mk hb; have BK9 := Aside0.mk hbox; have GE9 := Aside0.mk (by rw [hg]; exact Nat.le_refl _ : wr.heap.size ≤ g9); have hx4 := pw_cell_below hb hx; clear hx q0 q1 q2 q3 q4 hbox hb hg; have z90 := (blk_cell BK9.out 0).trans rfl; have z91 := (blk_cell BK9.out 1).trans rfl; have z92 := (blk_cell BK9.out 2).trans rfl; have z93 := (blk_cell BK9.out 3).trans rfl; have z94 := (blk_cell BK9.out 4).trans rfl; have y90 := blk_frozen BK9.out 0; have y91 := blk_frozen BK9.out 1; have y92 := blk_frozen BK9.out 2; have y93 := blk_frozen BK9.out 3; have y94 := blk_frozen BK9.out 4) | ((with_reducible refine settle5 BK9.out ?_); intro w5 hbk hg; clear z90 z91 z92 z93 z94 y90 y91 y92 y93 y94; have n0_ := Aside0.mk (below_own HBR.out hg GE9.out HBR.out.size); have n1_ := Aside0.mk hbk; have hx5 := pw_cell_below n0_.out hxk.out; clear HBR BK9 hx4 hbk hg; have HBR := n0_; have BK9 := n1_; clear n0_ n1_; have z90 := (blk_cell BK9.out 0).trans rfl; have z91 := (blk_cell BK9.out 1).trans rfl; have z92 := (blk_cell BK9.out 2).trans rfl; have z93 := (blk_cell BK9.out 3).trans rfl; have z94 := (blk_cell BK9.out 4).trans rfl) | ((with_reducible refine gate_dst (N := 10) rfl ?_); refine box_event ?hg (N := 10) ?hd (cs := #[.int .i64 0, .string (⟨#[]⟩ : ByteArray), .slice none 0 0, .slice none 0 0]) (t := 59) ?hr ?_; (case hd => rfl); (case hg => rfl); (case hr => first | (go_simp; done) | (go_simp; rfl)); intro g10 hg w6 hbox hb; have NE9 := Aside0.mk (by have := blk_lt BK9.out; omega : g9 ≠ g10); have GE10 := Aside0.mk (by rw [hg]; exact HBR.out.size : wr.heap.size ≤ g10); have n0_ := Aside0.mk (below_step HBR.out hb); have n1_ := Aside0.mk (blk_below BK9.out hb); have BK10 := Aside0.mk hbox; clear z90 z91 z92 z93 z94; clear HBR BK9 hx5 hbox hb hg; have HBR := n0_; have BK9 := n1_; clear n0_ n1_; have z100 := (blk_cell BK10.out 0).trans rfl; have z101 := (blk_cell BK10.out 1).trans rfl; have z102 := (blk_cell BK10.out 2).trans rfl; have z103 := (blk_cell BK10.out 3).trans rfl; have y100 := blk_frozen BK10.out 0; have y101 := blk_frozen BK10.out 1; have y102 := blk_frozen BK10.out 2; have y103 := blk_frozen BK10.out 3) | ((with_reducible refine settle4 BK10.out ?_); intro w7 hbk hg; clear z100 z101 z102 z103 y100 y101 y102 y103; have n0_ := Aside0.mk (below_own HBR.out hg GE10.out HBR.out.size); have n1_ := Aside0.mk (blk_grown BK9.out hg (fun e => NE9.out (by injection e))); have n2_ := Aside0.mk hbk; clear HBR BK9 BK10 hbk hg; have HBR := n0_; have BK9 := n1_; have BK10 := n2_; clear n0_ n1_ n2_; have z90 := (blk_cell BK9.out 0).trans rfl; have z91 := (blk_cell BK9.out 1).trans rfl; have z92 := (blk_cell BK9.out 2).trans rfl; have z93 := (blk_cell BK9.out 3).trans rfl; have z94 := (blk_cell BK9.out 4).trans rfl; have z100 := (blk_cell BK10.out 0).trans rfl; have y100 := blk_frozen BK10.out 0; have hp7 := pw_cell_below HBR.out hpk.out) | ((with_reducible refine settleF 0 #[.int .i64 (rd ids r.f0), .string r.f2, .slice Ag r.f3.length cg, .slice none 0 0] BK10.out rfl ?_); intro w8 hbk hg; clear z90 z91 z92 z93 z94; have n0_ := Aside0.mk (below_own HBR.out hg GE10.out HBR.out.size); have n1_ := Aside0.mk (blk_grown BK9.out hg (fun e => NE9.out (by injection e))); have n2_ := Aside0.mk hbk; clear HBR BK9 BK10 hbk hg z100 y100 hp7; have HBR := n0_; have BK9 := n1_; have BK10 := n2_; clear n0_ n1_ n2_; have z90 := (blk_cell BK9.out 0).trans rfl; have z91 := (blk_cell BK9.out 1).trans rfl; have z92 := (blk_cell BK9.out 2).trans rfl; have z93 := (blk_cell BK9.out 3).trans rfl; have z94 := (blk_cell BK9.out 4).trans rfl))
     obtain ⟨wo, rfl⟩ : ∃ wo : World, wo = wr := ⟨_, rfl⟩
     have HGK := Aside0.mk (by rw [HR.out, List.getD_eq_getElem?_getD, List.getElem?_eq_getElem HJL.out]; exact List.getElem_mem _ : r ∈ rows)
     have HRL4 := Aside0.mk (HL4.out r HGK.out : r.f4.length ≤ 1000000)
     clear z90 z91 z92 z93 z94
     go_loopg [50] r.f4.length (fun hk v50 w' => ∃ (i : Nat) (Av : Option Addr) (cv : Nat), v50 = .int .i64 i ∧ i + hk = r.f4.length ∧ Aside0 (w'.heap[g10]? = some (.cells #[.int .i64 (rd ids r.f0), .string r.f2, .slice Ag r.f3.length cg, .slice Av i cv] 59 (0, 0))) ∧ Aside0 ((Kd.int .i64).R 3 w' wo.heap.size (fun _ => True) (.slice Av i cv) ((r.f4.take i).map (fun k => ids.getD k.toNat 0))) ∧ Aside0 (Below wo.heap.size wo w'))
     case atStart =>
      refine ⟨0, none, 0, rfl, by omega, BK10, ⟨?_⟩, HBR⟩
      rw [List.take_zero, List.map_nil]
      exact Kd.R_nil _ _ _ _ _
     case round =>
      clear HBR BK9 BK10
      obtain ⟨i, Av, cv, rfl, hi, BK10, HKD, HBR⟩ := hrel
      obtain ⟨gi, rfl⟩ : ∃ gi, gi = gk := ⟨gk, rfl⟩
      have HI2 := Aside0.mk hi
      cases gi with
      | zero =>
       have i1 : decide ((i : Int) < (r.f4.length : Int)) = false := decide_eq_false (by omega)
       have i2 : decide (i < r.f4.length) = false := decide_eq_false (by omega)
       obtain rfl : i = r.f4.length := by omega
       have hx9 := pw_cell_below HBR.out hxk.out
       have z100 := (blk_cell BK10.out 0).trans rfl
       have z101 := (blk_cell BK10.out 1).trans rfl
       have z102 := (blk_cell BK10.out 2).trans rfl
       have z103 := (blk_cell BK10.out 3).trans rfl
       clear hi
       go_wp2
       go_still_tail 6, (by kernel_rfl)
       have HY := Aside0.mk (show FctV wr.drew (fun k => k ≠ w3.heap.size) (⟨(rd ids r.f0), r.f2, r.f3, r.f4.map (fun k => ids.getD k.toNat 0)⟩ : Fct) (.agg #[.int .i64 (rd ids r.f0), .string r.f2, .slice Ag r.f3.length cg, .slice Av r.f4.length cv]) from ⟨Ag, cg, Av, cv, by rw [List.length_map], M3.out, Kd.F_mono (Kd.F_below HG3.out (below_drew1 HBR.out)) (fun k hk => Nat.ne_of_lt hk), by rw [List.length_map]; exact (Kd.R_reads' HKD.out).2.1, by
        have h1 := HKD.out
        rw [List.take_length] at h1
        have h2 := Kd.R_F (Kd.R_mono (ok' := fun k => k ≠ w3.heap.size) (Kd.R_bound (Kd.R_drew h1)) (fun k hk => by have := hk.2.1; have := HM.out.map.lt; omega))
        rw [List.length_map]
        exact h2⟩)
       refine wpList_putT rfl _ _ _ rfl (KeyOk.int Try.underlying3) Try.underlying52 rfl (HM.out.below (below_drew1 HBR.out)).map id rfl _ (⟨(rd ids r.f0), r.f2, r.f3, r.f4.map (fun k => ids.getD k.toNat 0)⟩ : Fct) rfl HY.out ?_
       intro w5 hm5 hg5
       have HM5 := Aside0.mk (FMap.put hm5 hg5)
       have HB5 := Aside0.mk (below_own (below_then HBW.out HBW.out.size (below_drew1 HBR.out)) hg5 (Nat.le_refl _) (by have := HBW.out.size; have := HBR.out.size; exact Nat.le_trans ‹_› ‹_›))
       clear hm5 hg5 hx9 z100 z101 z102 z103
       go_wp2
       go_roundg g
       case measure => omega
       case rel =>
        refine ⟨j + 1, by have := HRN.out; have := HJL.out; exact congrArg (Value.int .i64) (show wrap64 ((j : Int) + 1) = ((j + 1 : Nat) : Int) from by unfold wrap64; omega), by have := HJ.out; omega, ⟨fun q hq => ?_⟩, ⟨?_⟩, HB5⟩
        ·by_cases e : q = j
         ·rw [e, ← HID.out]; exact HNG.out
         ·exact HNN.out q (by omega)
        ·have := HM5.out
         rw [factsTo, ← HID.out, ← HR.out, HFR.out]
         exact this
      | succ h =>
       have hil : i < r.f4.length := by omega
       have i1 : decide ((i : Int) < (r.f4.length : Int)) = true := decide_eq_true (by omega)
       have i2 : decide (i < r.f4.length) = true := decide_eq_true hil
       have i0 : (0 : Int) ≤ (i : Int) := by omega
       have i3 : (i : Int) < (r.f4.length : Int) := by omega
       obtain ⟨ak, ek, hkx⟩ := Kd.at_int (Kd.F_now (Kd.F_below HG4.out HBR.out)) (i : Int) i0 i3
       subst ek
       rw [Int.toNat_natCast] at hkx
       obtain ⟨kd, hkd⟩ : ∃ kd, kd = rd r.f4 (i : Int) := ⟨_, rfl⟩
       rw [← hkd] at hkx
       have HKV := Aside0.mk (hkd.trans (by unfold rd; rw [Int.toNat_natCast, List.getD_eq_getElem?_getD, List.getElem?_eq_getElem hil]; rfl) : kd = r.f4[i])
       have HKM := Aside0.mk (HRM.out.2 kd (by rw [HKV.out]; exact List.getElem_mem hil))
       have k0 : 0 ≤ kd := HKM.out.1
       have k1 : kd < (ids.length : Int) := by have := HKM.out.2; have := HLN.out; omega
       have HBW2 := Aside0.mk (below_step HB.out HBR.out)
       obtain ⟨a9, e9, hidx⟩ := Kd.at_int (Kd.C_below HI.out HBW2.out) kd k0 k1
       injection e9 with e9
       subst e9
       obtain ⟨iv, hiv⟩ : ∃ iv, iv = rd ids kd := ⟨_, rfl⟩
       rw [← hiv] at hidx
       have HIV := Aside0.mk (hiv.trans (by unfold rd; rfl) : iv = ids.getD kd.toNat 0)
       have HIL := Aside0.mk hil
       clear hkd hiv hi

       go_wp2
       have z103 := (blk_cell BK10.out 3).trans rfl
       have y103 := blk_frozen BK10.out 3
       have zz103 : (wr.alloc (Obj.cells #[.int .i64 iv] 3)).drew.cell? ⟨g10, 3, none⟩ = some (.slice Av i cv) := (blk_cell (blk_alloc BK10.out _) 3).trans rfl
       have hidx2 : (wr.alloc (Obj.cells #[.int .i64 iv] 3)).drew.cell? (ai.add kd.toNat) = some (.int .i64 iv) := pw_cell_below (below_alloc (Below.refl _ _) _) hidx
       have HGO := Aside0.mk (Kd.R_ne HKD.out BK10.out (by decide) : some g10 ≠ (Value.slice Av i cv).ownBlock)
       have HWO := Aside0.mk (HBR.out.size)
       have HLN9 := Aside0.mk (by rw [List.length_append, List.length_map, List.length_take, Nat.min_eq_left (Nat.le_of_lt hil)]; rfl : (((r.f4.take i).map (fun k => ids.getD k.toNat 0)) ++ [iv]).length = i + 1)
       clear hkx
       first | go_region_law (go_loud (refine Kd.R_append_step (Kd.int .i64) (w0 := wo) (W := wr.drew) wo.heap.size rfl (.tmp 55) (.tmp 60) 26 3 (.int .i64 0) 8 rfl Try.underlying26 (by kernel_rfl) rfl (by decide) (by omega) (.slice Av i cv) ((r.f4.take i).map (fun k => ids.getD k.toNat 0)) iv [.int .i64 iv] (fun _ => True) (fun _ => False) rfl rfl rfl (fun _ h => h.elim) (fun _ _ => trivial) (Kd.R_drew HKD.out) (below_drew1 HBR.out) HWO.out (by rw [List.length_map, List.length_take]; have := HRL4.out; omega) ?_; intro v9 w9 ho9 hb9 hg9 hat9; obtain ⟨A9, c9, e9⟩ := Kd.R_slice ho9; rw [HLN9.out] at e9; subst e9; have HO9 := Aside0.mk ho9; have HB9 := Aside0.mk hb9; have BK9' := Aside0.mk (blk_grown (w := wr.drew) BK10.out hg9 HGO.out); have zz9 := (blk_cell BK9'.out 3).trans rfl; have yy9 := blk_frozen BK9'.out 3; clear ho9 hb9 hg9 hat9)) | fail
       all_goals
        go_wp2
        go_roundg h
        case measure => omega
        case rel =>
         refine ⟨i + 1, A9, c9, by have := HRL4.out; have := HIL.out; exact congrArg (Value.int .i64) (show wrap64 ((i : Int) + 1) = ((i + 1 : Nat) : Int) from by unfold wrap64; omega), by have := HI2.out; omega, ⟨blk_put BK9'.out 3 _ rfl⟩, ⟨?_⟩, ⟨below_set HB9.out GE10.out⟩⟩
         have h1 := Kd.R_far (p := ⟨g10, 3, none⟩) (Kd.R_types HO9.out BK9'.out (by decide)) (fun k hk => hk.2) (.slice A9 (i + 1) c9)
         have e : (r.f4.take (i + 1)).map (fun k => ids.getD k.toNat 0) = ((r.f4.take i).map (fun k => ids.getD k.toNat 0)) ++ [iv] := by
          rw [List.take_add_one, List.getElem?_eq_getElem HIL.out, List.map_append, HIV.out, HKV.out]
          rfl
         rw [e]
         exact Kd.R_mono h1 (fun _ _ => trivial)
    ·have e4 : decide (0 ≤ r.f0) = false := decide_eq_false hp
     have e5 : decide (r.f0 ≥ 0) = false := decide_eq_false hp
     have HFR := Aside0.mk (by unfold factRow; rw [if_pos (by omega)] : factRow ids r = ⟨-1, r.f2, r.f3, r.f4.map (fun k => ids.getD k.toNat 0)⟩)
     clear hp
     go_wp2_with (first | ((with_reducible refine gate_dst (N := 9) rfl ?_); refine box_event ?hg (N := 9) ?hd (cs := #[.int .i64 0, .int .i64 0, .string (⟨#[]⟩ : ByteArray), .slice none 0 0, .slice none 0 0]) (t := 70) ?hr ?_; (case hd => rfl); (case hg => rfl); (case hr => first | (go_simp; done) | (go_simp; rfl)); intro g9 hg w4 hbox hb; have HBR := Aside0.mk hb; have BK9 := Aside0.mk hbox; have GE9 := Aside0.mk (by rw [hg]; exact Nat.le_refl _ : wr.heap.size ≤ g9); have hx4 := pw_cell_below hb hx; clear hx q0 q1 q2 q3 q4 hbox hb hg; have z90 := (blk_cell BK9.out 0).trans rfl; have z91 := (blk_cell BK9.out 1).trans rfl; have z92 := (blk_cell BK9.out 2).trans rfl; have z93 := (blk_cell BK9.out 3).trans rfl; have z94 := (blk_cell BK9.out 4).trans rfl; have y90 := blk_frozen BK9.out 0; have y91 := blk_frozen BK9.out 1; have y92 := blk_frozen BK9.out 2; have y93 := blk_frozen BK9.out 3; have y94 := blk_frozen BK9.out 4) | ((with_reducible refine settle5 BK9.out ?_); intro w5 hbk hg; clear z90 z91 z92 z93 z94 y90 y91 y92 y93 y94; have n0_ := Aside0.mk (below_own HBR.out hg GE9.out HBR.out.size); have n1_ := Aside0.mk hbk; have hx5 := pw_cell_below n0_.out hxk.out; clear HBR BK9 hx4 hbk hg; have HBR := n0_; have BK9 := n1_; clear n0_ n1_; have z90 := (blk_cell BK9.out 0).trans rfl; have z91 := (blk_cell BK9.out 1).trans rfl; have z92 := (blk_cell BK9.out 2).trans rfl; have z93 := (blk_cell BK9.out 3).trans rfl; have z94 := (blk_cell BK9.out 4).trans rfl) | ((with_reducible refine gate_dst (N := 10) rfl ?_); refine box_event ?hg (N := 10) ?hd (cs := #[.int .i64 0, .string (⟨#[]⟩ : ByteArray), .slice none 0 0, .slice none 0 0]) (t := 59) ?hr ?_; (case hd => rfl); (case hg => rfl); (case hr => first | (go_simp; done) | (go_simp; rfl)); intro g10 hg w6 hbox hb; have NE9 := Aside0.mk (by have := blk_lt BK9.out; omega : g9 ≠ g10); have GE10 := Aside0.mk (by rw [hg]; exact HBR.out.size : wr.heap.size ≤ g10); have n0_ := Aside0.mk (below_step HBR.out hb); have n1_ := Aside0.mk (blk_below BK9.out hb); have BK10 := Aside0.mk hbox; clear z90 z91 z92 z93 z94; clear HBR BK9 hx5 hbox hb hg; have HBR := n0_; have BK9 := n1_; clear n0_ n1_; have z100 := (blk_cell BK10.out 0).trans rfl; have z101 := (blk_cell BK10.out 1).trans rfl; have z102 := (blk_cell BK10.out 2).trans rfl; have z103 := (blk_cell BK10.out 3).trans rfl; have y100 := blk_frozen BK10.out 0; have y101 := blk_frozen BK10.out 1; have y102 := blk_frozen BK10.out 2; have y103 := blk_frozen BK10.out 3) | ((with_reducible refine settle4 BK10.out ?_); intro w7 hbk hg; clear z100 z101 z102 z103 y100 y101 y102 y103; have n0_ := Aside0.mk (below_own HBR.out hg GE10.out HBR.out.size); have n1_ := Aside0.mk (blk_grown BK9.out hg (fun e => NE9.out (by injection e))); have n2_ := Aside0.mk hbk; clear HBR BK9 BK10 hbk hg; have HBR := n0_; have BK9 := n1_; have BK10 := n2_; clear n0_ n1_ n2_; have z90 := (blk_cell BK9.out 0).trans rfl; have z91 := (blk_cell BK9.out 1).trans rfl; have z92 := (blk_cell BK9.out 2).trans rfl; have z93 := (blk_cell BK9.out 3).trans rfl; have z94 := (blk_cell BK9.out 4).trans rfl; have z100 := (blk_cell BK10.out 0).trans rfl; have y100 := blk_frozen BK10.out 0))
     obtain ⟨wo, rfl⟩ : ∃ wo : World, wo = wr := ⟨_, rfl⟩
     have HGK := Aside0.mk (by rw [HR.out, List.getD_eq_getElem?_getD, List.getElem?_eq_getElem HJL.out]; exact List.getElem_mem _ : r ∈ rows)
     have HRL4 := Aside0.mk (HL4.out r HGK.out : r.f4.length ≤ 1000000)
     clear z90 z91 z92 z93 z94
     go_loopg [50] r.f4.length (fun hk v50 w' => ∃ (i : Nat) (Av : Option Addr) (cv : Nat), v50 = .int .i64 i ∧ i + hk = r.f4.length ∧ Aside0 (w'.heap[g10]? = some (.cells #[.int .i64 (-1), .string r.f2, .slice Ag r.f3.length cg, .slice Av i cv] 59 (0, 0))) ∧ Aside0 ((Kd.int .i64).R 3 w' wo.heap.size (fun _ => True) (.slice Av i cv) ((r.f4.take i).map (fun k => ids.getD k.toNat 0))) ∧ Aside0 (Below wo.heap.size wo w'))
     case atStart =>
      refine ⟨0, none, 0, rfl, by omega, BK10, ⟨?_⟩, HBR⟩
      rw [List.take_zero, List.map_nil]
      exact Kd.R_nil _ _ _ _ _
     case round =>
      clear HBR BK9 BK10
      obtain ⟨i, Av, cv, rfl, hi, BK10, HKD, HBR⟩ := hrel
      obtain ⟨gi, rfl⟩ : ∃ gi, gi = gk := ⟨gk, rfl⟩
      have HI2 := Aside0.mk hi
      cases gi with
      | zero =>
       have i1 : decide ((i : Int) < (r.f4.length : Int)) = false := decide_eq_false (by omega)
       have i2 : decide (i < r.f4.length) = false := decide_eq_false (by omega)
       obtain rfl : i = r.f4.length := by omega
       have hx9 := pw_cell_below HBR.out hxk.out
       have z100 := (blk_cell BK10.out 0).trans rfl
       have z101 := (blk_cell BK10.out 1).trans rfl
       have z102 := (blk_cell BK10.out 2).trans rfl
       have z103 := (blk_cell BK10.out 3).trans rfl
       clear hi
       go_wp2
       go_still_tail 6, (by kernel_rfl)
       have HY := Aside0.mk (show FctV wr.drew (fun k => k ≠ w3.heap.size) (⟨(-1), r.f2, r.f3, r.f4.map (fun k => ids.getD k.toNat 0)⟩ : Fct) (.agg #[.int .i64 (-1), .string r.f2, .slice Ag r.f3.length cg, .slice Av r.f4.length cv]) from ⟨Ag, cg, Av, cv, by rw [List.length_map], M3.out, Kd.F_mono (Kd.F_below HG3.out (below_drew1 HBR.out)) (fun k hk => Nat.ne_of_lt hk), by rw [List.length_map]; exact (Kd.R_reads' HKD.out).2.1, by
        have h1 := HKD.out
        rw [List.take_length] at h1
        have h2 := Kd.R_F (Kd.R_mono (ok' := fun k => k ≠ w3.heap.size) (Kd.R_bound (Kd.R_drew h1)) (fun k hk => by have := hk.2.1; have := HM.out.map.lt; omega))
        rw [List.length_map]
        exact h2⟩)
       refine wpList_putT rfl _ _ _ rfl (KeyOk.int Try.underlying3) Try.underlying52 rfl (HM.out.below (below_drew1 HBR.out)).map id rfl _ (⟨(-1), r.f2, r.f3, r.f4.map (fun k => ids.getD k.toNat 0)⟩ : Fct) rfl HY.out ?_
       intro w5 hm5 hg5
       have HM5 := Aside0.mk (FMap.put hm5 hg5)
       have HB5 := Aside0.mk (below_own (below_then HBW.out HBW.out.size (below_drew1 HBR.out)) hg5 (Nat.le_refl _) (by have := HBW.out.size; have := HBR.out.size; exact Nat.le_trans ‹_› ‹_›))
       clear hm5 hg5 hx9 z100 z101 z102 z103
       go_wp2
       go_roundg g
       case measure => omega
       case rel =>
        refine ⟨j + 1, by have := HRN.out; have := HJL.out; exact congrArg (Value.int .i64) (show wrap64 ((j : Int) + 1) = ((j + 1 : Nat) : Int) from by unfold wrap64; omega), by have := HJ.out; omega, ⟨fun q hq => ?_⟩, ⟨?_⟩, HB5⟩
        ·by_cases e : q = j
         ·rw [e, ← HID.out]; exact HNG.out
         ·exact HNN.out q (by omega)
        ·have := HM5.out
         rw [factsTo, ← HID.out, ← HR.out, HFR.out]
         exact this
      | succ h =>
       have hil : i < r.f4.length := by omega
       have i1 : decide ((i : Int) < (r.f4.length : Int)) = true := decide_eq_true (by omega)
       have i2 : decide (i < r.f4.length) = true := decide_eq_true hil
       have i0 : (0 : Int) ≤ (i : Int) := by omega
       have i3 : (i : Int) < (r.f4.length : Int) := by omega
       obtain ⟨ak, ek, hkx⟩ := Kd.at_int (Kd.F_now (Kd.F_below HG4.out HBR.out)) (i : Int) i0 i3
       subst ek
       rw [Int.toNat_natCast] at hkx
       obtain ⟨kd, hkd⟩ : ∃ kd, kd = rd r.f4 (i : Int) := ⟨_, rfl⟩
       rw [← hkd] at hkx
       have HKV := Aside0.mk (hkd.trans (by unfold rd; rw [Int.toNat_natCast, List.getD_eq_getElem?_getD, List.getElem?_eq_getElem hil]; rfl) : kd = r.f4[i])
       have HKM := Aside0.mk (HRM.out.2 kd (by rw [HKV.out]; exact List.getElem_mem hil))
       have k0 : 0 ≤ kd := HKM.out.1
       have k1 : kd < (ids.length : Int) := by have := HKM.out.2; have := HLN.out; omega
       have HBW2 := Aside0.mk (below_step HB.out HBR.out)
       obtain ⟨a9, e9, hidx⟩ := Kd.at_int (Kd.C_below HI.out HBW2.out) kd k0 k1
       injection e9 with e9
       subst e9
       obtain ⟨iv, hiv⟩ : ∃ iv, iv = rd ids kd := ⟨_, rfl⟩
       rw [← hiv] at hidx
       have HIV := Aside0.mk (hiv.trans (by unfold rd; rfl) : iv = ids.getD kd.toNat 0)
       have HIL := Aside0.mk hil
       clear hkd hiv hi

       go_wp2
       have z103 := (blk_cell BK10.out 3).trans rfl
       have y103 := blk_frozen BK10.out 3
       have zz103 : (wr.alloc (Obj.cells #[.int .i64 iv] 3)).drew.cell? ⟨g10, 3, none⟩ = some (.slice Av i cv) := (blk_cell (blk_alloc BK10.out _) 3).trans rfl
       have hidx2 : (wr.alloc (Obj.cells #[.int .i64 iv] 3)).drew.cell? (ai.add kd.toNat) = some (.int .i64 iv) := pw_cell_below (below_alloc (Below.refl _ _) _) hidx
       have HGO := Aside0.mk (Kd.R_ne HKD.out BK10.out (by decide) : some g10 ≠ (Value.slice Av i cv).ownBlock)
       have HWO := Aside0.mk (HBR.out.size)
       have HLN9 := Aside0.mk (by rw [List.length_append, List.length_map, List.length_take, Nat.min_eq_left (Nat.le_of_lt hil)]; rfl : (((r.f4.take i).map (fun k => ids.getD k.toNat 0)) ++ [iv]).length = i + 1)
       clear hkx
       first | go_region_law (go_loud (refine Kd.R_append_step (Kd.int .i64) (w0 := wo) (W := wr.drew) wo.heap.size rfl (.tmp 55) (.tmp 60) 26 3 (.int .i64 0) 8 rfl Try.underlying26 (by kernel_rfl) rfl (by decide) (by omega) (.slice Av i cv) ((r.f4.take i).map (fun k => ids.getD k.toNat 0)) iv [.int .i64 iv] (fun _ => True) (fun _ => False) rfl rfl rfl (fun _ h => h.elim) (fun _ _ => trivial) (Kd.R_drew HKD.out) (below_drew1 HBR.out) HWO.out (by rw [List.length_map, List.length_take]; have := HRL4.out; omega) ?_; intro v9 w9 ho9 hb9 hg9 hat9; obtain ⟨A9, c9, e9⟩ := Kd.R_slice ho9; rw [HLN9.out] at e9; subst e9; have HO9 := Aside0.mk ho9; have HB9 := Aside0.mk hb9; have BK9' := Aside0.mk (blk_grown (w := wr.drew) BK10.out hg9 HGO.out); have zz9 := (blk_cell BK9'.out 3).trans rfl; have yy9 := blk_frozen BK9'.out 3; clear ho9 hb9 hg9 hat9)) | fail
       all_goals
        go_wp2
        go_roundg h
        case measure => omega
        case rel =>
         refine ⟨i + 1, A9, c9, by have := HRL4.out; have := HIL.out; exact congrArg (Value.int .i64) (show wrap64 ((i : Int) + 1) = ((i + 1 : Nat) : Int) from by unfold wrap64; omega), by have := HI2.out; omega, ⟨blk_put BK9'.out 3 _ rfl⟩, ⟨?_⟩, ⟨below_set HB9.out GE10.out⟩⟩
         have h1 := Kd.R_far (p := ⟨g10, 3, none⟩) (Kd.R_types HO9.out BK9'.out (by decide)) (fun k hk => hk.2) (.slice A9 (i + 1) c9)
         have e : (r.f4.take (i + 1)).map (fun k => ids.getD k.toNat 0) = ((r.f4.take i).map (fun k => ids.getD k.toNat 0)) ++ [iv] := by
          rw [List.take_add_one, List.getElem?_eq_getElem HIL.out, List.map_append, HIV.out, HKV.out]
          rfl
         rw [e]
         exact Kd.R_mono h1 (fun _ _ => trivial)
/-- The changes of a node with an identifier. -/
def chg (x y : List (Int × Fct)) (id : Int) : List S48 :=
 match glook x id, glook y id with
 | none, none => [⟨id, 1⟩, ⟨id, 2⟩]
 | none, some _ => [⟨id, 1⟩]
 | some _, none => [⟨id, 2⟩]
 | some a, some b => (if a.par = b.par then [] else [⟨id, 3⟩]) ++ ((if a.txt = b.txt then [] else [⟨id, 4⟩]) ++ ((if a.gaps = b.gaps then [] else [⟨id, 5⟩]) ++ (if a.kids = b.kids then [] else [⟨id, 6⟩])))
def listF (x y : List (Int × Fct)) (l : List Int) : List S48 := l.flatMap (chg x y)
theorem chg_len (x y : List (Int × Fct)) (id : Int) : (chg x y id).length ≤ 4 := by
 unfold chg
 split
 ·simp
 ·simp
 ·simp
 ·simp only [List.length_append]
  have h : ∀ (p : Prop) [Decidable p] (z : S48), (if p then [] else [z] : List S48).length ≤ 1 := by
   intro p _ z
   split <;> simp
  have h1 := fun p [Decidable p] z => h p z
  rename_i a b _ _
  have a1 := h (a.par = b.par) ⟨id, 3⟩
  have a2 := h (a.txt = b.txt) ⟨id, 4⟩
  have a3 := h (a.gaps = b.gaps) ⟨id, 5⟩
  have a4 := h (a.kids = b.kids) ⟨id, 6⟩
  omega
theorem listF_len (x y : List (Int × Fct)) (l : List Int) : (listF x y l).length ≤ 4 * l.length := by
 induction l with
 | nil => simp [listF]
 | cons a l ih =>
  have := chg_len x y a
  simp only [listF, List.flatMap_cons, List.length_append, List.length_cons] at ih ⊢
  omega
theorem gput_mem {κ β : Type} [DecidableEq κ] (k : κ) (v : β) : ∀ (l : List (κ × β)) (p : κ × β), p ∈ gput l k v → p = (k, v) ∨ p ∈ l
 | [], p, h => .inl (by simpa [gput] using h)
 | q :: l, p, h => by
  rw [gput] at h
  split at h
  ·rcases List.mem_cons.1 h with h | h
   ·exact .inl h
   ·exact .inr (List.mem_cons_of_mem _ h)
  ·rcases List.mem_cons.1 h with h | h
   ·exact .inr (by rw [h]; simp)
   ·rcases gput_mem k v l p h with h | h
    ·exact .inl h
    ·exact .inr (List.mem_cons_of_mem _ h)
theorem glook_mem {κ β : Type} [DecidableEq κ] {k : κ} {v : β} : ∀ {l : List (κ × β)}, glook l k = some v → (k, v) ∈ l
 | [], h => by simp [glook] at h
 | q :: l, h => by
  rw [glook] at h
  split at h
  ·rename_i e
   obtain rfl := Option.some.inj h
   rw [e]; simp
  ·exact List.mem_cons_of_mem _ (glook_mem h)
theorem factsTo_mem (rows : List S70) (ids : List Int) : ∀ (n : Nat) (p : Int × Fct), p ∈ factsTo rows ids n → ∃ i, i < n ∧ p = (ids.getD i 0, factRow ids (rows.getD i z70))
 | 0, p, h => by simp [factsTo] at h
 | n + 1, p, h => by
  rw [factsTo] at h
  rcases gput_mem _ _ _ p h with h | h
  ·exact ⟨n, by omega, h⟩
  ·obtain ⟨i, h1, h2⟩ := factsTo_mem rows ids n p h
   exact ⟨i, by omega, h2⟩
def FctOk (f : Fct) : Prop := f.gaps.length ≤ 1000000 ∧ f.kids.length ≤ 1000000
theorem rowsT_gaps (x : S25) : ∀ (p : Int) (n : Nat) (r : S70), r ∈ rowsT x p n → ∃ y ∈ preT x, r.f3 = y.f2 := by
 induction x using tree_ind with
 | h x ih =>
 intro p n r hr
 have key : ∀ (l : List S25), (∀ y ∈ l, y ∈ x.f3) → ∀ n m, r ∈ rowsL l n m → ∃ y ∈ preL l, r.f3 = y.f2 := by
  intro l
  induction l with
  | nil => intro _ n m h; simp [rowsL] at h
  | cons y l ihl =>
   intro hl n m h
   rw [rowsL, List.mem_append] at h
   rw [preL]
   rcases h with h | h
   ·obtain ⟨z, h1, h2⟩ := ih y (hl y (by simp)) (n : Int) m r h
    exact ⟨z, List.mem_append_left _ h1, h2⟩
   ·obtain ⟨z, h1, h2⟩ := ihl (fun z hz => hl z (by simp [hz])) n (m + (preT y).length) h
    exact ⟨z, List.mem_append_right _ h1, h2⟩
 rw [rowsT_eq, List.mem_cons] at hr
 rw [preT_eq]
 rcases hr with rfl | hr
 ·exact ⟨x, by simp, rfl⟩
 ·obtain ⟨z, h1, h2⟩ := key x.f3 (fun _ h => h) n (n + 1) hr
  exact ⟨z, List.mem_cons_of_mem _ h1, h2⟩
theorem rows_gaps (x : S25) (hok : treeOk x = true) (r : S70) (hr : r ∈ rowsT x (-1) 0) : r.f3.length ≤ 1000000 := by
 obtain ⟨y, h1, h2⟩ := rowsT_gaps x (-1) 0 r hr
 unfold treeOk at hok
 simp only [Bool.and_eq_true, decide_eq_true_eq, List.all_eq_true] at hok
 rw [h2]
 exact hok.2 y h1
theorem facts_fine (x : S25) (hok : treeOk x = true) (ids : List Int) (id : Int) (f : Fct) (h : glook (factsTo (rowsT x (-1) 0) ids ids.length) id = some f) : FctOk f := by
 obtain ⟨i, _, h2⟩ := factsTo_mem _ _ _ _ (glook_mem h)
 obtain rfl := (Prod.mk.inj h2).2
 unfold FctOk factRow
 by_cases hi : i < (rowsT x (-1) 0).length
 ·have hm : (rowsT x (-1) 0).getD i z70 ∈ rowsT x (-1) 0 := by
   rw [List.getD_eq_getElem?_getD, List.getElem?_eq_getElem hi]
   exact List.getElem_mem _
  refine ⟨rows_gaps x hok _ hm, ?_⟩
  simp only [List.length_map]
  exact rows_kids x hok _ hm
 ·rw [List.getD_eq_getElem?_getD, List.getElem?_eq_none (by omega)]
  exact ⟨by simp [z70], by simp [z70]⟩
set_option maxHeartbeats 4000000 in
set_option maxRecDepth 100000 in
/-- slices.Grow of nil: room for n elements. -/
theorem grow_calls (n : Nat) (w : World) (hn : n ≤ 1000000) :
  Calls Try.prog 50 #[.slice none 0 0, .int .i64 (n : Int)] w fun e w' => ∃ A c, e = .returned (.slice A 0 c) ∧ Kd.R (Kd.int .i64) 3 w' w.heap.size (fun _ => True) (.slice A 0 c) [] ∧ Below w.heap.size w w' := by
 have h0 : decide ((n : Int) < 0) = false := decide_eq_false (by omega)
 have HB := Aside0.mk (Below.refl w.heap.size w)
 have HN := Aside0.mk hn
 by_cases c : n = 0
 ·subst c
  go_enter Try.func50, Try.ntmps50
  go_wp2
  go_ret
  exact ⟨none, 0, rfl, Kd.R_nil _ _ _ _ _, Below.refl _ _⟩
 ·have h1 : decide ((0 : Int) < (n : Int)) = true := decide_eq_true (by omega)
  have h2 : decide ((n : Int) > 0) = true := decide_eq_true (by omega)
  have h3 : decide (0 < n) = true := decide_eq_true (by omega)
  have h4 : (0 : Int) ≤ (n : Int) := by omega
  have h5 : (n : Int) ≤ 1000000 := by omega
  clear c
  go_enter Try.func50, Try.ntmps50
  go_wp2_with (first | ((with_reducible refine gate_builtin (b := .append) (xs := #[.tmp 20, .tmp 21]) rfl ?_); at_builtin; go_loud (refine Kd.R_append_zeros (Kd.int .i64) (w0 := w) w.heap.size rfl (.tmp 20) (.tmp 21) 26 3 3 (.int .i64 0) 8 rfl Try.underlying26 Try.underlying3 (by kernel_rfl) rfl (by decide) (by omega) (.slice none 0 0) [] (0 : Int) (n : Int) (fun _ => True) rfl rfl rfl (fun _ _ => trivial) (Kd.R_nil _ _ _ _ _) h4 HB.out (Nat.le_refl _) (by have := HN.out; simp only [List.length_nil, Int.toNat_natCast]; omega) ?_; intro v1 w1 ho1 hb1 hg1 hat1; obtain ⟨A1, c1, rfl⟩ := Kd.R_slice ho1; have HO1 := Aside0.mk ho1; have HB1 := Aside0.mk hb1; have hc1 := (Kd.R_reads' ho1).2.1; simp only [List.nil_append, List.length_replicate, Int.toNat_natCast] at hc1 ⊢; clear ho1 hb1 hg1 hat1)))
  all_goals (go_ret; exact ⟨A1, c1, rfl, by have := Kd.R_take HO1.out (m := 0) (by omega); rw [List.take_zero] at this; exact this, HB1.out⟩)
theorem flat_take (xss : List (List Int)) (j : Nat) (h : j < xss.length) : (xss.take (j + 1)).flatten = (xss.take j).flatten ++ xss[j] := by
 rw [List.take_add_one, List.getElem?_eq_getElem h, List.flatten_append]
 simp
theorem flat_le (xss : List (List Int)) (j : Nat) : (xss.take j).flatten.length ≤ xss.flatten.length := by
 have := congrArg (fun z => z.flatten.length) (List.take_append_drop j xss)
 simp only [List.flatten_append, List.length_append] at this
 omega
set_option maxHeartbeats 4000000 in
set_option maxRecDepth 100000 in
/-- slices.Concat at []int. -/
theorem concat_calls (xss : List (List Int)) (A : Option Addr) (c : Nat) (w : World) (h : Kd.C (Kd.slice 3 (Kd.int .i64)) w A xss.length xss) (hc : xss.length ≤ c) (hs : xss.flatten.length ≤ 1000000) :
  Calls Try.prog 24 #[.slice A xss.length c] w fun e w' => ∃ v, e = .returned v ∧ Kd.R (Kd.int .i64) 3 w' w.heap.size (fun _ => True) v xss.flatten ∧ Below w.heap.size w w' := by
 have H := Aside0.mk h
 have HC := Aside0.mk hc
 have HS := Aside0.mk hs
 have HLX := Aside0.mk (by have := (Kd.C_max h); exact this : xss.length ≤ 9223372036854775807)
 have HB := Aside0.mk (Below.refl w.heap.size w)
 clear h hc hs
 go_enter Try.func24, Try.ntmps24
 go_wp2
 go_loopg [3, 11] xss.length (fun gk v3 v11 w' => ∃ (j s : Nat), v11 = .int .i64 j ∧ v3 = .int .i64 s ∧ j + gk = xss.length ∧ Aside0 (s = (xss.take j).flatten.length) ∧ w' = w)
 case atStart => exact ⟨0, 0, rfl, rfl, by omega, ⟨by simp⟩, rfl⟩
 case round =>
  obtain ⟨j, s, rfl, rfl, hj, HE, rfl⟩ := hrel
  obtain ⟨go, rfl⟩ : ∃ go, go = gk := ⟨gk, rfl⟩
  have HJ := Aside0.mk hj
  cases go with
  | succ g =>
   have hjl : j < xss.length := by omega
   have HJL := Aside0.mk hjl
   have g1 : decide ((j : Int) < (xss.length : Int)) = true := decide_eq_true (by omega)
   have g2 : decide (j < xss.length) = true := decide_eq_true hjl
   have p0 : (0 : Int) ≤ (j : Int) := by omega
   have p1 : (j : Int) < (xss.length : Int) := by omega
   obtain ⟨ad, A0, c0, eA, hx, m0, G0⟩ := at_LI H.out (j : Int) p0 p1
   obtain ⟨y, hy⟩ : ∃ y, y = rd_LI xss (j : Int) := ⟨_, rfl⟩
   rw [Int.toNat_natCast] at hx
   rw [← hy] at hx m0 G0
   have HY := Aside0.mk (hy.trans (by unfold rd_LI; rw [Int.toNat_natCast, List.getD_eq_getElem?_getD, List.getElem?_eq_getElem HJL.out]; rfl) : y = xss[j]'HJL.out)
   subst eA
   have HF := Aside0.mk (by rw [flat_take xss j HJL.out, List.length_append, HE.out, HY.out] : (xss.take (j + 1)).flatten.length = s + y.length)
   have hsy : s + y.length ≤ 1000000 := by have := HF.out; have := flat_le xss (j + 1); have := HS.out; omega
   have s1 : (s : Int) + (y.length : Int) ≤ 1000000 := by omega
   have s0 : (0 : Int) ≤ (s : Int) + (y.length : Int) := by omega
   have s2 : decide ((s : Int) + (y.length : Int) < 0) = false := decide_eq_false (by omega)
   have HSY := Aside0.mk hsy
   clear hy m0 G0 hj hjl hsy
   go_wp2
   all_goals
    go_roundg g
    case measure => omega
    case rel => exact ⟨j + 1, s + y.length, by have := HLX.out; have := HJL.out; exact congrArg (Value.int .i64) (show wrap64 ((j : Int) + 1) = ((j + 1 : Nat) : Int) from by unfold wrap64; omega), by first | rfl | (rw [Int.natCast_add]), by have := HJ.out; omega, ⟨HF.out.symm⟩, rfl⟩
  | zero =>
   have g1 : decide ((j : Int) < (xss.length : Int)) = false := decide_eq_false (by omega)
   have g2 : decide (j < xss.length) = false := decide_eq_false (by omega)
   obtain rfl : j = xss.length := by omega
   have HSL := Aside0.mk (by rw [HE.out, List.take_length]; exact HS.out : s ≤ 1000000)
   clear hj
   go_wp2_with (go_at_call 50; go_loud ((with_reducible refine (grow_calls s _ HSL.out).mono ?_); rintro e w1 ⟨A1, c1, rfl, ho, hb⟩; have HO := Aside0.mk ho; have HB1 := Aside0.mk hb; clear ho hb))
   have HL0 := Aside0.mk (by omega : xss.length - 0 = xss.length)
   obtain ⟨wo, rfl⟩ : ∃ wo : World, wo = wr := ⟨_, rfl⟩
   go_loopg [6, 27] xss.length (fun gk v6 v27 w' => ∃ (j : Nat) (Av : Option Addr) (cv : Nat), v27 = .int .i64 j ∧ v6 = .slice Av (xss.take j).flatten.length cv ∧ j + gk = xss.length ∧ Aside0 (Kd.R (Kd.int .i64) 3 w' wo.heap.size (fun _ => True) (.slice Av (xss.take j).flatten.length cv) (xss.take j).flatten) ∧ Aside0 (Below wo.heap.size wo w'))
   case atStart => exact ⟨0, A1, c1, rfl, by simp, by omega, ⟨by simpa using HO.out⟩, HB1⟩
   case round =>
    clear HO HB1
    obtain ⟨j, Av, cv, rfl, rfl, hj, HO, HB1⟩ := hrel
    obtain ⟨go, rfl⟩ : ∃ go, go = gk := ⟨gk, rfl⟩
    have HJ := Aside0.mk hj
    cases go with
    | succ g =>
     have hjl : j < xss.length := by omega
     have HJL := Aside0.mk hjl
     have g1 : decide ((j : Int) < (xss.length : Int)) = true := decide_eq_true (by omega)
     have g2 : decide (j < xss.length) = true := decide_eq_true hjl
     have p0 : (0 : Int) ≤ (j : Int) := by omega
     have p1 : (j : Int) < (xss.length : Int) := by omega
     obtain ⟨ad, A0, c0, eA, hx, m0, G0⟩ := at_LI (Kd.C_below H.out HB1.out) (j : Int) p0 p1
     obtain ⟨y, hy⟩ : ∃ y, y = rd_LI xss (j : Int) := ⟨_, rfl⟩
     rw [Int.toNat_natCast] at hx
     rw [← hy] at hx m0 G0
     have HY := Aside0.mk (hy.trans (by unfold rd_LI; rw [Int.toNat_natCast, List.getD_eq_getElem?_getD, List.getElem?_eq_getElem HJL.out]; rfl) : y = xss[j]'HJL.out)
     subst eA
     have HF := Aside0.mk (by rw [flat_take xss j HJL.out, HY.out] : (xss.take (j + 1)).flatten = (xss.take j).flatten ++ y)
     have HSY := Aside0.mk (by have := congrArg List.length HF.out; rw [List.length_append] at this; have := flat_le xss (j + 1); have := HS.out; omega : (xss.take j).flatten.length + y.length ≤ 1000000)
     have HG0 := Aside0.mk G0
     obtain ⟨F, hF⟩ : ∃ F, F = (xss.take j).flatten := ⟨_, rfl⟩
     rw [← hF] at HO HSY HF
     rw [← hF]
     clear hy m0 G0 hj hjl hF
     go_wp2_with (first | ((with_reducible refine gate_builtin (b := .append) (xs := #[.tmp 31, .tmp 32]) rfl ?_); at_builtin; go_loud (refine Kd.R_append_row (Value.int .i64) 0 (h1 := fun _ => rfl) (w0 := wo) wo.heap.size rfl (.tmp 31) (.tmp 32) 26 3 (.int .i64 0) 8 rfl Try.underlying26 (by kernel_rfl) rfl (by omega) (.slice Av F.length cv) F y A0 y.length c0 (fun _ => True) rfl rfl (fun _ _ => trivial) HO.out HG0.out HB1.out HB1.out.size (by have := HSY.out; omega) ?_; intro v9 w9 ho9 hb9 hg9 hat9; obtain ⟨A9, c9, rfl⟩ := Kd.R_slice ho9; have HO9 := Aside0.mk ho9; have HB9 := Aside0.mk hb9; clear ho9 hb9 hg9 hat9)))
     go_roundg g
     case measure => omega
     case rel => exact ⟨j + 1, A9, c9, by have := HLX.out; have := HJL.out; exact congrArg (Value.int .i64) (show wrap64 ((j : Int) + 1) = ((j + 1 : Nat) : Int) from by unfold wrap64; omega), by rw [HF.out, List.length_append], by have := HJ.out; omega, ⟨by rw [HF.out]; exact HO9.out⟩, HB9⟩
    | zero =>
     have g1 : decide ((j : Int) < (xss.length : Int)) = false := decide_eq_false (by omega)
     have g2 : decide (j < xss.length) = false := decide_eq_false (by omega)
     obtain rfl : j = xss.length := by omega
     have HO2 := HO.out
     rw [List.take_length] at HO2
     have HO3 := Aside0.mk HO2
     clear hj HO2
     go_wp2
     go_ret
     exact ⟨_, rfl, by rw [List.take_length]; exact HO3.out, HB1.out⟩
/-! The library's sort and its kin, over a row of the call's own. -/
theorem holds_of_own {α : Type} [Inhabited α] {enc : α → Value} {w : World} {g : Nat} {cur : Array Value} {e : TypeId} {ss : List α} (hb : w.heap[g]? = some (.cells cur e (0, 0))) (ht : cur.toList.take ss.length = ss.map enc) : Sort.Holds enc w g 0 ss.toArray := by
 intro j hj
 have hj' : j < ss.length := by simpa using hj
 refine ⟨?_, by simp [World.frozen?, hb]⟩
 have h1 : (cur.toList.take ss.length)[j]? = (ss.map enc)[j]? := by rw [ht]
 rw [List.getElem?_take_of_lt hj'] at h1
 simp only [World.cell?, hb, Nat.zero_add]
 simp only [Option.isSome_none, Bool.false_eq_true, if_false]
 rw [← Array.getElem?_toList, h1]
 simp [hj']
theorem heap_sortedE {α : Type} [Inhabited α] {enc : α → Value} {w : World} {g n : Nat} {os : Array Obj} {cur : Array Value} {e : TypeId} {fr : Nat × Nat} (d : Array α) (hb : w.heap[g]? = some (.cells cur e fr)) :
  (Sort.grow (Sort.putRow enc (Sort.ahead w n) g 0 d) os).heap[g]? = some (.cells (Sort.putCells enc 0 d cur) e fr) := by
 have hg : g < w.heap.size := (Array.getElem?_eq_some_iff.1 hb).1
 rw [Sort.heap_grow_old _ _ (by simpa using hg)]
 simp [Sort.putRow, Sort.mapBlock, Sort.ahead, Array.getElem?_modify, hb, Sort.onCells]
theorem grownBy_sortedE {α : Type} [Inhabited α] {enc : α → Value} {w : World} {g n : Nat} {os : Array Obj} (d : Array α) : w.grownBy (Sort.grow (Sort.putRow enc (Sort.ahead w n) g 0 d) os) (some g) := by
 refine ⟨rfl, rfl, rfl, by simp, fun k hk hne => ?_⟩
 rw [Sort.heap_grow_old _ _ (by simpa using hk)]
 have : g ≠ k := fun e => hne (by rw [e])
 simp [Sort.putRow, Sort.mapBlock, Sort.ahead, Array.getElem?_modify, this]
theorem take_putCellsE {α : Type} [Inhabited α] {enc : α → Value} (cur : Array Value) (ts : List α) (h : ts.length ≤ cur.size) : (Sort.putCells enc 0 ts.toArray cur).toList.take ts.length = ts.map enc := by
 apply List.ext_getElem?
 intro j
 by_cases hj : j < ts.length
 ·rw [List.getElem?_take_of_lt hj, Array.getElem?_toList]
  simp [Sort.putCells, hj, show j < cur.size by omega]
 ·rw [List.getElem?_take_eq_none (by omega), List.getElem?_eq_none (by simp; omega)]
def sortI (l : List Int) : List Int := l.mergeSort fun x y => decide (x ≤ y)
theorem sortI_len (l : List Int) : (sortI l).length = l.length := List.length_mergeSort l
theorem sort_own (base : Nat) (ok : Nat → Prop) (v : Value) (xs : List Int) (w : World) (h : Kd.R (Kd.int .i64) 3 w base ok v xs) (hs : xs.length < 4611686018427387904) :
  Calls Try.prog 25 #[v] w fun e w' => e = .returned (.tuple #[]) ∧ Kd.R (Kd.int .i64) 3 w' base ok v (sortI xs) ∧ w.grownBy w' v.ownBlock := by
 have ho := Kd.own_of_R h
 rcases ho.2 with ⟨rfl, hn⟩ | ⟨g, cap, cur, rfl, hbase, hb, h1, h2, h3, h4⟩
 ·have hx : xs = [] := by simpa [encs] using hn
  subst hx
  refine (Go.Proofs.Try.slices_Sort_int_none none 0 w).mono ?_
  rintro e w' ⟨rfl, rfl⟩
  exact ⟨rfl, by simpa [sortI] using h, ⟨rfl, rfl, rfl, Nat.le_refl _, fun _ _ _ => rfl⟩⟩
 ·refine (Go.Proofs.Try.slices_Sort_int g 0 cap xs w (holds_of_own hb (by simpa [encs] using h4)) (Array.getElem?_eq_some_iff.1 hb).1 hs).mono ?_
  rintro e w' ⟨rfl, n, os, rfl⟩
  refine ⟨rfl, ?_, grownBy_sortedE _⟩
  have hl := sortI_len xs
  refine Kd.R_of_own ?_ h.1
  rw [hl]
  exact ⟨by simp [encs, hl], .inr ⟨g, cap, _, rfl, hbase, heap_sortedE _ hb, h1, h2, by simp [Sort.putCells, h3], by
   rw [Nat.mul_one, ← hl]
   exact take_putCellsE cur (sortI xs) (by omega)⟩⟩
theorem compact_own (base : Nat) (ok : Nat → Prop) (v : Value) (xs : List Int) (w : World) (h : Kd.R (Kd.int .i64) 3 w base ok v xs) (hs : xs.length ≤ 9223372036854775807) (hle : (Lib.compact xs).length ≤ xs.length) :
  Calls Try.prog 26 #[v] w fun e w' => ∃ v', e = .returned v' ∧ Kd.R (Kd.int .i64) 3 w' base ok v' (Lib.compact xs) ∧ w.grownBy w' v.ownBlock := by
 have ho := Kd.own_of_R h
 rcases ho.2 with ⟨rfl, hn⟩ | ⟨g, cap, cur, rfl, hbase, hb, h1, h2, h3, h4⟩
 ·have hx : xs = [] := by simpa [encs] using hn
  subst hx
  refine (Go.Proofs.Try.slices_Compact_int_empty none 0 w).mono ?_
  rintro e w' ⟨rfl, rfl⟩
  have e1 : Lib.compact ([] : List Int) = [] := List.eq_nil_of_length_eq_zero (by simpa using hle)
  exact ⟨_, rfl, by rw [e1]; exact h, ⟨rfl, rfl, rfl, Nat.le_refl _, fun _ _ _ => rfl⟩⟩
 ·refine (Go.Proofs.Try.slices_Compact_int g 0 cap xs w (holds_of_own hb (by simpa [encs] using h4)) hs (by omega)).mono ?_
  rintro e w' ⟨rfl, n, hw⟩
  have hl : (Lib.compact xs ++ List.replicate (xs.length - (Lib.compact xs).length) (0 : Int)).length = xs.length := by simp; omega
  rw [← Sort.grow_empty (Sort.putRow _ _ _ _ _)] at hw
  subst hw
  refine ⟨_, rfl, ?_, grownBy_sortedE _⟩
  have hR : Kd.R (Kd.int .i64) 3 (Sort.grow (Sort.putRow (Value.int .i64) (Sort.ahead w n) g 0 (Lib.compact xs ++ List.replicate (xs.length - (Lib.compact xs).length) (0 : Int)).toArray) #[]) base ok (.slice (some ⟨g, 0, none⟩) xs.length cap) (Lib.compact xs ++ List.replicate (xs.length - (Lib.compact xs).length) (0 : Int)) := by
   refine Kd.R_of_own ?_ h.1
   rw [hl]
   exact ⟨by simp only [encs, List.length_map, hl, Nat.mul_one], .inr ⟨g, cap, _, rfl, hbase, heap_sortedE _ hb, h1, h2, by simp [Sort.putCells, h3], by
    rw [Nat.mul_one]
    have key : ∀ ts : List Int, ts.length = xs.length → (Sort.putCells (Value.int .i64) 0 ts.toArray cur).toList.take xs.length = ts.map (Value.int .i64) := fun ts h => by rw [← h]; exact take_putCellsE cur ts (by omega)
    exact key _ hl⟩⟩
  have hT := Kd.R_take (m := (Lib.compact xs).length) hR (by rw [List.length_append]; omega)
  rw [List.take_append_of_le_length (Nat.le_refl _), List.take_length] at hT
  exact hT
theorem compactUpTo_asc (d : Array Int) (hs : ∀ i j, i ≤ j → j < d.size → d[i]! ≤ d[j]!) : ∀ m, m ≤ d.size → (Lib.compactUpTo d m).Pairwise (· < ·) ∧ (∀ a ∈ Lib.compactUpTo d m, 0 < m ∧ a ≤ d[m - 1]!) ∧ (∀ j, j < m → d[j]! ∈ Lib.compactUpTo d m) ∧ (∀ a ∈ Lib.compactUpTo d m, ∃ j, j < m ∧ a = d[j]!) ∧ (Lib.compactUpTo d m).length ≤ m := by
 intro m
 induction m with
 | zero => intro _; simp [Lib.compactUpTo]
 | succ m ih =>
  intro hm
  obtain ⟨h1, h2, h3, h4, h5⟩ := ih (by omega)
  rw [Lib.compactUpTo_succ]
  by_cases hk : Lib.keeps d m = true
  ·rw [if_pos hk]
   have hlt : ∀ a ∈ Lib.compactUpTo d m, a < d[m]! := by
    intro a ha
    obtain ⟨p, q⟩ := h2 a ha
    have r := hs (m - 1) m (by omega) (by omega)
    have hne : d[m]! ≠ d[m - 1]! := by
     unfold Lib.keeps at hk
     rcases of_decide_eq_true hk with e | e
     ·omega
     ·exact e
    omega
   refine ⟨?_, ?_, ?_, ?_, by simp; omega⟩
   ·rw [List.pairwise_append]
    exact ⟨h1, by simp, fun a ha b hb => by rw [List.mem_singleton.1 hb]; exact hlt a ha⟩
   ·intro a ha
    refine ⟨by omega, ?_⟩
    rw [Nat.add_sub_cancel]
    rcases List.mem_append.1 ha with ha | ha
    ·exact Int.le_of_lt (hlt a ha)
    ·rw [List.mem_singleton.1 ha]; exact Int.le_refl _
   ·intro j hj
    rw [List.mem_append]
    by_cases e : j = m
    ·right; rw [e]; simp
    ·left; exact h3 j (by omega)
   ·intro a ha
    rcases List.mem_append.1 ha with ha | ha
    ·obtain ⟨j, p, q⟩ := h4 a ha
     exact ⟨j, by omega, q⟩
    ·exact ⟨m, by omega, List.mem_singleton.1 ha⟩
  ·rw [if_neg hk, List.append_nil]
   have hk2 : ¬ (m = 0 ∨ d[m]! ≠ d[m - 1]!) := by
    intro h
    exact hk (by unfold Lib.keeps; exact decide_eq_true h)
   have hm0 : 0 < m := by omega
   have he : d[m]! = d[m - 1]! := by
    rcases Int.lt_trichotomy d[m]! d[m - 1]! with h | h | h
    ·exact absurd (Or.inr (Int.ne_of_lt h)) hk2
    ·exact h
    ·exact absurd (Or.inr (Int.ne_of_gt h)) hk2
   refine ⟨h1, fun a ha => ⟨by omega, by rw [Nat.add_sub_cancel, he]; exact (h2 a ha).2⟩, fun j hj => ?_, fun a ha => ?_, by omega⟩
   ·by_cases e : j = m
    ·rw [e, he]; exact h3 (m - 1) (by omega)
    ·exact h3 j (by omega)
   ·obtain ⟨j, p, q⟩ := h4 a ha
    exact ⟨j, by omega, q⟩
def idsOf (l : List Int) : List Int := Lib.compact (sortI l)
theorem idsOf_asc (l : List Int) : (idsOf l).Pairwise (· < ·) ∧ (∀ a, a ∈ idsOf l ↔ a ∈ l) ∧ (idsOf l).length ≤ l.length := by
 have hp : (sortI l).Pairwise (fun a b => decide (a ≤ b) = true) := List.pairwise_mergeSort (fun a b c h1 h2 => by simp at *; omega) (fun a b => by simp; omega) l
 have hs : ∀ i j, i ≤ j → j < (sortI l).toArray.size → (sortI l).toArray[i]! ≤ (sortI l).toArray[j]! := by
  intro i j hij hj
  simp only [List.size_toArray] at hj
  rcases Nat.lt_or_eq_of_le hij with h | h
  ·have := (List.pairwise_iff_getElem.1 hp) i j (by omega) hj h
   simpa [getElem!_pos, show i < (sortI l).length by omega, hj] using this
  ·rw [h]; exact Int.le_refl _
 obtain ⟨h1, _, h3, h4, h5⟩ := compactUpTo_asc (sortI l).toArray hs (sortI l).length (by simp)
 have hm : ∀ a, a ∈ sortI l ↔ a ∈ l := fun a => (List.mergeSort_perm l _).mem_iff
 refine ⟨h1, fun a => ⟨fun ha => ?_, fun ha => ?_⟩, Nat.le_trans h5 (Nat.le_of_eq (sortI_len l))⟩
 ·obtain ⟨j, p, q⟩ := h4 a ha
  rw [← hm, q]
  simp [getElem!_pos, p]
 ·rw [← hm] at ha
  obtain ⟨j, hj, e⟩ := List.getElem_of_mem ha
  have := h3 j hj
  rw [← e]
  show (sortI l)[j] ∈ Lib.compactUpTo (sortI l).toArray (sortI l).length
  simpa [getElem!_pos, hj] using this
set_option maxHeartbeats 4000000 in
set_option maxRecDepth 100000 in
/-- The closure of List: a change is noted. -/
theorem note_calls (f : Int) (d : Bool) (bo bi : Nat) (id : Int) (A : Option Addr) (c : Nat) (xs : List S48) (base : Nat) (w0 w : World) (hb0 : Below base w0 w) (hs : base ≤ w.heap.size) (hbo : base ≤ bo) (hO : w.heap[bo]? = some (.cells #[.slice A xs.length c] 31 (0, 0))) (hI : w.heap[bi]? = some (.cells #[.int .i64 id] 3 (0, 0))) (hR : Kd.R k48 48 w base (fun _ => True) (.slice A xs.length c) xs) (hl : xs.length ≤ 10000000) :
  Calls Try.prog 27 #[.int .i64 f, .bool d, .pointer (some ⟨bo, 0, none⟩), .pointer (some ⟨bi, 0, none⟩)] w fun e w' => e = .returned (.tuple #[]) ∧ ∃ A' c', w'.heap[bo]? = some (.cells #[.slice A' (if d then xs ++ [⟨id, f⟩] else xs).length c'] 31 (0, 0)) ∧ Kd.R k48 48 w' base (fun _ => True) (.slice A' (if d then xs ++ [⟨id, f⟩] else xs).length c') (if d then xs ++ [⟨id, f⟩] else xs) ∧ Below base w0 w' ∧ Kept w w' (fun k => k = bo ∨ some k = (Value.slice A xs.length c).ownBlock) := by
 have HB := Aside0.mk hb0
 have HS := Aside0.mk hs
 have HO := Aside0.mk hO
 have HI := Aside0.mk hI
 have HR := Aside0.mk hR
 have HL := Aside0.mk hl
 have HBO := Aside0.mk hbo
 have z0 := (blk_cell hO 0).trans rfl
 have y0 := blk_frozen hO 0
 have z1 := (blk_cell hI 0).trans rfl
 have HNE := Aside0.mk (Kd.R_ne hR hO (by decide) : some bo ≠ (Value.slice A xs.length c).ownBlock)
 clear hb0 hO hI hR hl hbo hs
 cases d with
 | false =>
  go_enter Try.func27, Try.ntmps27
  go_wp2
  go_end0
  exact ⟨rfl, A, c, HO.out, HR.out, HB.out, Kept.refl _ _⟩
 | true =>
  go_enter Try.func27, Try.ntmps27
  go_wp2_with (first | ((with_reducible refine gate_builtin (b := .append) (xs := #[.tmp 7, .tmp 11]) rfl ?_); at_builtin; go_loud (refine Kd.R_append k48 (w0 := w0) base rfl (.tmp 7) (.tmp 11) 31 48 (.agg #[(.int .i64 0), (.int .i64 0)]) 16 rfl Try.underlying31 (by kernel_rfl) rfl (by decide) (by omega) (.slice A xs.length c) xs ⟨id, f⟩ [.int .i64 id, .int .i64 f] (fun _ => True) (fun _ => False) rfl rfl ?aP (fun _ h => h.elim) (fun _ _ => trivial) HR.out HB.out HS.out (by have := HL.out; omega) ?_; (case aP => exact k48_mkM _ _ _ ⟨id, f⟩); intro v9 w9 ho9 hb9 hg9 hat9; obtain ⟨A9, c9, rfl⟩ := Kd.R_slice ho9; have HO9 := Aside0.mk ho9; have HB9 := Aside0.mk hb9; have HG9 := Aside0.mk hg9; have BKO := Aside0.mk (blk_grown HO.out hg9 HNE.out); have z9 := (blk_cell BKO.out 0).trans rfl; have y9 := blk_frozen BKO.out 0; clear ho9 hb9 hg9 hat9 z0 y0 z1)))
  all_goals
   go_end0
   have h1 := Kd.R_far (p := ⟨bo, 0, none⟩) (Kd.R_types HO9.out BKO.out (by decide)) (fun k hk => hk.2) (.slice A9 (xs ++ [(⟨id, f⟩ : S48)]).length c9)
   have e : (xs ++ [(⟨id, f⟩ : S48)]).length = xs.length + 1 := by simp
   rw [e] at h1
   refine ⟨rfl, A9, c9, blk_put BKO.out 0 _ rfl, ?_, HB9.out.setCell HBO.out _, Kept.setCell (Kept.of_grown HG9.out (Kept.refl w _) (fun k e => .inl (.inr e.symm))) (.inl (.inl rfl)) _⟩
   exact Kd.R_mono h1 (fun _ _ => trivial)
theorem toList_inj {a b : ByteArray} : a.toList = b.toList ↔ a = b := by
 rw [ByteArray.toList_eq, ByteArray.toList_eq]
 exact ⟨fun h => ByteArray.ext (Array.ext' h), fun h => by rw [h]⟩
theorem wrap_i {i : Nat} (h : i ≤ 1000000000) : wrap64 ((i : Int) + 1) = ((i + 1 : Nat) : Int) := by unfold wrap64; omega
theorem equalS_l0 (a b : List ByteArray) (hab : a.length = b.length) (ha : a.length ≤ 1000000) : ∀ (d i : Nat), i + d = a.length → ∀ k, d < k → slices_Equal_string_string.l0 k a b (a.length : Int) (i : Int) = some (decide (a.drop i = b.drop i)) := by
 intro d
 induction d with
 | zero =>
  intro i hi k hk
  obtain ⟨k, rfl⟩ : ∃ m, k = m + 1 := ⟨k - 1, by omega⟩
  rw [slices_Equal_string_string.l0, if_neg (by omega), List.drop_of_length_le (by omega), List.drop_of_length_le (by omega)]
  rfl
 | succ d ih =>
  intro i hi k hk
  obtain ⟨k, rfl⟩ : ∃ m, k = m + 1 := ⟨k - 1, by omega⟩
  have h1 : i < a.length := by omega
  have h2 : i < b.length := by omega
  have e1 : rdOf ByteArray.empty a (i : Int) = a[i] := by simp [rdOf, List.getD_eq_getElem?_getD, List.getElem?_eq_getElem h1]
  have e2 : rdOf ByteArray.empty b (i : Int) = b[i] := by simp [rdOf, List.getD_eq_getElem?_getD, List.getElem?_eq_getElem h2]
  rw [slices_Equal_string_string.l0, if_pos (by omega), if_pos (by omega), if_pos (by omega), if_pos (by omega), e1, e2, List.drop_eq_getElem_cons h1, List.drop_eq_getElem_cons h2]
  by_cases h : a[i] = b[i]
  ·rw [if_pos (toList_inj.2 h), wrap_i (by omega), ih (i + 1) (by omega) k (by omega), h]
   exact congrArg some (decide_eq_decide.2 ⟨fun e => by rw [e], fun e => (List.cons.inj e).2⟩)
  ·rw [if_neg (fun e => h (toList_inj.1 e))]
   exact congrArg some (decide_eq_false (fun e => h (List.cons.inj e).1)).symm
theorem equalS_f (a b : List ByteArray) (ha : a.length ≤ 1000000) : slices_Equal_string_string.f (a.length + 1) a b = some (decide (a = b)) := by
 unfold slices_Equal_string_string.f
 by_cases h : a.length = b.length
 ·rw [if_pos (by omega)]
  have := equalS_l0 a b h ha a.length 0 (by omega) (a.length + 1) (by omega)
  simpa using this
 ·rw [if_neg (by omega), decide_eq_false (fun e => h (by rw [e]))]
theorem equalI_l0 (a b : List Int) (hab : a.length = b.length) (ha : a.length ≤ 1000000) : ∀ (d i : Nat), i + d = a.length → ∀ k, d < k → slices_Equal_int_int.l0 k a b (a.length : Int) (i : Int) = some (decide (a.drop i = b.drop i)) := by
 intro d
 induction d with
 | zero =>
  intro i hi k hk
  obtain ⟨k, rfl⟩ : ∃ m, k = m + 1 := ⟨k - 1, by omega⟩
  rw [slices_Equal_int_int.l0, if_neg (by omega), List.drop_of_length_le (by omega), List.drop_of_length_le (by omega)]
  rfl
 | succ d ih =>
  intro i hi k hk
  obtain ⟨k, rfl⟩ : ∃ m, k = m + 1 := ⟨k - 1, by omega⟩
  have h1 : i < a.length := by omega
  have h2 : i < b.length := by omega
  have e1 : rd a (i : Int) = a[i] := by simp [rd, List.getD_eq_getElem?_getD, List.getElem?_eq_getElem h1]
  have e2 : rd b (i : Int) = b[i] := by simp [rd, List.getD_eq_getElem?_getD, List.getElem?_eq_getElem h2]
  rw [slices_Equal_int_int.l0, if_pos (by omega), if_pos (by omega), if_pos (by omega), if_pos (by omega), e1, e2, List.drop_eq_getElem_cons h1, List.drop_eq_getElem_cons h2]
  by_cases h : a[i] = b[i]
  ·rw [if_pos h, wrap_i (by omega), ih (i + 1) (by omega) k (by omega), h]
   exact congrArg some (decide_eq_decide.2 ⟨fun e => by rw [e], fun e => (List.cons.inj e).2⟩)
  ·rw [if_neg h]
   exact congrArg some (decide_eq_false (fun e => h (List.cons.inj e).1)).symm
theorem equalI_f (a b : List Int) (ha : a.length ≤ 1000000) : slices_Equal_int_int.f (a.length + 1) a b = some (decide (a = b)) := by
 unfold slices_Equal_int_int.f
 by_cases h : a.length = b.length
 ·rw [if_pos (by omega)]
  have := equalI_l0 a b h ha a.length 0 (by omega) (a.length + 1) (by omega)
  simpa using this
 ·rw [if_neg (by omega), decide_eq_false (fun e => h (by rw [e]))]
theorem drawn_below {w w' : World} (h : Drawn0 w w') : Below w.heap.size w w' := by
 obtain ⟨n, rfl⟩ := h.out
 exact pw_below_drewN (Below.refl _ _) n
theorem equalS_calls (A0 : Option Addr) (c0 : Nat) (l0 : List ByteArray) (A1 : Option Addr) (c1 : Nat) (l1 : List ByteArray) (w : World) (hr0 : Kd.C Kd.string w A0 l0.length l0) (hc0 : l0.length ≤ c0) (hr1 : Kd.C Kd.string w A1 l1.length l1) (hc1 : l1.length ≤ c1) (hl : l0.length ≤ 1000000) :
  Calls Try.prog 28 #[.slice A0 l0.length c0, .slice A1 l1.length c1] w fun e w' => e = .returned (.bool (decide (l0 = l1))) ∧ Below w.heap.size w w' :=
 (slices_Equal_string_string.calls (l0.length + 1) A0 c0 l0 A1 c1 l1 _ w hr0 hc0 hr1 hc1 (equalS_f l0 l1 hl)).mono fun _ _ h => ⟨h.1, drawn_below h.2⟩
theorem equalI_calls (A0 : Option Addr) (c0 : Nat) (l0 : List Int) (A1 : Option Addr) (c1 : Nat) (l1 : List Int) (w : World) (hr0 : Kd.C (Kd.int .i64) w A0 l0.length l0) (hc0 : l0.length ≤ c0) (hr1 : Kd.C (Kd.int .i64) w A1 l1.length l1) (hc1 : l1.length ≤ c1) (hl : l0.length ≤ 1000000) :
  Calls Try.prog 29 #[.slice A0 l0.length c0, .slice A1 l1.length c1] w fun e w' => e = .returned (.bool (decide (l0 = l1))) ∧ Below w.heap.size w w' :=
 (slices_Equal_int_int.calls (l0.length + 1) A0 c0 l0 A1 c1 l1 _ w hr0 hc0 hr1 hc1 (equalI_f l0 l1 hl)).mono fun _ _ h => ⟨h.1, drawn_below h.2⟩
theorem two_rows (b o : List Int) (Ab Ao : Option Addr) (cb co g : Nat) (T : Nat) (w : World) (hb : Kd.C (Kd.int .i64) w Ab b.length b) (lb : b.length ≤ cb) (ho : Kd.C (Kd.int .i64) w Ao o.length o) (lo : o.length ≤ co) (h : w.heap[g]? = some (.cells #[.slice Ab b.length cb, .slice Ao o.length co] T (0, 0))) :
  Kd.C (Kd.slice 3 (Kd.int .i64)) w (some ⟨g, 0, none⟩) [b, o].length [b, o] := by
 refine ⟨rfl, by simp, fun _ => ⟨⟨g, 0, none⟩, rfl, fun j p hp => ?_⟩⟩
 match j, hp with
 | 0, hp =>
  obtain rfl := Option.some.inj hp
  refine ⟨[.slice Ab b.length cb], rfl, ⟨Ab, cb, rfl, lb, hb⟩, fun i u hu => ?_⟩
  match i, hu with
  | 0, hu => obtain rfl := Option.some.inj hu; exact (blk_cell h 0).trans rfl
  | i + 1, hu => simp at hu
 | 1, hp =>
  obtain rfl := Option.some.inj hp
  refine ⟨[.slice Ao o.length co], rfl, ⟨Ao, co, rfl, lo, ho⟩, fun i u hu => ?_⟩
  match i, hu with
  | 0, hu => obtain rfl := Option.some.inj hu; exact (blk_cell h 1).trans rfl
  | i + 1, hu => simp at hu
 | j + 2, hp => simp at hp
/-- What List holds in a round: the block of 'out' and its row. -/
structure RS (w8 : World) (B g15 : Nat) (L : List S48) (A : Option Addr) (c : Nat) (W : World) : Prop where
 hb : Below B w8 W
 hs : B ≤ W.heap.size
 ho : W.heap[g15]? = some (.cells #[.slice A L.length c] 31 (0, 0))
 hr : Kd.R k48 48 W B (fun _ => True) (.slice A L.length c) L
theorem RS.below {w8 W W' : World} {B g15 c : Nat} {L : List S48} {A : Option Addr} (h : RS w8 B g15 L A c W) (hb : Below W.heap.size W W') : RS w8 B g15 L A c W' :=
 ⟨below_then h.hb h.hs hb, Nat.le_trans h.hs hb.size, blk_below h.ho hb, Kd.R_below h.hr hb⟩
theorem RS.own {w8 W W' : World} {B g15 c g t : Nat} {cs : Array Value} {L : List S48} {A : Option Addr} (h : RS w8 B g15 L A c W) (hg : W.grownBy W' (some g)) (hgB : B ≤ g) (hne : g15 ≠ g) (hc : W.heap[g]? = some (.cells cs t (0, 0))) (ht : ∀ q, q ∈ 48 :: k48.E → q ≠ t) : RS w8 B g15 L A c W' :=
 ⟨below_own h.hb hg hgB h.hs, Nat.le_trans h.hs hg.size, blk_grown h.ho hg (fun e => hne (by injection e)), Kd.R_mono (Kd.R_grown (Kd.R_types h.hr hc ht) hg (fun k hk e => hk.2 (by injection e))) (fun _ _ => trivial)⟩
theorem note_rs (f : Int) (d : Bool) {w8 W : World} {B g15 c : Nat} {L : List S48} {A : Option Addr} (g17 : Nat) (id : Int) (h : RS w8 B g15 L A c W) (hB : B ≤ g15) (hI : W.heap[g17]? = some (.cells #[.int .i64 id] 3 (0, 0))) (hl : L.length ≤ 10000000) :
  Calls Try.prog 27 #[.int .i64 f, .bool d, .pointer (some ⟨g15, 0, none⟩), .pointer (some ⟨g17, 0, none⟩)] W fun e w' => e = .returned (.tuple #[]) ∧ ∃ A' c', RS w8 B g15 (if d then L ++ [⟨id, f⟩] else L) A' c' w' ∧ (∀ k cs t, t ≠ 48 → k ≠ g15 → W.heap[k]? = some (.cells cs t (0, 0)) → w'.heap[k]? = some (.cells cs t (0, 0))) :=
 (note_calls f d g15 g17 id A c L B w8 W h.hb h.hs hB h.ho hI h.hr hl).mono fun e w' ⟨h1, A', c', h2, h3, h4, h5⟩ => ⟨h1, A', c', ⟨h4, Nat.le_trans h.hs h5.1, h2, h3⟩, fun k cs t ht hk hb => blk_kept hb h5 (fun hS => by
  rcases hS with rfl | hS
  ·exact hk rfl
  ·exact Kd.R_ne h.hr hb (fun e => ht e.symm) hS)⟩
theorem note_len {x : S48} {d : Bool} {l : List S48} {n : Nat} (h : l.length ≤ n) : (if d then l ++ [x] else l).length ≤ n + 1 := by
 split
 ·rw [List.length_append]; simp; omega
 ·omega
theorem listF_take (Mx My : List (Int × Fct)) (l : List Int) (j : Nat) (h : j < l.length) : listF Mx My (l.take (j + 1)) = listF Mx My (l.take j) ++ chg Mx My l[j] := by
 unfold listF
 rw [List.take_add_one, List.getElem?_eq_getElem h, List.flatMap_append]
 simp
theorem FMap.old {w W : World} {b : Nat} {m : List (Int × Fct)} (h : FMap w b m) (hb : Below w.heap.size w W) : MapT keyI (FctV W (fun k => k < w.heap.size)) W b m := by
 refine MapT.mono (MapT.below h.map hb) (fun x v hv => ?_)
 obtain ⟨A2, c2, A3, c3, h1, h2, h3, h4, h5⟩ := hv
 exact FctV.step ⟨A2, c2, A3, c3, h1, h2, Kd.F_mono (Kd.F_bound h3) (fun k hk => hk.2), h4, Kd.F_mono (Kd.F_bound h5) (fun k hk => hk.2)⟩ (fun k hk _ => hb.block k hk)
theorem RS.len {w8 W : World} {B g15 c : Nat} {L : List S48} {A : Option Addr} {x : S48} {d : Bool} {n : Nat} (_ : RS w8 B g15 (if d then L ++ [x] else L) A c W) (h : L.length ≤ n) : (if d then L ++ [x] else L).length ≤ n + 1 := note_len h
theorem RS.cast {w8 W : World} {B g15 c : Nat} {L L' : List S48} {A : Option Addr} (e : L = L') (h : RS w8 B g15 L A c W) : RS w8 B g15 L' A c W := e ▸ h
/-- A number put into an ascending list, once. -/
def insAsc (a : Int) : List Int → List Int
 | [] => [a]
 | b :: l => if a < b then a :: b :: l else if a = b then b :: l else b :: insAsc a l
def ascL : List Int → List Int
 | [] => []
 | a :: l => insAsc a (ascL l)
theorem insAsc_mem (a x : Int) : ∀ l : List Int, x ∈ insAsc a l ↔ x = a ∨ x ∈ l
 | [] => by simp [insAsc]
 | b :: l => by
  rw [insAsc]
  split
  ·simp
  ·split
   ·rename_i h; subst h; simp
   ·rw [List.mem_cons, insAsc_mem a x l, List.mem_cons]
    constructor
    ·rintro (h | h | h)
     ·exact .inr (.inl h)
     ·exact .inl h
     ·exact .inr (.inr h)
    ·rintro (h | h | h)
     ·exact .inr (.inl h)
     ·exact .inl h
     ·exact .inr (.inr h)
theorem insAsc_asc (a : Int) : ∀ l : List Int, l.Pairwise (· < ·) → (insAsc a l).Pairwise (· < ·)
 | [], _ => by simp [insAsc]
 | b :: l, h => by
  have hc := List.pairwise_cons.1 h
  rw [insAsc]
  split
  ·rename_i hab
   exact List.pairwise_cons.2 ⟨fun x hx => by rcases List.mem_cons.1 hx with rfl | hx; exact hab; have := hc.1 x hx; omega, h⟩
  ·split
   ·exact h
   ·rename_i h1 h2
    refine List.pairwise_cons.2 ⟨fun x hx => ?_, insAsc_asc a l hc.2⟩
    rcases (insAsc_mem a x l).1 hx with rfl | hx
    ·omega
    ·exact hc.1 x hx
theorem ascL_mem (x : Int) : ∀ l : List Int, x ∈ ascL l ↔ x ∈ l
 | [] => by simp [ascL]
 | a :: l => by rw [ascL, insAsc_mem, ascL_mem x l, List.mem_cons]
theorem ascL_asc : ∀ l : List Int, (ascL l).Pairwise (· < ·)
 | [] => by simp [ascL]
 | a :: l => by rw [ascL]; exact insAsc_asc a _ (ascL_asc l)
theorem ext_asc {l m : List Int} (hl : l.Pairwise (· < ·)) (hm : m.Pairwise (· < ·)) (h : ∀ x, x ∈ l ↔ x ∈ m) : l = m := by
 have nl : l.Nodup := hl.imp (fun h e => by subst e; exact absurd h (Int.lt_irrefl _))
 have nm : m.Nodup := hm.imp (fun h e => by subst e; exact absurd h (Int.lt_irrefl _))
 exact ((List.perm_ext_iff_of_nodup nl nm).2 h).eq_of_pairwise (le := (· < ·)) (fun a b _ _ h1 h2 => absurd h1 (Int.lt_asymm h2)) hl hm
theorem idsOf_eq (l : List Int) : idsOf l = ascL l := ext_asc (idsOf_asc l).1 (ascL_asc l) (fun x => by rw [(idsOf_asc l).2.1, ascL_mem])
theorem sortI_asc {l : List Int} (hn : l.Nodup) : sortI l = ascL l := by
 have hp : (sortI l).Pairwise (fun a b => decide (a ≤ b) = true) := List.pairwise_mergeSort (fun a b c h1 h2 => by simp at *; omega) (fun a b => by simp; omega) l
 have n2 : (sortI l).Nodup := (List.mergeSort_perm l _).nodup_iff.2 hn
 refine ext_asc ((hp.and n2).imp (fun h => ?_)) (ascL_asc l) (fun x => by rw [ascL_mem]; exact (List.mergeSort_perm l _).mem_iff)
 have h1 := of_decide_eq_true h.1
 have h2 := h.2
 omega
set_option maxHeartbeats 16000000 in
set_option maxRecDepth 100000 in
theorem list31_calls (x y : S25) (b o : List Int) (Ax2 : Option Addr) (cx2 : Nat) (Ax3 : Option Addr) (cx3 : Nat) (Ay2 : Option Addr) (cy2 : Nat) (Ay3 : Option Addr) (cy3 : Nat) (Ab : Option Addr) (cb : Nat) (Ao : Option Addr) (co : Nat) (w : World)
  (hx2 : Kd.C Kd.string w Ax2 x.f2.length x.f2) (lx2 : x.f2.length ≤ cx2) (hx3 : Kd.C k25 w Ax3 x.f3.length x.f3) (lx3 : x.f3.length ≤ cx3) (hy2 : Kd.C Kd.string w Ay2 y.f2.length y.f2) (ly2 : y.f2.length ≤ cy2) (hy3 : Kd.C k25 w Ay3 y.f3.length y.f3) (ly3 : y.f3.length ≤ cy3)
  (hb : Kd.C (Kd.int .i64) w Ab b.length b) (lb : b.length ≤ cb) (ho : Kd.C (Kd.int .i64) w Ao o.length o) (lo : o.length ≤ co) (okx : treeOk x = true) (oky : treeOk y = true) (nb : b.length ≤ 400000) (no : o.length ≤ 400000) :
  Calls Try.prog 10 #[.agg #[.int .i64 x.f0, .string x.f1, .slice Ax2 x.f2.length cx2, .slice Ax3 x.f3.length cx3], .agg #[.int .i64 y.f0, .string y.f1, .slice Ay2 y.f2.length cy2, .slice Ay3 y.f3.length cy3], .slice Ab b.length cb, .slice Ao o.length co] w fun e w' => ∃ (v : Value) (r : List S48), e = .returned (.tuple #[v, .int .i64 (if (factsOk (rowsT x (-1) 0) b && factsOk (rowsT y (-1) 0) o) = true then 0 else 15)]) ∧ r = (if (factsOk (rowsT x (-1) 0) b && factsOk (rowsT y (-1) 0) o) = true then listF (factsTo (rowsT x (-1) 0) b b.length) (factsTo (rowsT y (-1) 0) o o.length) (idsOf (b ++ o)) else []) ∧ Kd.R k48 48 w' w.heap.size (fun _ => True) v r ∧ Below w.heap.size w w' := by
 obtain ⟨fx, hfx⟩ : ∃ fx, fx = factsOk (rowsT x (-1) 0) b := ⟨_, rfl⟩
 obtain ⟨fy, hfy⟩ : ∃ fy, fy = factsOk (rowsT y (-1) 0) o := ⟨_, rfl⟩
 obtain ⟨Mx, hMx⟩ : ∃ Mx, Mx = factsTo (rowsT x (-1) 0) b b.length := ⟨_, rfl⟩
 obtain ⟨My, hMy⟩ : ∃ My, My = factsTo (rowsT y (-1) 0) o o.length := ⟨_, rfl⟩
 have HCX := Aside0.mk (fun (W : World) (hW : Below w.heap.size w W) => by
  have h := facts_calls x b Ax2 cx2 Ax3 cx3 Ab cb W (Kd.C_below hx2 hW) lx2 (Kd.C_below hx3 hW) lx3 (Kd.C_below hb hW) lb okx
  rw [← hfx, ← hMx] at h
  exact h)
 have HCY := Aside0.mk (fun (W : World) (hW : Below w.heap.size w W) => by
  have h := facts_calls y o Ay2 cy2 Ay3 cy3 Ao co W (Kd.C_below hy2 hW) ly2 (Kd.C_below hy3 hW) ly3 (Kd.C_below ho hW) lo oky
  rw [← hfy, ← hMy] at h
  exact h)
 have HFX := Aside0.mk (fun id f (h : glook Mx id = some f) => facts_fine x okx b id f (by rw [← hMx]; exact h))
 have HFY := Aside0.mk (fun id f (h : glook My id = some f) => facts_fine y oky o id f (by rw [← hMy]; exact h))
 have HCC := Aside0.mk (fun (W : World) (hW : Below w.heap.size w W) => show Calls Try.prog 24 #[.slice (some ⟨W.heap.size, 0, none⟩) 2 2] (W.alloc (.cells #[.slice Ab b.length cb, .slice Ao o.length co] 26)) (fun e w' => ∃ v, e = .returned v ∧ Kd.R (Kd.int .i64) 3 w' W.heap.size (fun _ => True) v (b ++ o) ∧ Below W.heap.size W w') from
  (concat_calls [b, o] _ 2 _ (two_rows b o Ab Ao cb co W.heap.size 26 _ (Kd.C_alloc (Kd.C_below hb hW) _) lb (Kd.C_alloc (Kd.C_below ho hW) _) lo (blk_new W _)) (Nat.le_refl _) (by simp; omega)).mono fun e w' ⟨v, h1, h2, h3⟩ => ⟨v, h1, by have h4 := Kd.R_lower (base' := W.heap.size) h2 (by simp); simpa using h4, below_step (below_alloc (Below.refl _ _) _) h3⟩)
 have HLEN := Aside0.mk (by rw [List.length_append]; omega : (b ++ o).length < 4611686018427387904)
 have HLE2 := Aside0.mk (by rw [sortI_len, List.length_append]; omega : (sortI (b ++ o)).length ≤ 9223372036854775807)
 have HLE3 := Aside0.mk (by have h := (idsOf_asc (b ++ o)).2.2; rw [sortI_len]; exact h : (Lib.compact (sortI (b ++ o))).length ≤ (sortI (b ++ o)).length)
 have HLI := Aside0.mk (by have h := (idsOf_asc (b ++ o)).2.2; rw [List.length_append] at h; omega : (idsOf (b ++ o)).length ≤ 800000)
 have HW := Aside0.mk (Below.refl w.heap.size w)
 rw [← hfx, ← hfy, ← hMx, ← hMy]
 clear hx2 lx2 hx3 lx3 hy2 ly2 hy3 ly3 hb lb ho lo okx oky nb no hfx hfy hMx hMy
 have hnn : ((fx && fy) = true) = (fx = true ∧ fy = true) := by simp
 clear hnn
 cases fx
 ·go_enter Try.func10, Try.ntmps10
  go_wp2_with (first | ((with_reducible refine gate_dst (N := 4) rfl ?_); refine box_event ?hg (N := 4) ?hd (cs := #[.int .i64 x.f0, .string x.f1, .slice Ax2 x.f2.length cx2, .slice Ax3 x.f3.length cx3]) (t := 25) ?hr ?_; (case hd => rfl); (case hg => rfl); (case hr => first | (go_simp; done) | (go_simp; rfl)); intro g4 hg w1 hbox hb; have HB1 := Aside0.mk hb; have BK4 := Aside0.mk hbox; clear hbox hb hg; have z40 := (blk_cell BK4.out 0).trans rfl; have z41 := (blk_cell BK4.out 1).trans rfl; have z42 := (blk_cell BK4.out 2).trans rfl; have z43 := (blk_cell BK4.out 3).trans rfl) | ((with_reducible refine gate_dst (N := 5) rfl ?_); refine box_event ?hg (N := 5) ?hd (cs := #[.int .i64 y.f0, .string y.f1, .slice Ay2 y.f2.length cy2, .slice Ay3 y.f3.length cy3]) (t := 25) ?hr ?_; (case hd => rfl); (case hg => rfl); (case hr => first | (go_simp; done) | (go_simp; rfl)); intro g5 hg w2 hbox hb; have HB2 := Aside0.mk (below_step HB1.out hb); have BK42 := Aside0.mk (blk_below BK4.out hb); have BK5 := Aside0.mk hbox; clear hbox hb hg; clear z40 z41 z42 z43; have z40 := (blk_cell BK42.out 0).trans rfl; have z41 := (blk_cell BK42.out 1).trans rfl; have z42 := (blk_cell BK42.out 2).trans rfl; have z43 := (blk_cell BK42.out 3).trans rfl) | (go_at_call 23; go_loud ((with_reducible refine (HCX.out _ HB2.out).mono ?_); rintro e w3 ⟨mx, rfl, hb3, hx3⟩; have HB3 := Aside0.mk (below_step HB2.out hb3); have HMX := Aside0.mk hx3; have BK53 := Aside0.mk (blk_below BK5.out hb3); clear z40 z41 z42 z43; clear hb3 hx3; have z50 := (blk_cell BK53.out 0).trans rfl; have z51 := (blk_cell BK53.out 1).trans rfl; have z52 := (blk_cell BK53.out 2).trans rfl; have z53 := (blk_cell BK53.out 3).trans rfl)) | (go_at_call 23; go_loud ((with_reducible refine (HCY.out _ HB3.out).mono ?_); rintro e w4 ⟨my, rfl, hb4, hx4⟩; have HB4 := Aside0.mk (below_step HB3.out hb4); have HB34 := Aside0.mk hb4; have HMY := Aside0.mk hx4; clear z50 z51 z52 z53; clear hb4 hx4)))
  all_goals
   go_ret2
   exact ⟨.slice none 0 0, rfl, Kd.R_nil _ _ _ _ _, HB4.out⟩
 cases fy
 ·go_enter Try.func10, Try.ntmps10
  go_wp2_with (first | ((with_reducible refine gate_dst (N := 4) rfl ?_); refine box_event ?hg (N := 4) ?hd (cs := #[.int .i64 x.f0, .string x.f1, .slice Ax2 x.f2.length cx2, .slice Ax3 x.f3.length cx3]) (t := 25) ?hr ?_; (case hd => rfl); (case hg => rfl); (case hr => first | (go_simp; done) | (go_simp; rfl)); intro g4 hg w1 hbox hb; have HB1 := Aside0.mk hb; have BK4 := Aside0.mk hbox; clear hbox hb hg; have z40 := (blk_cell BK4.out 0).trans rfl; have z41 := (blk_cell BK4.out 1).trans rfl; have z42 := (blk_cell BK4.out 2).trans rfl; have z43 := (blk_cell BK4.out 3).trans rfl) | ((with_reducible refine gate_dst (N := 5) rfl ?_); refine box_event ?hg (N := 5) ?hd (cs := #[.int .i64 y.f0, .string y.f1, .slice Ay2 y.f2.length cy2, .slice Ay3 y.f3.length cy3]) (t := 25) ?hr ?_; (case hd => rfl); (case hg => rfl); (case hr => first | (go_simp; done) | (go_simp; rfl)); intro g5 hg w2 hbox hb; have HB2 := Aside0.mk (below_step HB1.out hb); have BK42 := Aside0.mk (blk_below BK4.out hb); have BK5 := Aside0.mk hbox; clear hbox hb hg; clear z40 z41 z42 z43; have z40 := (blk_cell BK42.out 0).trans rfl; have z41 := (blk_cell BK42.out 1).trans rfl; have z42 := (blk_cell BK42.out 2).trans rfl; have z43 := (blk_cell BK42.out 3).trans rfl) | (go_at_call 23; go_loud ((with_reducible refine (HCX.out _ HB2.out).mono ?_); rintro e w3 ⟨mx, rfl, hb3, hx3⟩; have HB3 := Aside0.mk (below_step HB2.out hb3); obtain ⟨bx, rfl, hgx, hmx⟩ := hx3 (by first | trivial | rfl); have HMX := Aside0.mk hmx; have BK53 := Aside0.mk (blk_below BK5.out hb3); clear z40 z41 z42 z43; clear hb3 hmx hgx hx3; have z50 := (blk_cell BK53.out 0).trans rfl; have z51 := (blk_cell BK53.out 1).trans rfl; have z52 := (blk_cell BK53.out 2).trans rfl; have z53 := (blk_cell BK53.out 3).trans rfl)) | (go_at_call 23; go_loud ((with_reducible refine (HCY.out _ HB3.out).mono ?_); rintro e w4 ⟨my, rfl, hb4, hx4⟩; have HB4 := Aside0.mk (below_step HB3.out hb4); have HB34 := Aside0.mk hb4; have HMY := Aside0.mk hx4; clear z50 z51 z52 z53; clear hb4 hx4)))
  all_goals
   go_ret2
   exact ⟨.slice none 0 0, rfl, Kd.R_nil _ _ _ _ _, HB4.out⟩
 go_enter Try.func10, Try.ntmps10
 go_wp2_with (first | ((with_reducible refine gate_dst (N := 4) rfl ?_); refine box_event ?hg (N := 4) ?hd (cs := #[.int .i64 x.f0, .string x.f1, .slice Ax2 x.f2.length cx2, .slice Ax3 x.f3.length cx3]) (t := 25) ?hr ?_; (case hd => rfl); (case hg => rfl); (case hr => first | (go_simp; done) | (go_simp; rfl)); intro g4 hg w1 hbox hb; have HB1 := Aside0.mk hb; have BK4 := Aside0.mk hbox; clear hbox hb hg; have z40 := (blk_cell BK4.out 0).trans rfl; have z41 := (blk_cell BK4.out 1).trans rfl; have z42 := (blk_cell BK4.out 2).trans rfl; have z43 := (blk_cell BK4.out 3).trans rfl) | ((with_reducible refine gate_dst (N := 5) rfl ?_); refine box_event ?hg (N := 5) ?hd (cs := #[.int .i64 y.f0, .string y.f1, .slice Ay2 y.f2.length cy2, .slice Ay3 y.f3.length cy3]) (t := 25) ?hr ?_; (case hd => rfl); (case hg => rfl); (case hr => first | (go_simp; done) | (go_simp; rfl)); intro g5 hg w2 hbox hb; have HB2 := Aside0.mk (below_step HB1.out hb); have BK42 := Aside0.mk (blk_below BK4.out hb); have BK5 := Aside0.mk hbox; clear hbox hb hg; clear z40 z41 z42 z43; have z40 := (blk_cell BK42.out 0).trans rfl; have z41 := (blk_cell BK42.out 1).trans rfl; have z42 := (blk_cell BK42.out 2).trans rfl; have z43 := (blk_cell BK42.out 3).trans rfl) | (go_at_call 23; go_loud ((with_reducible refine (HCX.out _ HB2.out).mono ?_); rintro e w3 ⟨mx, rfl, hb3, hx3⟩; have HB3 := Aside0.mk (below_step HB2.out hb3); obtain ⟨bx, rfl, hgx, hmx⟩ := hx3 (by first | trivial | rfl); have HMX := Aside0.mk hmx; have BK53 := Aside0.mk (blk_below BK5.out hb3); clear z40 z41 z42 z43; clear hb3 hmx hgx hx3; have z50 := (blk_cell BK53.out 0).trans rfl; have z51 := (blk_cell BK53.out 1).trans rfl; have z52 := (blk_cell BK53.out 2).trans rfl; have z53 := (blk_cell BK53.out 3).trans rfl)) | (go_at_call 23; go_loud ((with_reducible refine (HCY.out _ HB3.out).mono ?_); rintro e w4 ⟨my, rfl, hb4, hx4⟩; have HB4 := Aside0.mk (below_step HB3.out hb4); have HB34 := Aside0.mk hb4; obtain ⟨by_, rfl, hgy, hmy⟩ := hx4 (by first | trivial | rfl); have HMY := Aside0.mk hmy; have HMX4 := Aside0.mk (HMX.out.below hb4); clear z50 z51 z52 z53; clear hb4 hmy hgy hx4)) | (go_at_call 24; go_loud ((with_reducible refine (HCC.out _ HB4.out).mono ?_); rintro e w5 ⟨v5, rfl, hr5, hb5⟩; have HB5 := Aside0.mk (below_step HB4.out hb5); have HB45 := Aside0.mk hb5; have HR5 := Aside0.mk hr5; clear hr5 hb5)) | (go_at_call 25; go_loud ((with_reducible refine (sort_own w4.heap.size (fun k => k < w5.heap.size) v5 (b ++ o) w5 (Kd.R_mono (Kd.R_bound HR5.out) (fun k hk => hk.2.2.1)) HLEN.out).mono ?_); rintro e w6 ⟨rfl, hr6, hg6⟩; have HR6 := Aside0.mk hr6; have HB46 := Aside0.mk (HB45.out.grown hg6 HB45.out.size (fun k hk => Kd.R_base HR5.out k hk)); have HS6 := Aside0.mk (by have h := hg6.size; exact h : w5.heap.size ≤ w6.heap.size); clear hr6 hg6)) | ((with_reducible refine gate_dst (N := 15) rfl ?_); refine box_event ?hg (N := 15) ?hd (cs := #[.slice none 0 0]) (t := 31) ?hr ?_; (case hd => rfl); (case hg => rfl); (case hr => first | (go_simp; done) | (go_simp; rfl)); intro g15 hg w7 hbox hb; have BK15 := Aside0.mk hbox; have GE15 := Aside0.mk (by rw [hg]; exact Nat.le_refl _ : w6.heap.size ≤ g15); have HR7 := Aside0.mk (Kd.R_below HR6.out hb); have HB67 := Aside0.mk hb; have HB47 := Aside0.mk (below_step HB46.out hb); clear hbox hb hg) | (go_at_call 26; go_loud ((with_reducible refine (compact_own w4.heap.size (fun k => k < w5.heap.size) v5 (sortI (b ++ o)) w7 HR7.out HLE2.out HLE3.out).mono ?_); rintro e w8 ⟨v8, rfl, hr8, hg8⟩; obtain ⟨Al, cl, rfl⟩ := Kd.R_slice hr8; have HR8 := Aside0.mk (Kd.R_F hr8); have HB48 := Aside0.mk (HB47.out.grown hg8 HB47.out.size (fun k hk => Kd.R_base HR7.out k hk)); have BKG := Aside0.mk (blk_grown BK15.out hg8 (fun e => by have h1 := HR7.out.1 g15 e.symm; have h2 := GE15.out; have h3 := HS6.out; omega)); have HS8 := Aside0.mk (Nat.le_trans HB67.out.size (by have h := hg8.size; exact h) : w6.heap.size ≤ w8.heap.size); clear hr8 hg8)))
 generalize hl : Lib.compact (sortI (b ++ o)) = l at HR8 ⊢
 have HLL := Aside0.mk (show idsOf (b ++ o) = l from hl)
 have HLN := Aside0.mk (by have h := HLI.out; rw [HLL.out] at h; exact h : l.length ≤ 800000)
 clear hl
 have H46 := Aside0.mk (Nat.le_trans HB45.out.size HS6.out : w4.heap.size ≤ w6.heap.size)
 have H4 := Aside0.mk (fun (W : World) (hW : Below w6.heap.size w8 W) => (HB48.out.trans (hW.mono H46.out) : Below w4.heap.size w4 W))
 have HXM := Aside0.mk (fun (W : World) (hW : Below w6.heap.size w8 W) => FMap.old HMX4.out (H4.out W hW))
 have HYM := Aside0.mk (fun (W : World) (hW : Below w6.heap.size w8 W) => FMap.old HMY.out (H4.out W hW))
 have HW4 := Aside0.mk (HB4.out.size)
 have HGB := GE15
 go_loopg [50] l.length (fun gk v50 w' => ∃ (j : Nat) (A : Option Addr) (c : Nat), v50 = .int .i64 j ∧ j + gk = l.length ∧ Aside0 (RS w8 w6.heap.size g15 (listF Mx My (l.take j)) A c w'))
 case atStart => exact ⟨0, none, 0, rfl, by omega, ⟨⟨Below.refl _ _, HS8.out, BKG.out, Kd.R_nil _ _ _ _ _⟩⟩⟩
 case round =>
  obtain ⟨j, A, c, rfl, hj, R⟩ := hrel
  obtain ⟨go, rfl⟩ : ∃ go, go = gk := ⟨gk, rfl⟩
  have HJ := Aside0.mk hj
  cases go with
  | zero =>
   have g1 : decide ((j : Int) < (l.length : Int)) = false := decide_eq_false (by omega)
   have g2 : decide (j < l.length) = false := decide_eq_false (by omega)
   obtain rfl : j = l.length := by omega
   have R2 := R.out
   rw [List.take_length] at R2
   have R3 := Aside0.mk R2
   have z150 := (blk_cell R2.ho 0).trans rfl
   clear hj R2 R
   go_wp2
   go_ret2
   rw [HLL.out]
   exact ⟨_, rfl, Kd.R_lower R3.out.hr (Nat.le_trans HW4.out H46.out), below_then HB4.out HW4.out (H4.out _ R3.out.hb)⟩
  | succ g =>
   have hjl : j < l.length := by omega
   have HJL := Aside0.mk hjl
   have g1 : decide ((j : Int) < (l.length : Int)) = true := decide_eq_true (by omega)
   have g2 : decide (j < l.length) = true := decide_eq_true hjl
   have p0 : (0 : Int) ≤ (j : Int) := by omega
   have p1 : (j : Int) < (l.length : Int) := by omega
   obtain ⟨al, el, hcx⟩ := Kd.at_int (Kd.F_now (Kd.F_step (W1 := wr) HR8.out (fun k hk _ => R.out.hb.block k (Nat.lt_of_lt_of_le hk HS6.out)))) (j : Int) p0 p1
   subst el
   rw [Int.toNat_natCast] at hcx
   obtain ⟨id, hid⟩ : ∃ id, id = rd l (j : Int) := ⟨_, rfl⟩
   rw [← hid] at hcx
   have HID := Aside0.mk (hid.trans (by unfold rd; rw [Int.toNat_natCast, List.getD_eq_getElem?_getD, List.getElem?_eq_getElem HJL.out]; rfl) : id = l[j]'HJL.out)
   have HTK := Aside0.mk (by rw [HID.out]; exact listF_take Mx My l j HJL.out : listF Mx My (l.take (j + 1)) = listF Mx My (l.take j) ++ chg Mx My id)
   have HL := Aside0.mk (by have h := listF_len Mx My (l.take j); rw [List.length_take] at h; omega : (listF Mx My (l.take j)).length ≤ 4 * j)
   have HMB := Aside0.mk (by have := HLN.out; omega : 4 * j ≤ 3200000)
   obtain ⟨L, hL⟩ : ∃ L, L = listF Mx My (l.take j) := ⟨_, rfl⟩
   rw [← hL] at R HTK HL
   have HLB := Aside0.mk (Nat.le_trans HL.out (by have := HMB.out; omega) : L.length ≤ 10000000)
   clear hid hj hL hjl
   cases hgx : glook Mx id with
   | none =>
    have HGX := Aside0.mk hgx
    cases hgy : glook My id with
    | none =>
     have HGY := Aside0.mk hgy
     clear hgx hgy
     go_wp2_with (first | ((with_reducible refine gate_dst (N := 17) rfl ?_); refine box_event ?hg (N := 17) ?hd (cs := #[.int .i64 0]) (t := 3) ?hr ?_; (case hd => rfl); (case hg => rfl); (case hr => first | (go_simp; done) | (go_simp; rfl)); intro g17 hg w_17 hbox hb; have GE17 := Aside0.mk (by rw [hg]; exact R.out.hs : w6.heap.size ≤ g17); have NO17 := Aside0.mk (by have := blk_lt R.out.ho; omega : g15 ≠ g17); have n0_ := Aside0.mk (R.out.below hb); clear R; have R := n0_; clear n0_; clear hcx; have BK17 := Aside0.mk hbox; clear hbox hb hg; have z170 := (blk_cell BK17.out 0).trans rfl; have y170 := blk_frozen BK17.out 0) | ((with_reducible refine settle1 BK17.out ?_); intro w_17s hbk hg; clear z170 y170; have n0_ := Aside0.mk (R.out.own hg GE17.out NO17.out BK17.out (by decide)); clear R; have R := n0_; clear n0_; clear BK17; have BK17 := Aside0.mk hbk; clear hbk hg; have z170 := (blk_cell BK17.out 0).trans rfl) | ((with_reducible refine wpList_lookT_none (z := .agg #[.int .i64 0, .string ⟨#[]⟩, .slice none 0 0, .slice none 0 0]) rfl (.tmp 55) (.tmp 56) rfl (KeyOk.int Try.underlying3) Try.underlying52 (by kernel_rfl) rfl (HXM.out _ R.out.hb) id rfl HGX.out ?_)) | ((with_reducible refine gate_dst (N := 18) rfl ?_); refine box_event ?hg (N := 18) ?hd (cs := #[.int .i64 0, .string (⟨#[]⟩ : ByteArray), .slice none 0 0, .slice none 0 0]) (t := 59) ?hr ?_; (case hd => rfl); (case hg => rfl); (case hr => first | (go_simp; done) | (go_simp; rfl)); intro g18 hg w_18 hbox hb; have GE18 := Aside0.mk (by rw [hg]; exact R.out.hs : w6.heap.size ≤ g18); have NO18 := Aside0.mk (by have := blk_lt R.out.ho; omega : g15 ≠ g18); have NE17_18 := Aside0.mk (by have := blk_lt BK17.out; omega : g17 ≠ g18); have n0_ := Aside0.mk (R.out.below hb); clear R; have R := n0_; clear n0_; clear z170; have m17_ := Aside0.mk (blk_below BK17.out hb); clear BK17; have BK17 := m17_; clear m17_; have BK18 := Aside0.mk hbox; clear hbox hb hg; have z180 := (blk_cell BK18.out 0).trans rfl; have z181 := (blk_cell BK18.out 1).trans rfl; have z182 := (blk_cell BK18.out 2).trans rfl; have z183 := (blk_cell BK18.out 3).trans rfl; have y180 := blk_frozen BK18.out 0; have y181 := blk_frozen BK18.out 1; have y182 := blk_frozen BK18.out 2; have y183 := blk_frozen BK18.out 3) | ((with_reducible refine settle4 BK18.out ?_); intro w_18s hbk hg; clear z180 z181 z182 z183 y180 y181 y182 y183; have n0_ := Aside0.mk (R.out.own hg GE18.out NO18.out BK18.out (by decide)); clear R; have R := n0_; clear n0_; have m17_ := Aside0.mk (blk_grown BK17.out hg (fun e => NE17_18.out (by injection e))); clear BK17; have BK17 := m17_; clear m17_; clear BK18; have BK18 := Aside0.mk hbk; clear hbk hg; have z170 := (blk_cell BK17.out 0).trans rfl) | ((with_reducible refine wpList_lookT_none (z := .agg #[.int .i64 0, .string ⟨#[]⟩, .slice none 0 0, .slice none 0 0]) rfl (.tmp 61) (.tmp 62) rfl (KeyOk.int Try.underlying3) Try.underlying52 (by kernel_rfl) rfl (HYM.out _ R.out.hb) id rfl HGY.out ?_)) | ((with_reducible refine gate_dst (N := 20) rfl ?_); refine box_event ?hg (N := 20) ?hd (cs := #[.int .i64 0, .string (⟨#[]⟩ : ByteArray), .slice none 0 0, .slice none 0 0]) (t := 59) ?hr ?_; (case hd => rfl); (case hg => rfl); (case hr => first | (go_simp; done) | (go_simp; rfl)); intro g20 hg w_20 hbox hb; have GE20 := Aside0.mk (by rw [hg]; exact R.out.hs : w6.heap.size ≤ g20); have NO20 := Aside0.mk (by have := blk_lt R.out.ho; omega : g15 ≠ g20); have NE17_20 := Aside0.mk (by have := blk_lt BK17.out; omega : g17 ≠ g20); have NE18_20 := Aside0.mk (by have := blk_lt BK18.out; omega : g18 ≠ g20); have n0_ := Aside0.mk (R.out.below hb); clear R; have R := n0_; clear n0_; clear z170; have m17_ := Aside0.mk (blk_below BK17.out hb); have m18_ := Aside0.mk (blk_below BK18.out hb); clear BK17 BK18; have BK17 := m17_; clear m17_; have BK18 := m18_; clear m18_; have BK20 := Aside0.mk hbox; clear hbox hb hg; have z200 := (blk_cell BK20.out 0).trans rfl; have z201 := (blk_cell BK20.out 1).trans rfl; have z202 := (blk_cell BK20.out 2).trans rfl; have z203 := (blk_cell BK20.out 3).trans rfl; have y200 := blk_frozen BK20.out 0; have y201 := blk_frozen BK20.out 1; have y202 := blk_frozen BK20.out 2; have y203 := blk_frozen BK20.out 3) | ((with_reducible refine settle4 BK20.out ?_); intro w_20s hbk hg; clear z200 z201 z202 z203 y200 y201 y202 y203; have n0_ := Aside0.mk (R.out.own hg GE20.out NO20.out BK20.out (by decide)); clear R; have R := n0_; clear n0_; have m17_ := Aside0.mk (blk_grown BK17.out hg (fun e => NE17_20.out (by injection e))); have m18_ := Aside0.mk (blk_grown BK18.out hg (fun e => NE18_20.out (by injection e))); clear BK17 BK18; have BK17 := m17_; clear m17_; have BK18 := m18_; clear m18_; clear BK20; have BK20 := Aside0.mk hbk; clear hbk hg) | (go_at_call 27; go_loud ((with_reducible refine Calls.mono (note_rs _ _ g17 id R.out HGB.out BK17.out HLB.out) ?_); rintro e w_n ⟨rfl, A9, c9, r9, k9⟩; have n0_ := Aside0.mk (RS.len r9 HL.out); clear R HL HLB; have HL := n0_; have HLB := Aside0.mk (Nat.le_trans HL.out (by have := HMB.out; omega) : _ ≤ 10000000); have R := Aside0.mk r9; clear n0_ r9; have m17_ := Aside0.mk (k9 _ _ _ (by decide) (Ne.symm NO17.out) BK17.out); clear BK17; have BK17 := m17_; clear m17_; clear k9)))
     all_goals
      go_roundg g
      case measure => omega
      case rel =>
       have hR := R.out
       have e : L ++ chg Mx My id = _ := (by unfold chg; rw [HGX.out, HGY.out])
       exact ⟨j + 1, _, _, by have := HLN.out; have := HJL.out; exact congrArg (Value.int .i64) (show wrap64 ((j : Int) + 1) = ((j + 1 : Nat) : Int) from by unfold wrap64; omega), by have := HJ.out; omega, ⟨by rw [HTK.out, e]; simpa using hR⟩⟩
    | some b' =>
     have HGY := Aside0.mk hgy
     clear hgx hgy
     go_wp2_with (first | ((with_reducible refine gate_dst (N := 17) rfl ?_); refine box_event ?hg (N := 17) ?hd (cs := #[.int .i64 0]) (t := 3) ?hr ?_; (case hd => rfl); (case hg => rfl); (case hr => first | (go_simp; done) | (go_simp; rfl)); intro g17 hg w_17 hbox hb; have GE17 := Aside0.mk (by rw [hg]; exact R.out.hs : w6.heap.size ≤ g17); have NO17 := Aside0.mk (by have := blk_lt R.out.ho; omega : g15 ≠ g17); have n0_ := Aside0.mk (R.out.below hb); clear R; have R := n0_; clear n0_; clear hcx; have BK17 := Aside0.mk hbox; clear hbox hb hg; have z170 := (blk_cell BK17.out 0).trans rfl; have y170 := blk_frozen BK17.out 0) | ((with_reducible refine settle1 BK17.out ?_); intro w_17s hbk hg; clear z170 y170; have n0_ := Aside0.mk (R.out.own hg GE17.out NO17.out BK17.out (by decide)); clear R; have R := n0_; clear n0_; clear BK17; have BK17 := Aside0.mk hbk; clear hbk hg; have z170 := (blk_cell BK17.out 0).trans rfl) | ((with_reducible refine wpList_lookT_none (z := .agg #[.int .i64 0, .string ⟨#[]⟩, .slice none 0 0, .slice none 0 0]) rfl (.tmp 55) (.tmp 56) rfl (KeyOk.int Try.underlying3) Try.underlying52 (by kernel_rfl) rfl (HXM.out _ R.out.hb) id rfl HGX.out ?_)) | ((with_reducible refine gate_dst (N := 18) rfl ?_); refine box_event ?hg (N := 18) ?hd (cs := #[.int .i64 0, .string (⟨#[]⟩ : ByteArray), .slice none 0 0, .slice none 0 0]) (t := 59) ?hr ?_; (case hd => rfl); (case hg => rfl); (case hr => first | (go_simp; done) | (go_simp; rfl)); intro g18 hg w_18 hbox hb; have GE18 := Aside0.mk (by rw [hg]; exact R.out.hs : w6.heap.size ≤ g18); have NO18 := Aside0.mk (by have := blk_lt R.out.ho; omega : g15 ≠ g18); have NE17_18 := Aside0.mk (by have := blk_lt BK17.out; omega : g17 ≠ g18); have n0_ := Aside0.mk (R.out.below hb); clear R; have R := n0_; clear n0_; clear z170; have m17_ := Aside0.mk (blk_below BK17.out hb); clear BK17; have BK17 := m17_; clear m17_; have BK18 := Aside0.mk hbox; clear hbox hb hg; have z180 := (blk_cell BK18.out 0).trans rfl; have z181 := (blk_cell BK18.out 1).trans rfl; have z182 := (blk_cell BK18.out 2).trans rfl; have z183 := (blk_cell BK18.out 3).trans rfl; have y180 := blk_frozen BK18.out 0; have y181 := blk_frozen BK18.out 1; have y182 := blk_frozen BK18.out 2; have y183 := blk_frozen BK18.out 3) | ((with_reducible refine settle4 BK18.out ?_); intro w_18s hbk hg; clear z180 z181 z182 z183 y180 y181 y182 y183; have n0_ := Aside0.mk (R.out.own hg GE18.out NO18.out BK18.out (by decide)); clear R; have R := n0_; clear n0_; have m17_ := Aside0.mk (blk_grown BK17.out hg (fun e => NE17_18.out (by injection e))); clear BK17; have BK17 := m17_; clear m17_; clear BK18; have BK18 := Aside0.mk hbk; clear hbk hg; have z170 := (blk_cell BK17.out 0).trans rfl) | ((with_reducible refine wpList_lookT_some (z := .agg #[.int .i64 0, .string ⟨#[]⟩, .slice none 0 0, .slice none 0 0]) rfl (.tmp 61) (.tmp 62) rfl (KeyOk.int Try.underlying3) Try.underlying52 (by kernel_rfl) rfl (HYM.out _ R.out.hb) id rfl b' HGY.out ?_); intro v_b hv; obtain ⟨AB2, cB2, AB3, cB3, rfl, lb2, fb2, lb3, fb3⟩ := hv; have RW := Aside0.mk R.out.hb; have FB2 := Aside0.mk (fun (W' : World) (hW' : Below w6.heap.size w8 W') => Kd.F_now (Kd.F_step (W1 := W') fb2 (fun k hk _ => ((H4.out _ hW').block k hk).trans ((H4.out _ RW.out).block k hk).symm))); have FB3 := Aside0.mk (fun (W' : World) (hW' : Below w6.heap.size w8 W') => Kd.F_now (Kd.F_step (W1 := W') fb3 (fun k hk _ => ((H4.out _ hW').block k hk).trans ((H4.out _ RW.out).block k hk).symm))); have LB2 := Aside0.mk lb2; have LB3 := Aside0.mk lb3; clear lb2 fb2 lb3 fb3 RW) | ((with_reducible refine gate_dst (N := 20) rfl ?_); refine box_event ?hg (N := 20) ?hd (cs := #[.int .i64 0, .string (⟨#[]⟩ : ByteArray), .slice none 0 0, .slice none 0 0]) (t := 59) ?hr ?_; (case hd => rfl); (case hg => rfl); (case hr => first | (go_simp; done) | (go_simp; rfl)); intro g20 hg w_20 hbox hb; have GE20 := Aside0.mk (by rw [hg]; exact R.out.hs : w6.heap.size ≤ g20); have NO20 := Aside0.mk (by have := blk_lt R.out.ho; omega : g15 ≠ g20); have NE17_20 := Aside0.mk (by have := blk_lt BK17.out; omega : g17 ≠ g20); have NE18_20 := Aside0.mk (by have := blk_lt BK18.out; omega : g18 ≠ g20); have n0_ := Aside0.mk (R.out.below hb); clear R; have R := n0_; clear n0_; clear z170; have m17_ := Aside0.mk (blk_below BK17.out hb); have m18_ := Aside0.mk (blk_below BK18.out hb); clear BK17 BK18; have BK17 := m17_; clear m17_; have BK18 := m18_; clear m18_; have BK20 := Aside0.mk hbox; clear hbox hb hg; have z200 := (blk_cell BK20.out 0).trans rfl; have z201 := (blk_cell BK20.out 1).trans rfl; have z202 := (blk_cell BK20.out 2).trans rfl; have z203 := (blk_cell BK20.out 3).trans rfl; have y200 := blk_frozen BK20.out 0; have y201 := blk_frozen BK20.out 1; have y202 := blk_frozen BK20.out 2; have y203 := blk_frozen BK20.out 3) | ((with_reducible refine settle4 BK20.out ?_); intro w_20s hbk hg; clear z200 z201 z202 z203 y200 y201 y202 y203; have n0_ := Aside0.mk (R.out.own hg GE20.out NO20.out BK20.out (by decide)); clear R; have R := n0_; clear n0_; have m17_ := Aside0.mk (blk_grown BK17.out hg (fun e => NE17_20.out (by injection e))); have m18_ := Aside0.mk (blk_grown BK18.out hg (fun e => NE18_20.out (by injection e))); clear BK17 BK18; have BK17 := m17_; clear m17_; have BK18 := m18_; clear m18_; clear BK20; have BK20 := Aside0.mk hbk; clear hbk hg) | (go_at_call 27; go_loud ((with_reducible refine Calls.mono (note_rs _ _ g17 id R.out HGB.out BK17.out HLB.out) ?_); rintro e w_n ⟨rfl, A9, c9, r9, k9⟩; have n0_ := Aside0.mk (RS.len r9 HL.out); clear R HL HLB; have HL := n0_; have HLB := Aside0.mk (Nat.le_trans HL.out (by have := HMB.out; omega) : _ ≤ 10000000); have R := Aside0.mk r9; clear n0_ r9; have m17_ := Aside0.mk (k9 _ _ _ (by decide) (Ne.symm NO17.out) BK17.out); clear BK17; have BK17 := m17_; clear m17_; clear k9)))
     all_goals
      go_roundg g
      case measure => omega
      case rel =>
       have hR := R.out
       have e : L ++ chg Mx My id = _ := (by unfold chg; rw [HGX.out, HGY.out])
       exact ⟨j + 1, _, _, by have := HLN.out; have := HJL.out; exact congrArg (Value.int .i64) (show wrap64 ((j : Int) + 1) = ((j + 1 : Nat) : Int) from by unfold wrap64; omega), by have := HJ.out; omega, ⟨by rw [HTK.out, e]; simpa using hR⟩⟩
   | some a =>
    have HGX := Aside0.mk hgx
    cases hgy : glook My id with
    | none =>
     have HGY := Aside0.mk hgy
     clear hgx hgy
     go_wp2_with (first | ((with_reducible refine gate_dst (N := 17) rfl ?_); refine box_event ?hg (N := 17) ?hd (cs := #[.int .i64 0]) (t := 3) ?hr ?_; (case hd => rfl); (case hg => rfl); (case hr => first | (go_simp; done) | (go_simp; rfl)); intro g17 hg w_17 hbox hb; have GE17 := Aside0.mk (by rw [hg]; exact R.out.hs : w6.heap.size ≤ g17); have NO17 := Aside0.mk (by have := blk_lt R.out.ho; omega : g15 ≠ g17); have n0_ := Aside0.mk (R.out.below hb); clear R; have R := n0_; clear n0_; clear hcx; have BK17 := Aside0.mk hbox; clear hbox hb hg; have z170 := (blk_cell BK17.out 0).trans rfl; have y170 := blk_frozen BK17.out 0) | ((with_reducible refine settle1 BK17.out ?_); intro w_17s hbk hg; clear z170 y170; have n0_ := Aside0.mk (R.out.own hg GE17.out NO17.out BK17.out (by decide)); clear R; have R := n0_; clear n0_; clear BK17; have BK17 := Aside0.mk hbk; clear hbk hg; have z170 := (blk_cell BK17.out 0).trans rfl) | ((with_reducible refine wpList_lookT_some (z := .agg #[.int .i64 0, .string ⟨#[]⟩, .slice none 0 0, .slice none 0 0]) rfl (.tmp 55) (.tmp 56) rfl (KeyOk.int Try.underlying3) Try.underlying52 (by kernel_rfl) rfl (HXM.out _ R.out.hb) id rfl a HGX.out ?_); intro v_a hv; obtain ⟨AA2, cA2, AA3, cA3, rfl, la2, fa2, la3, fa3⟩ := hv; have RW := Aside0.mk R.out.hb; have FA2 := Aside0.mk (fun (W' : World) (hW' : Below w6.heap.size w8 W') => Kd.F_now (Kd.F_step (W1 := W') fa2 (fun k hk _ => ((H4.out _ hW').block k hk).trans ((H4.out _ RW.out).block k hk).symm))); have FA3 := Aside0.mk (fun (W' : World) (hW' : Below w6.heap.size w8 W') => Kd.F_now (Kd.F_step (W1 := W') fa3 (fun k hk _ => ((H4.out _ hW').block k hk).trans ((H4.out _ RW.out).block k hk).symm))); have LA2 := Aside0.mk la2; have LA3 := Aside0.mk la3; clear la2 fa2 la3 fa3 RW) | ((with_reducible refine gate_dst (N := 18) rfl ?_); refine box_event ?hg (N := 18) ?hd (cs := #[.int .i64 0, .string (⟨#[]⟩ : ByteArray), .slice none 0 0, .slice none 0 0]) (t := 59) ?hr ?_; (case hd => rfl); (case hg => rfl); (case hr => first | (go_simp; done) | (go_simp; rfl)); intro g18 hg w_18 hbox hb; have GE18 := Aside0.mk (by rw [hg]; exact R.out.hs : w6.heap.size ≤ g18); have NO18 := Aside0.mk (by have := blk_lt R.out.ho; omega : g15 ≠ g18); have NE17_18 := Aside0.mk (by have := blk_lt BK17.out; omega : g17 ≠ g18); have n0_ := Aside0.mk (R.out.below hb); clear R; have R := n0_; clear n0_; clear z170; have m17_ := Aside0.mk (blk_below BK17.out hb); clear BK17; have BK17 := m17_; clear m17_; have BK18 := Aside0.mk hbox; clear hbox hb hg; have z180 := (blk_cell BK18.out 0).trans rfl; have z181 := (blk_cell BK18.out 1).trans rfl; have z182 := (blk_cell BK18.out 2).trans rfl; have z183 := (blk_cell BK18.out 3).trans rfl; have y180 := blk_frozen BK18.out 0; have y181 := blk_frozen BK18.out 1; have y182 := blk_frozen BK18.out 2; have y183 := blk_frozen BK18.out 3) | ((with_reducible refine settle4 BK18.out ?_); intro w_18s hbk hg; clear z180 z181 z182 z183 y180 y181 y182 y183; have n0_ := Aside0.mk (R.out.own hg GE18.out NO18.out BK18.out (by decide)); clear R; have R := n0_; clear n0_; have m17_ := Aside0.mk (blk_grown BK17.out hg (fun e => NE17_18.out (by injection e))); clear BK17; have BK17 := m17_; clear m17_; clear BK18; have BK18 := Aside0.mk hbk; clear hbk hg; have z170 := (blk_cell BK17.out 0).trans rfl) | ((with_reducible refine wpList_lookT_none (z := .agg #[.int .i64 0, .string ⟨#[]⟩, .slice none 0 0, .slice none 0 0]) rfl (.tmp 61) (.tmp 62) rfl (KeyOk.int Try.underlying3) Try.underlying52 (by kernel_rfl) rfl (HYM.out _ R.out.hb) id rfl HGY.out ?_)) | ((with_reducible refine gate_dst (N := 20) rfl ?_); refine box_event ?hg (N := 20) ?hd (cs := #[.int .i64 0, .string (⟨#[]⟩ : ByteArray), .slice none 0 0, .slice none 0 0]) (t := 59) ?hr ?_; (case hd => rfl); (case hg => rfl); (case hr => first | (go_simp; done) | (go_simp; rfl)); intro g20 hg w_20 hbox hb; have GE20 := Aside0.mk (by rw [hg]; exact R.out.hs : w6.heap.size ≤ g20); have NO20 := Aside0.mk (by have := blk_lt R.out.ho; omega : g15 ≠ g20); have NE17_20 := Aside0.mk (by have := blk_lt BK17.out; omega : g17 ≠ g20); have NE18_20 := Aside0.mk (by have := blk_lt BK18.out; omega : g18 ≠ g20); have n0_ := Aside0.mk (R.out.below hb); clear R; have R := n0_; clear n0_; clear z170; have m17_ := Aside0.mk (blk_below BK17.out hb); have m18_ := Aside0.mk (blk_below BK18.out hb); clear BK17 BK18; have BK17 := m17_; clear m17_; have BK18 := m18_; clear m18_; have BK20 := Aside0.mk hbox; clear hbox hb hg; have z200 := (blk_cell BK20.out 0).trans rfl; have z201 := (blk_cell BK20.out 1).trans rfl; have z202 := (blk_cell BK20.out 2).trans rfl; have z203 := (blk_cell BK20.out 3).trans rfl; have y200 := blk_frozen BK20.out 0; have y201 := blk_frozen BK20.out 1; have y202 := blk_frozen BK20.out 2; have y203 := blk_frozen BK20.out 3) | ((with_reducible refine settle4 BK20.out ?_); intro w_20s hbk hg; clear z200 z201 z202 z203 y200 y201 y202 y203; have n0_ := Aside0.mk (R.out.own hg GE20.out NO20.out BK20.out (by decide)); clear R; have R := n0_; clear n0_; have m17_ := Aside0.mk (blk_grown BK17.out hg (fun e => NE17_20.out (by injection e))); have m18_ := Aside0.mk (blk_grown BK18.out hg (fun e => NE18_20.out (by injection e))); clear BK17 BK18; have BK17 := m17_; clear m17_; have BK18 := m18_; clear m18_; clear BK20; have BK20 := Aside0.mk hbk; clear hbk hg) | (go_at_call 27; go_loud ((with_reducible refine Calls.mono (note_rs _ _ g17 id R.out HGB.out BK17.out HLB.out) ?_); rintro e w_n ⟨rfl, A9, c9, r9, k9⟩; have n0_ := Aside0.mk (RS.len r9 HL.out); clear R HL HLB; have HL := n0_; have HLB := Aside0.mk (Nat.le_trans HL.out (by have := HMB.out; omega) : _ ≤ 10000000); have R := Aside0.mk r9; clear n0_ r9; have m17_ := Aside0.mk (k9 _ _ _ (by decide) (Ne.symm NO17.out) BK17.out); clear BK17; have BK17 := m17_; clear m17_; clear k9)))
     all_goals
      go_roundg g
      case measure => omega
      case rel =>
       have hR := R.out
       have e : L ++ chg Mx My id = _ := (by unfold chg; rw [HGX.out, HGY.out])
       exact ⟨j + 1, _, _, by have := HLN.out; have := HJL.out; exact congrArg (Value.int .i64) (show wrap64 ((j : Int) + 1) = ((j + 1 : Nat) : Int) from by unfold wrap64; omega), by have := HJ.out; omega, ⟨by rw [HTK.out, e]; simpa using hR⟩⟩
    | some b' =>
     have HGY := Aside0.mk hgy
     have HF2 := Aside0.mk (HFX.out id a hgx).1
     have HF3 := Aside0.mk (HFX.out id a hgx).2
     clear hgx hgy
     go_wp2_with (first | ((with_reducible refine gate_dst (N := 17) rfl ?_); refine box_event ?hg (N := 17) ?hd (cs := #[.int .i64 0]) (t := 3) ?hr ?_; (case hd => rfl); (case hg => rfl); (case hr => first | (go_simp; done) | (go_simp; rfl)); intro g17 hg w_17 hbox hb; have GE17 := Aside0.mk (by rw [hg]; exact R.out.hs : w6.heap.size ≤ g17); have NO17 := Aside0.mk (by have := blk_lt R.out.ho; omega : g15 ≠ g17); have n0_ := Aside0.mk (R.out.below hb); clear R; have R := n0_; clear n0_; clear hcx; have BK17 := Aside0.mk hbox; clear hbox hb hg; have z170 := (blk_cell BK17.out 0).trans rfl; have y170 := blk_frozen BK17.out 0) | ((with_reducible refine settle1 BK17.out ?_); intro w_17s hbk hg; clear z170 y170; have n0_ := Aside0.mk (R.out.own hg GE17.out NO17.out BK17.out (by decide)); clear R; have R := n0_; clear n0_; clear BK17; have BK17 := Aside0.mk hbk; clear hbk hg; have z170 := (blk_cell BK17.out 0).trans rfl) | ((with_reducible refine wpList_lookT_some (z := .agg #[.int .i64 0, .string ⟨#[]⟩, .slice none 0 0, .slice none 0 0]) rfl (.tmp 55) (.tmp 56) rfl (KeyOk.int Try.underlying3) Try.underlying52 (by kernel_rfl) rfl (HXM.out _ R.out.hb) id rfl a HGX.out ?_); intro v_a hv; obtain ⟨AA2, cA2, AA3, cA3, rfl, la2, fa2, la3, fa3⟩ := hv; have RW := Aside0.mk R.out.hb; have FA2 := Aside0.mk (fun (W' : World) (hW' : Below w6.heap.size w8 W') => Kd.F_now (Kd.F_step (W1 := W') fa2 (fun k hk _ => ((H4.out _ hW').block k hk).trans ((H4.out _ RW.out).block k hk).symm))); have FA3 := Aside0.mk (fun (W' : World) (hW' : Below w6.heap.size w8 W') => Kd.F_now (Kd.F_step (W1 := W') fa3 (fun k hk _ => ((H4.out _ hW').block k hk).trans ((H4.out _ RW.out).block k hk).symm))); have LA2 := Aside0.mk la2; have LA3 := Aside0.mk la3; clear la2 fa2 la3 fa3 RW) | ((with_reducible refine gate_dst (N := 18) rfl ?_); refine box_event ?hg (N := 18) ?hd (cs := #[.int .i64 0, .string (⟨#[]⟩ : ByteArray), .slice none 0 0, .slice none 0 0]) (t := 59) ?hr ?_; (case hd => rfl); (case hg => rfl); (case hr => first | (go_simp; done) | (go_simp; rfl)); intro g18 hg w_18 hbox hb; have GE18 := Aside0.mk (by rw [hg]; exact R.out.hs : w6.heap.size ≤ g18); have NO18 := Aside0.mk (by have := blk_lt R.out.ho; omega : g15 ≠ g18); have NE17_18 := Aside0.mk (by have := blk_lt BK17.out; omega : g17 ≠ g18); have n0_ := Aside0.mk (R.out.below hb); clear R; have R := n0_; clear n0_; clear z170; have m17_ := Aside0.mk (blk_below BK17.out hb); clear BK17; have BK17 := m17_; clear m17_; have BK18 := Aside0.mk hbox; clear hbox hb hg; have z180 := (blk_cell BK18.out 0).trans rfl; have z181 := (blk_cell BK18.out 1).trans rfl; have z182 := (blk_cell BK18.out 2).trans rfl; have z183 := (blk_cell BK18.out 3).trans rfl; have y180 := blk_frozen BK18.out 0; have y181 := blk_frozen BK18.out 1; have y182 := blk_frozen BK18.out 2; have y183 := blk_frozen BK18.out 3) | ((with_reducible refine settle4 BK18.out ?_); intro w_18s hbk hg; clear z180 z181 z182 z183 y180 y181 y182 y183; have n0_ := Aside0.mk (R.out.own hg GE18.out NO18.out BK18.out (by decide)); clear R; have R := n0_; clear n0_; have m17_ := Aside0.mk (blk_grown BK17.out hg (fun e => NE17_18.out (by injection e))); clear BK17; have BK17 := m17_; clear m17_; clear BK18; have BK18 := Aside0.mk hbk; clear hbk hg; have z170 := (blk_cell BK17.out 0).trans rfl) | ((with_reducible refine wpList_lookT_some (z := .agg #[.int .i64 0, .string ⟨#[]⟩, .slice none 0 0, .slice none 0 0]) rfl (.tmp 61) (.tmp 62) rfl (KeyOk.int Try.underlying3) Try.underlying52 (by kernel_rfl) rfl (HYM.out _ R.out.hb) id rfl b' HGY.out ?_); intro v_b hv; obtain ⟨AB2, cB2, AB3, cB3, rfl, lb2, fb2, lb3, fb3⟩ := hv; have RW := Aside0.mk R.out.hb; have FB2 := Aside0.mk (fun (W' : World) (hW' : Below w6.heap.size w8 W') => Kd.F_now (Kd.F_step (W1 := W') fb2 (fun k hk _ => ((H4.out _ hW').block k hk).trans ((H4.out _ RW.out).block k hk).symm))); have FB3 := Aside0.mk (fun (W' : World) (hW' : Below w6.heap.size w8 W') => Kd.F_now (Kd.F_step (W1 := W') fb3 (fun k hk _ => ((H4.out _ hW').block k hk).trans ((H4.out _ RW.out).block k hk).symm))); have LB2 := Aside0.mk lb2; have LB3 := Aside0.mk lb3; clear lb2 fb2 lb3 fb3 RW) | ((with_reducible refine gate_dst (N := 20) rfl ?_); refine box_event ?hg (N := 20) ?hd (cs := #[.int .i64 0, .string (⟨#[]⟩ : ByteArray), .slice none 0 0, .slice none 0 0]) (t := 59) ?hr ?_; (case hd => rfl); (case hg => rfl); (case hr => first | (go_simp; done) | (go_simp; rfl)); intro g20 hg w_20 hbox hb; have GE20 := Aside0.mk (by rw [hg]; exact R.out.hs : w6.heap.size ≤ g20); have NO20 := Aside0.mk (by have := blk_lt R.out.ho; omega : g15 ≠ g20); have NE17_20 := Aside0.mk (by have := blk_lt BK17.out; omega : g17 ≠ g20); have NE18_20 := Aside0.mk (by have := blk_lt BK18.out; omega : g18 ≠ g20); have n0_ := Aside0.mk (R.out.below hb); clear R; have R := n0_; clear n0_; clear z170; have m17_ := Aside0.mk (blk_below BK17.out hb); have m18_ := Aside0.mk (blk_below BK18.out hb); clear BK17 BK18; have BK17 := m17_; clear m17_; have BK18 := m18_; clear m18_; have BK20 := Aside0.mk hbox; clear hbox hb hg; have z200 := (blk_cell BK20.out 0).trans rfl; have z201 := (blk_cell BK20.out 1).trans rfl; have z202 := (blk_cell BK20.out 2).trans rfl; have z203 := (blk_cell BK20.out 3).trans rfl; have y200 := blk_frozen BK20.out 0; have y201 := blk_frozen BK20.out 1; have y202 := blk_frozen BK20.out 2; have y203 := blk_frozen BK20.out 3) | ((with_reducible refine settle4 BK20.out ?_); intro w_20s hbk hg; clear z200 z201 z202 z203 y200 y201 y202 y203; have n0_ := Aside0.mk (R.out.own hg GE20.out NO20.out BK20.out (by decide)); clear R; have R := n0_; clear n0_; have m17_ := Aside0.mk (blk_grown BK17.out hg (fun e => NE17_20.out (by injection e))); have m18_ := Aside0.mk (blk_grown BK18.out hg (fun e => NE18_20.out (by injection e))); clear BK17 BK18; have BK17 := m17_; clear m17_; have BK18 := m18_; clear m18_; clear BK20; have BK20 := Aside0.mk hbk; clear hbk hg; have z180 := (blk_cell BK18.out 0).trans rfl; have z181 := (blk_cell BK18.out 1).trans rfl; have z182 := (blk_cell BK18.out 2).trans rfl; have z183 := (blk_cell BK18.out 3).trans rfl; have z200 := (blk_cell BK20.out 0).trans rfl; have z201 := (blk_cell BK20.out 1).trans rfl; have z202 := (blk_cell BK20.out 2).trans rfl; have z203 := (blk_cell BK20.out 3).trans rfl) | (go_at_call 27; go_loud ((with_reducible refine Calls.mono (note_rs _ _ g17 id R.out HGB.out BK17.out HLB.out) ?_); rintro e w_n ⟨rfl, A9, c9, r9, k9⟩; clear z180 z181 z182 z183; clear z200 z201 z202 z203; have n0_ := Aside0.mk (RS.len r9 HL.out); clear R HL HLB; have HL := n0_; have HLB := Aside0.mk (Nat.le_trans HL.out (by have := HMB.out; omega) : _ ≤ 10000000); have R := Aside0.mk r9; clear n0_ r9; have m17_ := Aside0.mk (k9 _ _ _ (by decide) (Ne.symm NO17.out) BK17.out); have m18_ := Aside0.mk (k9 _ _ _ (by decide) (Ne.symm NO18.out) BK18.out); have m20_ := Aside0.mk (k9 _ _ _ (by decide) (Ne.symm NO20.out) BK20.out); clear BK17 BK18 BK20; have BK17 := m17_; clear m17_; have BK18 := m18_; clear m18_; have BK20 := m20_; clear m20_; clear k9; have z180 := (blk_cell BK18.out 0).trans rfl; have z181 := (blk_cell BK18.out 1).trans rfl; have z182 := (blk_cell BK18.out 2).trans rfl; have z183 := (blk_cell BK18.out 3).trans rfl; have z200 := (blk_cell BK20.out 0).trans rfl; have z201 := (blk_cell BK20.out 1).trans rfl; have z202 := (blk_cell BK20.out 2).trans rfl; have z203 := (blk_cell BK20.out 3).trans rfl)) | (go_at_call 28; ((with_reducible refine (equalS_calls _ _ a.gaps _ _ b'.gaps _ (FA2.out _ R.out.hb) LA2.out (FB2.out _ R.out.hb) LB2.out HF2.out).mono ?_); rintro e w_q ⟨rfl, hbq⟩; clear z180 z181 z182 z183; clear z200 z201 z202 z203; have n0_ := Aside0.mk (R.out.below hbq); clear R; have R := n0_; clear n0_; have m17_ := Aside0.mk (blk_below BK17.out hbq); have m18_ := Aside0.mk (blk_below BK18.out hbq); have m20_ := Aside0.mk (blk_below BK20.out hbq); clear BK17 BK18 BK20; have BK17 := m17_; clear m17_; have BK18 := m18_; clear m18_; have BK20 := m20_; clear m20_; clear hbq; have z180 := (blk_cell BK18.out 0).trans rfl; have z181 := (blk_cell BK18.out 1).trans rfl; have z182 := (blk_cell BK18.out 2).trans rfl; have z183 := (blk_cell BK18.out 3).trans rfl; have z200 := (blk_cell BK20.out 0).trans rfl; have z201 := (blk_cell BK20.out 1).trans rfl; have z202 := (blk_cell BK20.out 2).trans rfl; have z203 := (blk_cell BK20.out 3).trans rfl)) | (go_at_call 29; ((with_reducible refine (equalI_calls _ _ a.kids _ _ b'.kids _ (FA3.out _ R.out.hb) LA3.out (FB3.out _ R.out.hb) LB3.out HF3.out).mono ?_); rintro e w_q ⟨rfl, hbq⟩; clear z180 z181 z182 z183; clear z200 z201 z202 z203; have n0_ := Aside0.mk (R.out.below hbq); clear R; have R := n0_; clear n0_; have m17_ := Aside0.mk (blk_below BK17.out hbq); have m18_ := Aside0.mk (blk_below BK18.out hbq); have m20_ := Aside0.mk (blk_below BK20.out hbq); clear BK17 BK18 BK20; have BK17 := m17_; clear m17_; have BK18 := m18_; clear m18_; have BK20 := m20_; clear m20_; clear hbq; have z180 := (blk_cell BK18.out 0).trans rfl; have z181 := (blk_cell BK18.out 1).trans rfl; have z182 := (blk_cell BK18.out 2).trans rfl; have z183 := (blk_cell BK18.out 3).trans rfl; have z200 := (blk_cell BK20.out 0).trans rfl; have z201 := (blk_cell BK20.out 1).trans rfl; have z202 := (blk_cell BK20.out 2).trans rfl; have z203 := (blk_cell BK20.out 3).trans rfl)))
     all_goals
      go_roundg g
      case measure => omega
      case rel =>
       refine ⟨j + 1, _, _, by have := HLN.out; have := HJL.out; exact congrArg (Value.int .i64) (show wrap64 ((j : Int) + 1) = ((j + 1 : Nat) : Int) from by unfold wrap64; omega), by have := HJ.out; omega, ⟨RS.cast ?_ R.out⟩⟩
       rw [HTK.out]
       unfold chg
       rw [HGX.out, HGY.out]
       by_cases h1 : a.par = b'.par <;> by_cases h2 : a.txt = b'.txt <;> by_cases h3 : a.gaps = b'.gaps <;> by_cases h4 : a.kids = b'.kids <;> simp [h1, h2, h3, h4, toList_inj]

def change_List.f (a0_0 : Int) (a0_1 : ByteArray) (l0_2 : List ByteArray) (l0_3 : List (S25)) (a1_0 : Int) (a1_1 : ByteArray) (l1_2 : List ByteArray) (l1_3 : List (S25)) (l2 : List Int) (l3 : List Int) : Option ((List (S48)) × Int) :=
 if treeOk (⟨a0_0, a0_1, l0_2, l0_3⟩ : S25) && (treeOk (⟨a1_0, a1_1, l1_2, l1_3⟩ : S25) && (decide (l2.length ≤ 400000) && decide (l3.length ≤ 400000))) then
  some (if (factsOk (rowsT (⟨a0_0, a0_1, l0_2, l0_3⟩ : S25) (-1) 0) l2 && factsOk (rowsT (⟨a1_0, a1_1, l1_2, l1_3⟩ : S25) (-1) 0) l3) = true then (listF (factsTo (rowsT (⟨a0_0, a0_1, l0_2, l0_3⟩ : S25) (-1) 0) l2 l2.length) (factsTo (rowsT (⟨a1_0, a1_1, l1_2, l1_3⟩ : S25) (-1) 0) l3 l3.length) (ascL (l2 ++ l3)), 0) else ([], 15))
 else none
theorem change_List.calls (a0_0 : Int) (a0_1 : ByteArray) (A0_2 : Option Addr) (c0_2 : Nat) (l0_2 : List ByteArray) (A0_3 : Option Addr) (c0_3 : Nat) (l0_3 : List (S25)) (a1_0 : Int) (a1_1 : ByteArray) (A1_2 : Option Addr) (c1_2 : Nat) (l1_2 : List ByteArray) (A1_3 : Option Addr) (c1_3 : Nat) (l1_3 : List (S25)) (A2 : Option Addr) (c2 : Nat) (l2 : List Int) (A3 : Option Addr) (c3 : Nat) (l3 : List Int) (r1 : List (S48)) (r2 : Int) (w : World) (hr0_2 : Kd.C Kd.string w A0_2 l0_2.length l0_2) (hc0_2 : l0_2.length ≤ c0_2) (hr0_3 : Kd.C k25 w A0_3 l0_3.length l0_3) (hc0_3 : l0_3.length ≤ c0_3) (hr1_2 : Kd.C Kd.string w A1_2 l1_2.length l1_2) (hc1_2 : l1_2.length ≤ c1_2) (hr1_3 : Kd.C k25 w A1_3 l1_3.length l1_3) (hc1_3 : l1_3.length ≤ c1_3) (hr2 : Kd.C (Kd.int .i64) w A2 l2.length l2) (hc2 : l2.length ≤ c2) (hr3 : Kd.C (Kd.int .i64) w A3 l3.length l3) (hc3 : l3.length ≤ c3) (h : change_List.f a0_0 a0_1 l0_2 l0_3 a1_0 a1_1 l1_2 l1_3 l2 l3 = some (r1, r2)) :
  Calls Try.prog 10 #[.agg #[.int .i64 a0_0, .string a0_1, .slice A0_2 l0_2.length c0_2, .slice A0_3 l0_3.length c0_3], .agg #[.int .i64 a1_0, .string a1_1, .slice A1_2 l1_2.length c1_2, .slice A1_3 l1_3.length c1_3], .slice A2 l2.length c2, .slice A3 l3.length c3] w fun e w' => ∃ v0_ : Value, e = .returned (.tuple #[v0_, .int .i64 r2]) ∧ Kd.R k48 48 w' w.heap.size (fun _ => True) v0_ r1 ∧ Below w.heap.size w w' := by
 unfold change_List.f at h
 split at h
 case isFalse => cases h
 rename_i hok
 simp only [Bool.and_eq_true, decide_eq_true_eq] at hok
 have h1 := Option.some.inj h
 refine (list31_calls ⟨a0_0, a0_1, l0_2, l0_3⟩ ⟨a1_0, a1_1, l1_2, l1_3⟩ l2 l3 A0_2 c0_2 A0_3 c0_3 A1_2 c1_2 A1_3 c1_3 A2 c2 A3 c3 w hr0_2 hc0_2 hr0_3 hc0_3 hr1_2 hc1_2 hr1_3 hc1_3 hr2 hc2 hr3 hc3 hok.1 hok.2.1 hok.2.2.1 hok.2.2.2).mono ?_
 rintro e w' ⟨v, r, rfl, hr, hR, hB⟩
 rw [idsOf_eq] at hr
 split at h1
 ·rename_i hc
  rw [if_pos hc] at hr ⊢
  obtain ⟨rfl, rfl⟩ := Prod.mk.inj h1
  exact ⟨v, rfl, by rw [← hr]; exact hR, hB⟩
 ·rename_i hc
  rw [if_neg hc] at hr ⊢
  obtain ⟨rfl, rfl⟩ := Prod.mk.inj h1
  exact ⟨v, rfl, by rw [← hr]; exact hR, hB⟩

end Go.Proofs.Ytcfjdehpbckomaa.Q
