/- A book of decisions in memory: delete on its map, has, Find, New and List: proved here by steps through the program's text; no condition but those that stand in each theorem. -/
import Derived.WalkSpells
import Derived.Deep.RegionLaw
import Derived.Lib.OthersKept
import Derived.Test.YtfajgjmhfpabiaaDoorShelf
import Derived.Test.YtfajgjmhfpabiaaDoorQ0
import Derived.Test.YtfajgjmhfpabiaaDoorQ4
import Derived.Test.YtfajgjmhfpabiaaDoorQ5
namespace Go.Proofs.YtfajgjmhfpabiaaDoor.Scratch
set_option linter.unusedVariables false
open Go.RowKit Go.Proofs.YtfajgjmhfpabiaaDoorW.PrintWords Go.Proofs.YtfajgjmhfpabiaaDoorW.PrintLast Go.Proofs.YtfajgjmhfpabiaaDoorW.PrintMore Go.Proofs.YtfajgjmhfpabiaaDoor.Q
attribute [local go_sem] max2_int min2_int max_two min_two max_three min_three max_four min_four
theorem mput_keys {κ : Type} [DecidableEq κ] : ∀ (l : List (κ × Value)) (k : κ) (v : Value), (mput l k v).map (fun p => p.1) = if k ∈ l.map (fun p => p.1) then l.map (fun p => p.1) else l.map (fun p => p.1) ++ [k]
  | [], k, v => by simp [mput]
  | p :: l, k, v => by
    rw [mput]
    by_cases h : k = p.1
    · rw [if_pos h, if_pos (by rw [h]; simp)]
      simp [h]
    · rw [if_neg h, List.map_cons, mput_keys l k v, List.map_cons]
      by_cases q : k ∈ l.map (fun p => p.1)
      · rw [if_pos q, if_pos (List.mem_cons_of_mem _ q)]
      · rw [if_neg q, if_neg (by rw [List.mem_cons]; exact fun e => e.elim h q)]
        rfl
theorem mput_nodup {κ : Type} [DecidableEq κ] (l : List (κ × Value)) (k : κ) (v : Value) (h : (l.map fun p => p.1).Nodup) : ((mput l k v).map fun p => p.1).Nodup := by
  rw [mput_keys]
  split
  · exact h
  · rename_i q
    exact List.nodup_append.2 ⟨h, by simp, fun a ha b hb e => by simp at hb; exact q (by rw [← hb, ← e]; exact ha)⟩
theorem mdel_none {κ : Type} [DecidableEq κ] : ∀ (l : List (κ × Value)) (k : κ) (i : Nat), mfind l k i = none → mdel l k = l
  | [], _, _, _ => rfl
  | p :: l, k, i, h => by
    rw [mfind] at h
    rw [mdel]
    by_cases q : k = p.1
    · rw [if_pos q] at h
      cases h
    · rw [if_neg q] at h
      rw [if_neg q, mdel_none l k (i + 1) h]
theorem mlook_nil_of {κ : Type} [DecidableEq κ] : ∀ (l : List (κ × Value)) (k : κ), k ∉ l.map (fun p => p.1) → mlook l k = none
  | [], _, _ => rfl
  | p :: l, k, h => by
    rw [mlook, if_neg (fun e => h (by rw [e]; simp)), mlook_nil_of l k (fun e => h (List.mem_cons_of_mem _ e))]
theorem mlook_del {κ : Type} [DecidableEq κ] (k k' : κ) : ∀ l : List (κ × Value), (l.map fun p => p.1).Nodup → mlook (mdel l k) k' = if k' = k then none else mlook l k'
  | [], _ => by simp [mdel, mlook]
  | p :: l, h => by
    have hc := List.nodup_cons.1 h
    rw [mdel]
    by_cases q : k = p.1
    · rw [if_pos q]
      by_cases e : k' = k
      · rw [if_pos e, e, q]
        exact mlook_nil_of l p.1 hc.1
      · rw [if_neg e, mlook, if_neg (fun z => e (z.trans q.symm))]
    · rw [if_neg q, mlook, mlook, mlook_del k k' l hc.2]
      by_cases e : k' = p.1
      · rw [if_pos e, if_pos e, if_neg (fun z => q (z.symm.trans e))]
      · rw [if_neg e, if_neg e]
theorem mdel_nodup {κ : Type} [DecidableEq κ] (k : κ) : ∀ l : List (κ × Value), (l.map fun p => p.1).Nodup → ((mdel l k).map fun p => p.1).Nodup ∧ ∀ x, x ∈ (mdel l k).map (fun p => p.1) → x ∈ l.map (fun p => p.1)
  | [], h => ⟨h, fun _ h => h⟩
  | p :: l, h => by
    have hc := List.nodup_cons.1 h
    obtain ⟨h1, h2⟩ := mdel_nodup k l hc.2
    rw [mdel]
    by_cases q : k = p.1
    · rw [if_pos q]
      exact ⟨hc.2, fun x hx => List.mem_cons_of_mem _ hx⟩
    · rw [if_neg q]
      refine ⟨List.nodup_cons.2 ⟨fun e => hc.1 (h2 _ e), h1⟩, fun x hx => ?_⟩
      rcases List.mem_cons.1 hx with rfl | hx
      · exact List.mem_cons_self
      · exact List.mem_cons_of_mem _ (h2 x hx)
theorem erase_is {κ : Type} [DecidableEq κ] {enc : κ → Value} (k : κ) : ∀ (l : List (κ × Value)) (es : List MapEntry) (i : Nat) (r : Nat × Value), EsIs enc es l → mfind l k i = some r → i ≤ r.1 ∧ r.1 - i < es.length ∧ EsIs enc (es.eraseIdx (r.1 - i)) (mdel l k)
  | [], _, _, _, _, h => by simp [mfind] at h
  | p :: l, es, i, r, h, hf => by
    obtain ⟨e, s, rfl, h1, h2, h3⟩ := h.cons_inv
    simp only [mfind] at hf
    by_cases hk : k = p.1
    · rw [if_pos hk] at hf
      obtain rfl := Option.some.inj hf
      refine ⟨Nat.le_refl _, by simp, ?_⟩
      simp only [Nat.sub_self, List.eraseIdx_zero, List.tail_cons, mdel, if_pos hk]
      exact h3
    · rw [if_neg hk] at hf
      obtain ⟨q1, q2, q3⟩ := erase_is k l s (i + 1) r h3 hf
      obtain ⟨m, hm⟩ : ∃ m, r.1 - i = m + 1 := ⟨r.1 - (i + 1), by omega⟩
      have hm' : r.1 - (i + 1) = m := by omega
      rw [hm'] at q2 q3
      refine ⟨by omega, by rw [hm, List.length_cons]; omega, ?_⟩
      rw [hm]
      simp only [List.eraseIdx_cons_succ, mdel, if_neg hk]
      simp only [EsIs, List.map_cons] at q3 ⊢
      rw [q3, h1, h2]
theorem run_delete {κ : Type} [DecidableEq κ] {P : Program} {T K E : TypeId} {enc : κ → Value} (hk : KeyOk P K enc) (hT : P.underlying T = some (.map K E)) {w : World} {b : Nat} {l : List (κ × Value)} (h : MapAt enc w b l) (k : κ) (ty : TypeId) :
    ∃ w', (Builtin.delete_ #[T, K] ty #[.map (some b), enc k]).run P w = .ok (.tuple #[]) w' ∧ MapAt enc w' b (mdel l k) ∧ w.grownBy w' (some b) := by
  obtain ⟨es, clock, h1, h2⟩ := h
  have hgo : (getObj b).run P w = .ok (.map es clock) w := by simp [getObj, Sem.run, h1]
  have hset : ∀ o : Obj, (setObj b o).run P w = .ok () (ChangeMaps.setBlock w b o) := fun o => MapKept.run_setObj_map o h1
  have hgr : ∀ o : Obj, w.grownBy (ChangeMaps.setBlock w b o) (some b) := fun o => ⟨rfl, rfl, rfl, by simp [ChangeMaps.setBlock], fun i _ hi => ChangeMaps.heap_setBlock_other h1 _ (fun e => hi (by rw [e]))⟩
  cases hf : mfind l k 0 with
  | none =>
    refine ⟨ChangeMaps.setBlock w b (.map es clock), ?_, ⟨_, _, ChangeMaps.heap_setBlock_same h1 _, ?_⟩, hgr _⟩
    · simp [Builtin.delete_, run_underlying hT, hgo, hk.check, hk.find k es.toList l w h2, hf, hset, Result.andThen]
    · rw [mdel_none l k 0 hf]
      exact h2
  | some r =>
    obtain ⟨_, q2, q3⟩ := erase_is k l es.toList 0 r h2 hf
    rw [Nat.sub_zero] at q2 q3
    refine ⟨ChangeMaps.setBlock w b (.map (es.eraseIdxIfInBounds r.1) clock), ?_, ⟨_, _, ChangeMaps.heap_setBlock_same h1 _, ?_⟩, hgr _⟩
    · simp [Builtin.delete_, run_underlying hT, hgo, hk.check, hk.find k es.toList l w h2, hf, hset, Result.andThen]
    · have : (es.eraseIdxIfInBounds r.1).toList = es.toList.eraseIdx r.1 := by simp
      rw [this]
      exact q3

abbrev u64E (a : Int) : Value := .int .u64 a
/-- A decision as a value. -/
def decV (d : S35) : Value := .agg #[.int .u64 d.f0, .int .i64 d.f1, .string d.f2, .string d.f3]
abbrev decZ : Value := .agg #[.int .u64 0, .int .i64 0, .string ⟨#[]⟩, .string ⟨#[]⟩]
def bookIn (L : List S35) (k : Int) : Option S35 := L.find? fun d => decide (d.f0 = k)
theorem sz_alloc (w : World) (o : Obj) : (w.alloc o).heap.size = w.heap.size + 1 := by simp
/-- Block b is a book with the decisions L, whose keys are the map's. -/
structure BookAt (w : World) (ok : Nat → Prop) (base b : Nat) (L : List S35) : Prop where
  mk ::
  out : ∃ (mb : Nat) (v : Value) (ents : List (Int × Value)), w.heap[b]? = some (.cells #[.map (some mb), v] 72 (0, 0)) ∧ MapAt u64E w mb ents ∧ ((∀ k, mlook ents k = (bookIn L k).map decV) ∧ (ents.map fun p => p.1).Nodup) ∧
    (Kd.int .u64).R 33 w base (fun k => ok k ∧ k ≠ b ∧ k ≠ mb) v (L.map fun d => d.f0) ∧ b ≠ mb ∧ (ok b ∧ base ≤ b) ∧ (ok mb ∧ base ≤ mb)
theorem book_cells {w : World} {b : Nat} {x y : Value} {t : Nat} (h : w.heap[b]? = some (.cells #[x, y] t (0, 0))) : w.cell? ⟨b, 0, none⟩ = some x ∧ w.cell? ⟨b, 1, none⟩ = some y := ⟨(blk_cell h 0).trans rfl, (blk_cell h 1).trans rfl⟩
theorem BookAt.below {w w' : World} {ok : Nat → Prop} {base b : Nat} {L : List S35} (h : BookAt w ok base b L) (hb : Below w.heap.size w w') : BookAt w' ok base b L := by
  obtain ⟨mb, v, ents, h1, h2, h3, h4, h5, h6⟩ := h.out
  exact ⟨mb, v, ents, blk_below h1 hb, h2.below hb, h3, Kd.R_below h4 hb, h5, h6⟩
theorem BookAt.kept {w w' : World} {ok S : Nat → Prop} {base b : Nat} {L : List S35} (h : BookAt w ok base b L) (hk : Kept w w' S) (hn : ∀ k, ok k → ¬ S k) : BookAt w' ok base b L := by
  obtain ⟨mb, v, ents, h1, h2, h3, h4, h5, h6⟩ := h.out
  exact ⟨mb, v, ents, blk_kept h1 hk (hn _ h6.1.1), h2.keep (hk.2 mb h2.lt (hn _ h6.2.1)), h3, Kd.R_kept h4 hk (fun k hk => hn k hk.1), h5, h6⟩
theorem BookAt.lt {w : World} {ok : Nat → Prop} {base b : Nat} {L : List S35} (h : BookAt w ok base b L) : b < w.heap.size := by
  obtain ⟨mb, v, ents, h1, _⟩ := h.out
  exact blk_lt h1
theorem decide_New.calls (w : World) : Calls Tryd.prog 16 #[] w fun e w' => ∃ b, e = .returned (.pointer (some ⟨b, 0, none⟩)) ∧ BookAt w' (fun k => k < w'.heap.size) w.heap.size b [] ∧ Below w.heap.size w w' := by
  have hmm := @run_makeMap Tryd.prog
  go_enter Tryd.func16, Tryd.ntmps16
  go_wp2
  go_ret
  refine ⟨_, rfl, ⟨_, _, [], (by have h := heap_alloc_new (w.alloc (Obj.map #[] 0)) (Obj.cells #[Value.map (some w.heap.size), Value.slice none 0 0] 72); rwa [sz_alloc] at h), (MapAt.new u64E w).alloc _, ⟨fun k => rfl, List.nodup_nil⟩, Kd.R_nil _ _ _ _ _, ?_, ⟨?_, ?_⟩, ⟨?_, ?_⟩⟩, below_alloc (below_alloc (Below.refl _ _) _) _⟩ <;> first | omega | (simp only [sz_alloc]; omega)
set_option maxHeartbeats 8000000 in
set_option maxRecDepth 100000 in
theorem decide_Book_has.calls (w : World) (ok : Nat → Prop) (base b : Nat) (L : List S35) (hB : BookAt w ok base b L) (key : Int) : Calls Tryd.prog 34 #[.pointer (some ⟨b, 0, none⟩), .int .u64 key] w fun e w' => e = .returned (.bool (bookIn L key).isSome) ∧ Below w.heap.size w w' := by
  obtain ⟨mb, v, ents, hb, hM, ⟨hl, _⟩, hR, hne, _, _⟩ := hB.out
  obtain ⟨h0, _⟩ := book_cells hb
  have hHl := Aside0.mk (hl key)
  have HM := Aside0.mk hM
  clear hl hR hb hM
  cases hk : bookIn L key with
  | none =>
    rw [hk, Option.map_none] at hHl
    go_enter Tryd.func34, Tryd.ntmps34
    go_wp2_with (with_reducible refine wpList_lookup (z := decZ) rfl _ _ rfl (KeyOk.int Tryd.underlying33) Tryd.underlying69 (by kernel_rfl) rfl HM.out key rfl ?_; rw [hHl.out])
    go_wp2
    go_ret
    exact ⟨rfl, below_alloc (Below.refl _ _) _⟩
  | some d =>
    rw [hk, Option.map_some, decV] at hHl
    go_enter Tryd.func34, Tryd.ntmps34
    go_wp2_with (with_reducible refine wpList_lookup (z := decZ) rfl _ _ rfl (KeyOk.int Tryd.underlying33) Tryd.underlying69 (by kernel_rfl) rfl HM.out key rfl ?_; rw [hHl.out])
    go_wp2
    go_ret
    exact ⟨rfl, below_alloc (Below.refl _ _) _⟩
set_option maxHeartbeats 8000000 in
set_option maxRecDepth 100000 in
theorem decide_Book_Find.calls (w : World) (ok : Nat → Prop) (base b : Nat) (L : List S35) (hB : BookAt w ok base b L) (key : Int) : Calls Tryd.prog 19 #[.pointer (some ⟨b, 0, none⟩), .int .u64 key] w fun e w' => e = .returned (.tuple #[decV ((bookIn L key).getD z35), .bool (bookIn L key).isSome]) ∧ Below w.heap.size w w' := by
  have hu35 := Tryd.underlying35
  have HH := Aside0.mk (fun W (hb : Below w.heap.size w W) => decide_Book_has.calls W ok base b L (hB.below hb) key)
  have HB := Aside0.mk (Below.refl w.heap.size w)
  obtain ⟨mb, v, ents, hb, hM, ⟨hl, _⟩, hR, hne, _, _⟩ := hB.out
  have Hb := Aside0.mk hb
  have hHl := Aside0.mk (hl key)
  have HM := Aside0.mk hM
  clear hl hR hb hM
  cases hk : bookIn L key with
  | none =>
    rw [hk] at HH
    go_enter Tryd.func19, Tryd.ntmps19
    go_wp2_with (go_at_call 34; ((with_reducible refine (HH.out _ (by repeat (first | (with_reducible first | exact HB.out | apply below_alloc | apply pw_below_drewN | apply below_drew1) | exact HB.out))).mono ?_); rintro e w1 ⟨rfl, hb1⟩; have hz := blk_below (heap_alloc_new w (Obj.cells #[.int .u64 0, .int .i64 0, .string ⟨#[]⟩, .string ⟨#[]⟩] 35)) hb1; have hz0 := (blk_cell hz 0).trans rfl; have hz1 := (blk_cell hz 1).trans rfl; have hz2 := (blk_cell hz 2).trans rfl; have hz3 := (blk_cell hz 3).trans rfl; have hf0 := blk_frozen hz 0; have hf1 := blk_frozen hz 1; have hf2 := blk_frozen hz 2; have hf3 := blk_frozen hz 3; have HZ := Aside0.mk hz; clear hz; have HB1 := Aside0.mk (below_step (by repeat (first | (with_reducible first | exact HB.out | apply below_alloc | apply pw_below_drewN | apply below_drew1) | exact HB.out)) hb1); clear hb1))
    refine bodyPost_ret (results_ct rfl _ _ w.heap.size 35 #[.int .u64 0, .int .i64 0, .string ⟨#[]⟩, .string ⟨#[]⟩] (0, 0) _ rfl (blk_put (blk_put (blk_put (blk_put HZ.out 0 _ rfl) 1 _ rfl) 2 _ rfl) 3 _ rfl) hu35 rfl (by kernel_rfl)) rfl ?_
    exact ⟨rfl, below_set (below_set (below_set (below_set HB1.out (Nat.le_refl _)) (Nat.le_refl _)) (Nat.le_refl _)) (Nat.le_refl _)⟩
  | some d =>
    rw [hk, Option.map_some, decV] at hHl
    rw [hk] at HH
    go_enter Tryd.func19, Tryd.ntmps19
    go_wp2_with (first | (go_at_call 34; ((with_reducible refine (HH.out _ (by repeat (first | (with_reducible first | exact HB.out | apply below_alloc | apply pw_below_drewN | apply below_drew1) | exact HB.out))).mono ?_); rintro e w1 ⟨rfl, hb1⟩; have hz := blk_below (heap_alloc_new w (Obj.cells #[.int .u64 0, .int .i64 0, .string ⟨#[]⟩, .string ⟨#[]⟩] 35)) hb1; have hz0 := (blk_cell hz 0).trans rfl; have hz1 := (blk_cell hz 1).trans rfl; have hz2 := (blk_cell hz 2).trans rfl; have hz3 := (blk_cell hz 3).trans rfl; have hf0 := blk_frozen hz 0; have hf1 := blk_frozen hz 1; have hf2 := blk_frozen hz 2; have hf3 := blk_frozen hz 3; have HZ := Aside0.mk hz; clear hz; have HB1 := Aside0.mk (below_step (by repeat (first | (with_reducible first | exact HB.out | apply below_alloc | apply pw_below_drewN | apply below_drew1) | exact HB.out)) hb1); have hc0 := (book_cells (blk_below Hb.out HB1.out)).1; have HM1 := Aside0.mk (HM.out.below HB1.out); clear hb1)) | (with_reducible refine wpList_lookup (z := decZ) rfl _ _ rfl (KeyOk.int Tryd.underlying33) Tryd.underlying69 (by kernel_rfl) rfl HM1.out key rfl ?_; rw [hHl.out]))
    refine bodyPost_ret (results_ct rfl _ _ w.heap.size 35 #[.int .u64 d.f0, .int .i64 d.f1, .string d.f2, .string d.f3] (0, 0) _ rfl (blk_put (cs := #[.int .u64 d.f0, .int .i64 d.f1, .string d.f2, .string ⟨#[]⟩]) (blk_put (cs := #[.int .u64 d.f0, .int .i64 d.f1, .string ⟨#[]⟩, .string ⟨#[]⟩]) (blk_put (cs := #[.int .u64 d.f0, .int .i64 0, .string ⟨#[]⟩, .string ⟨#[]⟩]) (blk_put HZ.out 0 _ rfl) 1 _ rfl) 2 _ rfl) 3 _ rfl) hu35 rfl (by kernel_rfl)) rfl ?_
    exact ⟨rfl, below_set (below_set (below_set (below_set HB1.out (Nat.le_refl _)) (Nat.le_refl _)) (Nat.le_refl _)) (Nat.le_refl _)⟩

theorem getKeys {L : List S35} {i : Nat} (h : i < L.length) : rd (L.map fun d => d.f0) (i : Int) = L[i].f0 := by simp [rd, List.getD_eq_getElem?_getD, List.getElem?_eq_getElem h]
theorem bookIn_at {L : List S35} (hn : (L.map fun d => d.f0).Nodup) {i : Nat} (h : i < L.length) : bookIn L L[i].f0 = some L[i] := by
  induction L generalizing i with
  | nil => simp at h
  | cons d L ih =>
    cases i with
    | zero => simp [bookIn]
    | succ i =>
      simp only [List.map_cons, List.nodup_cons] at hn
      simp only [List.length_cons] at h
      have hi : i < L.length := by omega
      have := ih hn.2 hi
      simp only [List.getElem_cons_succ]
      unfold bookIn at this ⊢
      rw [List.find?_cons_of_neg (by simp; exact fun e => hn.1 (by rw [e]; exact List.mem_map_of_mem (List.getElem_mem hi))), this]
set_option maxHeartbeats 8000000 in
set_option maxRecDepth 100000 in
theorem decide_Book_List.calls (w : World) (ok : Nat → Prop) (base b : Nat) (L : List S35) (hB : BookAt w ok base b L) (hn : (L.map fun d => d.f0).Nodup) (hl : L.length ≤ 1000) : Calls Tryd.prog 14 #[.pointer (some ⟨b, 0, none⟩)] w fun e w' => ∃ v, e = .returned v ∧ k35.R 35 w' w.heap.size (fun _ => True) v L ∧ Below w.heap.size w w' := by
  obtain ⟨mb, v, ents, hb, hM, ⟨hE, _⟩, hR, hne, _, _⟩ := hB.out
  obtain ⟨A, c, rfl⟩ := Kd.R_slice hR
  have Hb := Aside0.mk hb
  have HE := Aside0.mk hE
  have HM := Aside0.mk hM
  have HRr := Aside0.mk (Kd.R_reads' hR).2.2
  obtain ⟨h0, h1⟩ := book_cells hb
  clear hE hR hb hM
  go_enter Tryd.func14, Tryd.ntmps14
  go_wp2
  have HK0 := Aside0.mk HRr.out
  go_loopg [3, 13] L.length (fun gk v3 v13 w' => ∃ (k : Nat), v13 = .int .i64 k ∧ k + gk = L.length ∧ Aside0 (k35.R 35 w' w.heap.size (fun _ => True) v3 (L.take k)) ∧ Aside0 (Below w.heap.size w w'))
  case atStart => exact ⟨0, rfl, by omega, ⟨Kd.R_nil _ _ _ _ _⟩, ⟨Below.refl _ _⟩⟩
  case round =>
    obtain ⟨k, rfl, hk, HO, HB⟩ := hrel
    obtain ⟨go, rfl⟩ : ∃ go, go = gk := ⟨gk, rfl⟩
    have HK := Aside0.mk hk
    cases go with
    | succ g =>
      have hkl : k < L.length := by omega
      have g1 : decide ((k : Int) < (L.length : Int)) = true := decide_eq_true (by omega)
      have g2 : decide (k < L.length) = true := decide_eq_true (by omega)
      have p12 : 0 ≤ (k : Int) := by omega
      have q12 : (k : Int) < ((L.map fun d => d.f0).length : Int) := by rw [List.length_map]; omega
      obtain ⟨ad, e, hx⟩ := Kd.at_int (Kd.C_below HRr.out HB.out) (k : Int) p12 q12
      cases e
      rw [Int.toNat_natCast, getKeys hkl] at hx
      rw [List.length_map] at q12
      have hlook := Aside0.mk (show mlook ents L[k].f0 = some (.agg #[.int .u64 L[k].f0, .int .i64 L[k].f1, .string L[k].f2, .string L[k].f3]) by rw [HE.out, bookIn_at hn hkl, Option.map_some, decV])
      have htake : L.take (k + 1) = L.take k ++ [L[k]] := List.take_succ_eq_append_getElem hkl
      have HT := Aside0.mk htake
      obtain ⟨x, hxe⟩ : ∃ x, x = L[k] := ⟨_, rfl⟩
      rw [← hxe] at hx hlook HT
      clear hxe htake
      obtain ⟨Ao, co, eo⟩ := Kd.R_slice HO.out
      rw [List.length_take, Nat.min_eq_left (by omega)] at eo
      subst eo
      have hb44 : (L.take k).length < 2932031007402 := by rw [List.length_take]; omega
      have hc0 := (book_cells (blk_below Hb.out HB.out)).1
      have HM1 := Aside0.mk (HM.out.below HB.out)
      clear hk
      go_wp2_with (first | (with_reducible refine wpList_lookup (z := decZ) rfl _ _ rfl (KeyOk.int Tryd.underlying33) Tryd.underlying69 (by kernel_rfl) rfl HM1.out x.f0 rfl ?_; rw [hlook.out]) | ((with_reducible refine gate_builtin (b := .append) (xs := #[.tmp 17, .tmp 24]) rfl ?_); at_builtin; refine Kd.R_append k35 (w0 := w) w.heap.size rfl (.tmp 17) (.tmp 24) 27 35 decZ 48 rfl Tryd.underlying27 info35 rfl (by decide) (by omega) (.slice Ao k co) (L.take k) x [.int .u64 x.f0, .int .i64 x.f1, .string x.f2, .string x.f3] (fun _ => True) (fun _ => False) rfl rfl ?aP (fun _ hk => hk.elim) ?aF ?aO ?aB ?aS ?aL ?_; (case aP => exact k35_mkM _ _ _ x); (case aF => exact (fun _ _ => trivial)); (case aO => exact (by (with_reducible repeat (first | apply Kd.R_alloc | apply Kd.R_drewN | apply Kd.R_drew)); exact HO.out)); (case aB => exact (by repeat (first | (with_reducible first | exact HB.out | apply below_alloc | apply pw_below_drewN | apply below_drew1) | exact HB.out))); (case aS => exact (below_size (by repeat (first | (with_reducible first | exact HB.out | apply below_alloc | apply pw_below_drewN | apply below_drew1) | exact HB.out)))); (case aL => omega); intro v9 w9 ho hb hg hat; have HO9 := Aside0.mk ho; have HB9 := Aside0.mk hb; clear ho hb hg hat))
      go_roundg g
      case measure => omega
      case rel => exact ⟨k + 1, by go_num, by have := HK.out; omega, ⟨by rw [HT.out]; exact HO9.out⟩, HB9⟩
    | zero =>
      have g1 : decide ((k : Int) < (L.length : Int)) = false := decide_eq_false (by omega)
      have g2 : decide (k < L.length) = false := decide_eq_false (by omega)
      have HL := Aside0.mk (show L.take k = L from List.take_of_length_le (by omega))
      go_wp2
      go_ret
      exact ⟨_, rfl, by rw [← HL.out]; exact HO.out, HB.out⟩

/-- The keys ascend. -/
def Asc (L : List S35) : Prop := L.Pairwise fun x y => x.f0 < y.f0
def bookPut : List S35 → S35 → List S35
  | [], d => [d]
  | x :: l, d => if d.f0 < x.f0 then d :: x :: l else if d.f0 = x.f0 then d :: l else x :: bookPut l d
def bookDel (L : List S35) (k : Int) : List S35 := L.filter fun d => decide (d.f0 ≠ k)
def posB : List S35 → Int → Nat
  | [], _ => 0
  | x :: l, k => if k < x.f0 then 0 else posB l k + 1
theorem bookPut_mem : ∀ (L : List S35) (d x : S35), x ∈ bookPut L d → x = d ∨ x ∈ L
  | [], d, x, h => .inl (by simpa [bookPut] using h)
  | y :: l, d, x, h => by
    rw [bookPut] at h
    split at h
    · exact (List.mem_cons.1 h).imp id id
    · split at h
      · exact (List.mem_cons.1 h).imp id (List.mem_cons_of_mem _)
      · rcases List.mem_cons.1 h with h | h
        · exact .inr (by rw [h]; exact List.mem_cons_self)
        · exact (bookPut_mem l d x h).imp id (List.mem_cons_of_mem _)
theorem bookPut_asc : ∀ (L : List S35) (d : S35), Asc L → Asc (bookPut L d)
  | [], d, _ => by simp [bookPut, Asc]
  | y :: l, d, h => by
    have hc := List.pairwise_cons.1 h
    rw [bookPut]
    by_cases c : d.f0 < y.f0
    · rw [if_pos c]
      refine List.pairwise_cons.2 ⟨fun x hx => ?_, h⟩
      rcases List.mem_cons.1 hx with rfl | hx
      · exact c
      · have := hc.1 x hx
        omega
    · rw [if_neg c]
      by_cases e : d.f0 = y.f0
      · rw [if_pos e]
        exact List.pairwise_cons.2 ⟨fun x hx => by rw [e]; exact hc.1 x hx, hc.2⟩
      · rw [if_neg e]
        refine List.pairwise_cons.2 ⟨fun x hx => ?_, bookPut_asc l d hc.2⟩
        rcases bookPut_mem l d x hx with rfl | hx
        · omega
        · exact hc.1 x hx
theorem bookIn_cons (x : S35) (l : List S35) (k : Int) : bookIn (x :: l) k = if x.f0 = k then some x else bookIn l k := by
  unfold bookIn
  by_cases h : x.f0 = k
  · rw [List.find?_cons_of_pos (by simpa using h), if_pos h]
  · rw [List.find?_cons_of_neg (by simpa using h), if_neg h]
theorem bookIn_low {l : List S35} {k : Int} (h : ∀ x ∈ l, k < x.f0) : bookIn l k = none := by
  unfold bookIn
  rw [List.find?_eq_none]
  intro x hx
  have := h x hx
  simp
  omega
theorem bookIn_put : ∀ (L : List S35) (d : S35) (k : Int), Asc L → bookIn (bookPut L d) k = if k = d.f0 then some d else bookIn L k
  | [], d, k, _ => by
    rw [bookPut, bookIn_cons]
    by_cases h : k = d.f0
    · rw [if_pos h, if_pos h.symm]
    · rw [if_neg h, if_neg (fun e => h e.symm)]
  | y :: l, d, k, h => by
    have hc := List.pairwise_cons.1 h
    rw [bookPut]
    by_cases c : d.f0 < y.f0
    · rw [if_pos c, bookIn_cons]
      by_cases e : k = d.f0
      · rw [if_pos e, if_pos e.symm]
      · rw [if_neg e, if_neg (fun q => e q.symm)]
    · rw [if_neg c]
      by_cases e : d.f0 = y.f0
      · rw [if_pos e, bookIn_cons, bookIn_cons]
        by_cases q : k = d.f0
        · rw [if_pos q, if_pos q.symm]
        · rw [if_neg q, if_neg (fun z => q z.symm), if_neg (fun z => q (by rw [← z, e]))]
      · rw [if_neg e, bookIn_cons, bookIn_cons, bookIn_put l d k hc.2]
        by_cases q : k = d.f0
        · rw [if_pos q, if_pos q, if_neg (fun z => e (by rw [← q, z]))]
        · rw [if_neg q, if_neg q]
theorem bookPut_keys_in : ∀ (L : List S35) (d d0 : S35), Asc L → bookIn L d.f0 = some d0 → (bookPut L d).map (fun x => x.f0) = L.map fun x => x.f0
  | [], d, d0, _, h => by simp [bookIn] at h
  | y :: l, d, d0, ha, h => by
    have hc := List.pairwise_cons.1 ha
    rw [bookIn_cons] at h
    rw [bookPut]
    by_cases e : y.f0 = d.f0
    · rw [if_neg (by omega), if_pos e.symm, List.map_cons, List.map_cons, e]
    · rw [if_neg e] at h
      have hlt : ¬ d.f0 < y.f0 := fun q => by
        rw [bookIn_low (fun x hx => by have := hc.1 x hx; omega)] at h
        cases h
      rw [if_neg hlt, if_neg (fun q => e q.symm), List.map_cons, List.map_cons, bookPut_keys_in l d d0 hc.2 h]
theorem bookPut_len_in (L : List S35) (d d0 : S35) (ha : Asc L) (h : bookIn L d.f0 = some d0) : (bookPut L d).length = L.length := by
  have := congrArg List.length (bookPut_keys_in L d d0 ha h)
  simpa using this
theorem posB_le : ∀ (L : List S35) (k : Int), posB L k ≤ L.length
  | [], _ => Nat.le_refl _
  | x :: l, k => by
    rw [posB]
    have := posB_le l k
    split <;> simp <;> omega
theorem posB_lo : ∀ (L : List S35) (k : Int) (h : Nat) (hl : h < L.length), h < posB L k → ¬ k < L[h].f0
  | [], _, h, hl, _ => by simp at hl
  | x :: l, k, h, hl, hp => by
    rw [posB] at hp
    by_cases c : k < x.f0
    · rw [if_pos c] at hp
      omega
    · rw [if_neg c] at hp
      cases h with
      | zero => exact c
      | succ h => exact posB_lo l k h (by simpa using hl) (by omega)
theorem posB_hi : ∀ (L : List S35) (k : Int) (h : Nat) (hl : h < L.length), Asc L → posB L k ≤ h → k < L[h].f0
  | [], _, h, hl, _, _ => by simp at hl
  | x :: l, k, h, hl, ha, hp => by
    have hc := List.pairwise_cons.1 ha
    rw [posB] at hp
    by_cases c : k < x.f0
    · cases h with
      | zero => exact c
      | succ h =>
        have := hc.1 (l[h]'(by simpa using hl)) (List.getElem_mem _)
        simp only [List.getElem_cons_succ]
        omega
    · rw [if_neg c] at hp
      cases h with
      | zero => omega
      | succ h => exact posB_hi l k h (by simpa using hl) hc.2 (by omega)
theorem bookPut_keys_new : ∀ (L : List S35) (d : S35), Asc L → bookIn L d.f0 = none → (bookPut L d).map (fun x => x.f0) = (L.map fun x => x.f0).take (posB L d.f0) ++ d.f0 :: (L.map fun x => x.f0).drop (posB L d.f0)
  | [], d, _, _ => by simp [bookPut]
  | y :: l, d, ha, h => by
    have hc := List.pairwise_cons.1 ha
    rw [bookIn_cons] at h
    rw [bookPut, posB]
    by_cases c : d.f0 < y.f0
    · rw [if_pos c, if_pos c]
      simp
    · have e : y.f0 ≠ d.f0 := fun q => by rw [if_pos q] at h; cases h
      rw [if_neg e] at h
      rw [if_neg c, if_neg c, if_neg (fun q => e q.symm), List.map_cons, List.map_cons, bookPut_keys_new l d hc.2 h]
      simp
theorem bookPut_len_new (L : List S35) (d : S35) (ha : Asc L) (h : bookIn L d.f0 = none) : (bookPut L d).length = L.length + 1 := by
  have := congrArg List.length (bookPut_keys_new L d ha h)
  have h2 := posB_le L d.f0
  simp at this
  omega
theorem Asc.nodup {L : List S35} (h : Asc L) : (L.map fun d => d.f0).Nodup := by
  unfold List.Nodup
  rw [List.pairwise_map]
  exact h.imp (fun q e => by omega)

end Go.Proofs.YtfajgjmhfpabiaaDoor.Scratch
