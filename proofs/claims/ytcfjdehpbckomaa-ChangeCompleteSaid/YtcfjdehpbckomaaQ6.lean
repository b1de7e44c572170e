-- Written by a program of this session (mk.py) out of the translation; Lean checks it.
import Derived.Test.YtcfjdehpbckomaaQ0
import Derived.Test.YtcfjdehpbckomaaQ2
import Derived.Test.YtcfjdehpbckomaaQ5
namespace Go.Proofs.Ytcfjdehpbckomaa.Q
open Go.RowKit Go.Proofs.YtcfjdehpbckomaaW.PrintWords Go.Proofs.YtcfjdehpbckomaaW.PrintLast Go.Proofs.YtcfjdehpbckomaaW.PrintMore
attribute [local go_sem] max2_int min2_int max_two min_two max_three min_three max_four min_four   -- for this text's walks alone
set_option linter.unusedVariables false
set_option linter.unusedSimpArgs false

-- NOT PRINTED: function 38 (change_Overlap_1)

/-! ### change_Overlap: function 14 (by hand) -/

def ovl (a b : Int) : Bool := if a = b then decide (a ≠ 1) && decide (a ≠ 2) else decide (a = 2) || decide (b = 2)
set_option maxHeartbeats 2000000 in
theorem overlap_calls (a b : Int) (w : World) : Calls Try.prog 39 #[.int .i64 a, .int .i64 b] w fun e w' => e = .returned (.bool (ovl a b)) ∧ w' = w := by
 unfold ovl
 by_cases h : a = b
 ·subst h
  have e1 : (a == a) = true := beq_self_eq_true a
  rw [if_pos rfl]
  by_cases h1 : a = 1
  ·subst h1
   go_enter Try.func39, Try.ntmps39
   go_wp2
   go_ret
   exact ⟨rfl, rfl⟩
  ·have e2 : (a != 1) = true := bne_iff_ne.2 h1
   have e3 : (a == 1) = false := beq_eq_false_iff_ne.2 h1
   rw [decide_eq_true h1]
   by_cases h2 : a = 2
   ·subst h2
    clear e1 e2 e3 h1
    go_enter Try.func39, Try.ntmps39
    go_wp2
    go_ret
    exact ⟨rfl, rfl⟩
   ·have e4 : (a != 2) = true := bne_iff_ne.2 h2
    have e5 : (a == 2) = false := beq_eq_false_iff_ne.2 h2
    rw [decide_eq_true h2]
    clear h1 h2
    go_enter Try.func39, Try.ntmps39
    go_wp2
    go_ret
    exact ⟨rfl, rfl⟩
 ·have e1 : (a == b) = false := beq_eq_false_iff_ne.2 h
  rw [if_neg h]
  by_cases h1 : a = 2
  ·subst h1
   rw [decide_eq_true rfl]
   clear h
   go_enter Try.func39, Try.ntmps39
   go_wp2
   go_ret
   exact ⟨rfl, rfl⟩
  ·have e3 : (a == 2) = false := beq_eq_false_iff_ne.2 h1
   rw [decide_eq_false h1]
   by_cases h2 : b = 2
   ·have e4 : (b == 2) = true := beq_iff_eq.2 h2
    rw [decide_eq_true h2]
    clear h h1 h2
    go_enter Try.func39, Try.ntmps39
    go_wp2
    go_ret
    exact ⟨rfl, rfl⟩
   ·have e4 : (b == 2) = false := beq_eq_false_iff_ne.2 h2
    rw [decide_eq_false h2]
    clear h h1 h2
    go_enter Try.func39, Try.ntmps39
    go_wp2
    go_ret
    exact ⟨rfl, rfl⟩
set_option maxHeartbeats 2000000 in
theorem ov1_calls (f id fd : Int) (g : Nat) (w : World) (h : w.heap[g]? = some (.cells #[.int .i64 id, .int .i64 fd] 48 (0, 0))) : Calls Try.prog 38 #[.int .i64 f, .pointer (some ⟨g, 0, none⟩)] w fun e w' => e = .returned (.bool (ovl f fd)) ∧ w' = w := by
 have z1 := (blk_cell h 1).trans rfl
 clear h
 go_enter Try.func38, Try.ntmps38
 go_wp2_with (go_at_call 39; (with_reducible refine (overlap_calls f fd _).mono ?_); rintro e w' ⟨rfl, rfl⟩)
 go_ret
 exact ⟨rfl, rfl⟩
theorem enters_ov1 : ∀ args w, (callFunc 38 args).run Try.prog w = .ok (.enter 38 args) w := fun args w => enters_ Try.func38 (by kernel_rfl) rfl args w
theorem contains_calls (base : Nat) (ok : Nat → Prop) (v : Value) (xs : List Int) (g : Nat) (id fd : Int) (w : World) (hR : Kd.R (Kd.int .i64) 3 w base ok v xs) (hg : w.heap[g]? = some (.cells #[.int .i64 id, .int .i64 fd] 48 (0, 0))) :
  Calls Try.prog 37 #[v, .func (.func 38) #[] #[.pointer (some ⟨g, 0, none⟩)]] w fun e w' => e = .returned (.bool (xs.any (fun f => ovl f fd))) ∧ Below w.heap.size w w' := by
 rcases Nat.eq_zero_or_pos xs.length with h0 | hp
 ·obtain ⟨A, c, rfl⟩ := Kd.R_slice hR
  have hx : xs = [] := List.eq_nil_of_length_eq_zero h0
  subst hx
  refine (Go.Proofs.Try.slices_ContainsFunc_empty (α := Int) A c _ w).mono ?_
  rintro e w' ⟨rfl, rfl⟩
  exact ⟨rfl, Below.refl _ _⟩
 ·obtain ⟨k, cap, rfl, h1, h2, cells, hcl⟩ := Kd.R_form hR hp
  have hmax := (Kd.R_reads' hR).2.2
  refine (Go.Proofs.Try.slices_ContainsFunc (Value.int .i64) (fun f => ovl f fd) 38 #[.pointer (some ⟨g, 0, none⟩)] enters_ov1 k 0 xs.length cap xs w ?_ (Nat.le_refl _) (Kd.C_max hmax) ?_).mono ?_
  ·intro W f hb
   exact (ov1_calls f id fd g W (blk_below hg hb)).mono fun e w' ⟨h1, h2⟩ => ⟨h1, 0, by rw [h2]; rfl⟩
  ·intro j hj
   obtain ⟨hc, _⟩ := Kd.R_cell (0 : Int) hR (j : Int) (by omega) (by omega)
   rw [Int.toNat_natCast] at hc
   rw [Nat.zero_add, hc]
   simp [rdOf, List.getD_eq_getElem?_getD, List.getElem?_eq_getElem hj, getElem!_pos, hj]
  ·rintro e w' ⟨rfl, q, rfl⟩
   exact ⟨by rw [List.take_length], pw_below_drewN (Below.refl _ _) _⟩
section
variable {κ β : Type}
/-- Two lists of keys have the same keys, and each element fits its key. -/
def RelK (V : κ → β → Value → Prop) : List (κ × Value) → List (κ × β) → Prop
 | [], [] => True
 | p :: l, q :: m => p.1 = q.1 ∧ V q.1 q.2 p.2 ∧ RelK V l m
 | _, _ => False
theorem RelK.look [DecidableEq κ] {V : κ → β → Value → Prop} (k : κ) : ∀ {l : List (κ × Value)} {m : List (κ × β)}, RelK V l m → (mlook l k = none ∧ glook m k = none) ∨ ∃ v x, mlook l k = some v ∧ glook m k = some x ∧ V k x v
 | [], [], _ => .inl ⟨rfl, rfl⟩
 | p :: l, q :: m, h => by
  obtain ⟨h1, h2, h3⟩ := h
  rw [mlook, glook, h1]
  by_cases e : k = q.1
  ·rw [if_pos e, if_pos e]
   exact .inr ⟨_, _, rfl, rfl, e ▸ h2⟩
  ·rw [if_neg e, if_neg e]
   exact RelK.look k h3
 | [], _ :: _, h => h.elim
 | _ :: _, [], h => h.elim
theorem RelK.put [DecidableEq κ] {V V' : κ → β → Value → Prop} (k : κ) {v : Value} {x : β} (hv : V' k x v) (hV : ∀ k' x v, k' ≠ k → V k' x v → V' k' x v) : ∀ {l : List (κ × Value)} {m : List (κ × β)}, (m.map (·.1)).Nodup → RelK V l m → RelK V' (mput l k v) (gput m k x)
 | [], [], _, _ => ⟨rfl, hv, trivial⟩
 | p :: l, q :: m, hn, h => by
  obtain ⟨h1, h2, h3⟩ := h
  have hc := List.nodup_cons.1 hn
  rw [mput, gput, h1]
  by_cases e : k = q.1
  ·rw [if_pos e, if_pos e]
   refine ⟨rfl, hv, ?_⟩
   have : ∀ {l : List (κ × Value)} {m : List (κ × β)}, k ∉ m.map (·.1) → RelK V l m → RelK V' l m := by
    intro l
    induction l with
    | nil => intro m _ h; cases m with | nil => exact trivial | cons => exact h.elim
    | cons p l ih =>
     intro m hm h
     cases m with
     | nil => exact h.elim
     | cons q m => exact ⟨h.1, hV _ _ _ (fun e => hm (by rw [← e]; simp)) h.2.1, ih (fun e => hm (List.mem_cons_of_mem _ e)) h.2.2⟩
   exact this (by rw [e]; exact hc.1) h3
  ·rw [if_neg e, if_neg e]
   exact ⟨h1, hV _ _ _ (fun e' => e e'.symm) h2, RelK.put k hv hV hc.2 h3⟩
 | [], _ :: _, _, h => h.elim
 | _ :: _, [], _, h => h.elim
theorem RelK.mono {V V' : κ → β → Value → Prop} (hV : ∀ k x v, V k x v → V' k x v) : ∀ {l : List (κ × Value)} {m : List (κ × β)}, RelK V l m → RelK V' l m
 | [], [], _ => trivial
 | _ :: _, _ :: _, h => ⟨h.1, hV _ _ _ h.2.1, RelK.mono hV h.2.2⟩
 | [], _ :: _, h => h.elim
 | _ :: _, [], h => h.elim
end
theorem gput_nodup {κ β : Type} [DecidableEq κ] (m : List (κ × β)) (k : κ) (x : β) (h : (m.map (·.1)).Nodup) : ((gput m k x).map (·.1)).Nodup := by
 rw [gput_keys]
 split
 ·exact h
 ·rename_i q
  exact List.nodup_append.2 ⟨h, by simp, fun a ha b hb e => by simp at hb; exact q (by rw [← hb, ← e]; exact ha)⟩
/-- Block b is a map of rows of the call's own; each block belongs to one key at most. -/
def MapG (w : World) (base b : Nat) (m : List (Int × List Int)) : Prop := (m.map (·.1)).Nodup ∧ ∃ (f : Nat → Option Int) (l : List (Int × Value)), Q.MapAt keyI w b l ∧ RelK (fun k xs v => Kd.R (Kd.int .i64) 3 w base (fun q => f q = some k) v xs) l m
theorem MapG.new (w : World) (base : Nat) : MapG (w.alloc (.map #[] 0)) base w.heap.size [] := ⟨List.nodup_nil, fun _ => none, [], Q.MapAt.new keyI w, trivial⟩
theorem MapG.below {w W : World} {base b : Nat} {m : List (Int × List Int)} (h : MapG w base b m) (hb : Below w.heap.size w W) : MapG W base b m := by
 obtain ⟨hn, f, l, h1, h2⟩ := h
 exact ⟨hn, f, l, h1.below hb, h2.mono (fun k x v hv => Kd.R_below hv hb)⟩
theorem MapG.lt {w : World} {base b : Nat} {m : List (Int × List Int)} (h : MapG w base b m) : b < w.heap.size := by obtain ⟨_, f, l, h1, h2⟩ := h; exact h1.lt
/-- A look-up: the slice that comes out, and what an append to it and the store of the result make of the map. -/
theorem MapG.get {w : World} {base b : Nat} {m : List (Int × List Int)} (h : MapG w base b m) (k : Int) (P : Program) (T E : TypeId) (hT : P.underlying T = some (.map 3 E)) (hK : KeyOk P 3 keyI) (hz : ∀ W : World, (zeroValue E).run P W = .ok (.slice none 0 0) W) :
  ∃ (v : Value) (F : Nat → Prop), (∀ W, W.heap[b]? = w.heap[b]? → (Instr.lookup T (.map (some b)) (.int .i64 k) false).run P W = .ok v W) ∧ Kd.R (Kd.int .i64) 3 w base F v ((glook m k).getD []) ∧
   ∀ (w9 : World) (v9 : Value) (ys : List Int), Kd.R (Kd.int .i64) 3 w9 base (fun q => F q ∨ w.heap.size ≤ q) v9 ys → w.grownBy w9 v.ownBlock →
    ∃ w10, (Instr.mapUpdate T (.map (some b)) (.int .i64 k) v9).run P w9 = .ok () w10 ∧ MapG w10 base b (gput m k ys) ∧ w9.grownBy w10 (some b) := by
 obtain ⟨hn, f, l, h1, h2⟩ := h
 have hlk : ∃ v : Value, (mlook l k).getD (.slice none 0 0) = v ∧ Kd.R (Kd.int .i64) 3 w base (fun q => f q = some k) v ((glook m k).getD []) := by
  rcases h2.look k with ⟨e1, e2⟩ | ⟨v, x, e1, e2, e3⟩
  ·exact ⟨_, rfl, by rw [e1, e2]; exact Kd.R_nil _ _ _ _ _⟩
  ·exact ⟨_, rfl, by rw [e1, e2]; exact e3⟩
 obtain ⟨v, hv, hR⟩ := hlk
 refine ⟨v, fun q => f q = some k, fun W hW => ?_, hR, fun w9 v9 ys h9 hg => ?_⟩
 ·have h3 : Q.MapAt keyI W b l := h1.keep hW
  have := run_lookup_ok hK hT (hz W) h3 k false
  rw [this]
  simp [hv]
 ·have hbv : some b ≠ v.ownBlock := fun he => by
   obtain ⟨es, c, h3, _⟩ := h1
   obtain ⟨cells, hc⟩ := Kd.R_typed hR b he.symm
   rw [h3] at hc
   cases hc
  have h9m : Q.MapAt keyI w9 b l := h1.keep (hg.block b h1.lt hbv)
  obtain ⟨w10, hr, hm10, hg10⟩ := run_mapUpdate hK hT h9m k v9
  refine ⟨w10, hr, ⟨gput_nodup m k ys hn, fun q => if w.heap.size ≤ q then some k else f q, _, hm10, ?_⟩, hg10⟩
  have mapless : ∀ {ok : Nat → Prop} {u : Value} {xs : List Int}, Kd.R (Kd.int .i64) 3 w9 base ok u xs → Kd.R (Kd.int .i64) 3 w10 base ok u xs := by
   intro ok u xs hu
   refine Kd.R_mono (Kd.R_grown (Kd.R_bound hu) hg10 (fun q hq he => ?_)) (fun q hq => hq.1)
   injection he with he
   subst he
   obtain ⟨_, _, _, t, _, cells, hc⟩ := hq
   obtain ⟨es, c, h3, _⟩ := h9m
   rw [h3] at hc
   cases hc
  refine RelK.put k (Kd.R_mono (mapless h9) (fun q hq => ?_)) (fun k' xs u hk hu => ?_) hn h2
  ·show (if w.heap.size ≤ q then some k else f q) = some k
   split
   ·rfl
   ·rename_i hlt
    exact hq.resolve_right hlt
  ·refine mapless (Kd.R_mono (Kd.R_grown (Kd.R_bound hu) hg (fun q hq he => ?_)) (fun q hq => ?_))
   ·have := hR.1 q he.symm
    rw [this] at hq
    exact hk (by injection hq.1 with e; exact e.symm)
   ·show (if w.heap.size ≤ q then some k else f q) = some k'
    rw [if_neg (by have := hq.2.2.1; omega)]
    exact hq.1
/-- A block of structs is none of the map's rows. -/
theorem MapG.own {w W : World} {base b g : Nat} {cs : Array Value} {m : List (Int × List Int)} (h : MapG w base b m) (hg : w.grownBy W (some g)) (hne : b ≠ g) (hc : w.heap[g]? = some (.cells cs 48 (0, 0))) : MapG W base b m := by
 have hlt := h.lt
 obtain ⟨hn, f, l, h1, h2⟩ := h
 exact ⟨hn, f, l, h1.keep (hg.block b hlt (fun e => hne (by injection e))), h2.mono (fun k x v hv => Kd.R_mono (Kd.R_grown (Kd.R_types hv hc (by decide)) hg (fun k hk e => hk.2 (by injection e))) (fun _ hk => hk.1))⟩
/-- Another map is written. -/
theorem MapG.mapped {w W : World} {base b b2 : Nat} {m : List (Int × List Int)} (h : MapG w base b m) (hg : w.grownBy W (some b2)) (hF : ∃ es c, w.heap[b2]? = some (.map es c)) (hne : b ≠ b2) : MapG W base b m := by
 have hlt := h.lt
 obtain ⟨hn, f, l, h1, h2⟩ := h
 refine ⟨hn, f, l, h1.keep (hg.block b hlt (fun e => hne (by injection e))), h2.mono (fun k x v hv => Kd.R_mono (Kd.R_grown (Kd.R_bound hv) hg (fun q hq he => ?_)) (fun _ hk => hk.1))⟩
 injection he with he
 subst he
 obtain ⟨_, _, _, t, _, cells, hc⟩ := hq
 obtain ⟨es, c, h3⟩ := hF
 rw [h3] at hc
 cases hc
open Go.Shelf Go.Maps Go.Sort in
theorem sorts31 (m : Nat) : AnyZI.SortsIn Try.prog Go.Proofs.Try.sortedA_ren Fence.wide m :=
 ⟨fun blk off cap ss W hH hblk hsz => callsIn_wide.2 (Go.Proofs.Try.slices_Sort_int blk off cap ss W hH hblk hsz),
  fun p cap W => callsIn_wide.2 (Go.Proofs.Try.slices_Sort_int_none p cap W)⟩
open Go.Shelf Go.Maps Go.Sort in
theorem keys_c (mb : Option Nat) (W : World) : Calls Try.prog 41 #[.map mb] W fun e w' => e = .returned (.func (.func 56) #[] #[.pointer (some ⟨W.heap.size, 0, none⟩)]) ∧ w' = W.alloc (.cells #[.map mb] 73) :=
 (callsIn_wide (n := 5)).1 (AnyZI.keys_in Go.Proofs.Try.keysA Fence.wide 5 trivial rfl mb W)
open Go.Shelf Go.Maps Go.Sort in
theorem sorted_c {H : Type} (b nn : Nat) (D0 : DataW H) (R : Value → Option (DataW H × List MemPlace)) (w : World) (hown : w.ownsMap Try.prog 3 R b nn D0) (hmax : Maps.size D0 ≤ maxLen) (hbytes : Maps.size D0 * 8 ≤ 140737488355328) :
  Calls Try.prog 40 #[.func (.func 56) #[] #[.pointer (some ⟨w.heap.size, 0, none⟩)]] (w.alloc (.cells #[.map (some b)] 73)) fun e w' => ∃ (v : Value) (ss : List Int), e = .returned v ∧ ss.Perm (intKeys D0) ∧
   w'.ownsRow (w.alloc (.cells #[.map (some b)] 73)).heap.size 3 1 v ss.length ((ss.mergeSort (fun x y => decide (x ≤ y))).map encZ) ∧ (v = .slice none 0 0 ↔ ss = []) ∧ Below (w.alloc (.cells #[.map (some b)] 73)).heap.size (w.alloc (.cells #[.map (some b)] 73)) w' := by
 refine (callsIn_wide (n := 4)).1 ?_
 have hbl := hown.lt
 have hseq : SeqGives Fence.wide 1 Try.prog 56 #[.pointer (some ⟨w.heap.size, 0, none⟩)] encZ (fun ss => ss.Perm (intKeys D0)) (Maps.size D0) (w.alloc (.cells #[.map (some b)] 73)) :=
  AnyZI.keys_gives (ρ := Go.Proofs.Try.keysA_ren) { Go.Proofs.Try.keysA with } Fence.wide _ trivial rfl (by omega) w.heap.size b nn D0 _ (by simp) (by simp) (by
   obtain ⟨es, clock, hb, Ft, hs, hD⟩ := hown
   exact ⟨es, clock, (Below.heap_alloc _ _ b hbl).trans hb, Ft, hs, hD⟩)
 have cS := AnyZI.sorted_in Go.Proofs.Try.sortedA Fence.wide 4 trivial trivial trivial trivial rfl (by omega) (sorts31 _) (enters_of Go.Proofs.Try.func25 (by kernel_rfl) rfl) 56 #[.pointer (some ⟨w.heap.size, 0, none⟩)] trivial (enters_of Go.Proofs.Try.func56 (by kernel_rfl) rfl) _ _ hmax hbytes _ hseq
 exact cS
open Go.Maps in
/-- Block b is the map of a list's numbers, each with 'true'. -/
def FoundAt (w : World) (b n : Nat) (S : List Int) : Prop := S.Nodup ∧ S.length ≤ n ∧ ∃ (D : DataW Unit), w.ownsMap Try.prog 3 (plainElem Try.prog 4) b n D ∧ IsMap D ∧ ∀ x, has D (.int .i64 x) = decide (x ∈ S)
theorem FoundAt.new (w : World) : FoundAt (w.alloc (.map #[] 0)) w.heap.size 0 [] :=
 ⟨List.nodup_nil, Nat.le_refl _, .map [], World.ownsMap_made _ _ _ _, Maps.isMap_empty, fun x => by simp [Maps.has_eq]⟩
theorem FoundAt.keep {w w' : World} {b n : Nat} {S : List Int} (h : FoundAt w b n S) (hk : w'.heap[b]? = w.heap[b]?) : FoundAt w' b n S := by
 obtain ⟨h1, h2, D, ⟨es, c, hb, hf⟩, h4⟩ := h
 exact ⟨h1, h2, D, ⟨es, c, hk.trans hb, hf⟩, h4⟩
theorem FoundAt.lt {w : World} {b n : Nat} {S : List Int} (h : FoundAt w b n S) : b < w.heap.size := by
 obtain ⟨h1, h2, D, h3, h4⟩ := h
 exact h3.lt
theorem FoundAt.below {w w' : World} {b n : Nat} {S : List Int} (h : FoundAt w b n S) (hb : Below w.heap.size w w') : FoundAt w' b n S := h.keep (hb.block b h.lt)
theorem FoundAt.own {w w' : World} {b n g : Nat} {S : List Int} (h : FoundAt w b n S) (hg : w.grownBy w' (some g)) (hne : b ≠ g) : FoundAt w' b n S := h.keep (hg.block b h.lt (fun e => hne (by injection e)))
open Go.Maps in
theorem wpList_found {ops : Array Oper} {rest : List Oper} {o : Oper} {a : Act} {Q : Exit → Act → World → Prop} {w : World} {b n : Nat} {S : List Int} (hg : o.guard = none) (m x v : Operand) (hop : o.op = Op.mapUpdate 73 m x v) (hm : a.eval m = .map (some b)) (h : FoundAt w b n S) (hn : n < 1000000000) (id : Int) (hw : (Lit.int .i64 id).wf = true) (hx : a.eval x = .int .i64 id) (hv : a.eval v = .bool true)
  (hK : ∀ w', FoundAt w' b (n + 1) (if id ∈ S then S else S ++ [id]) → w.grownBy w' (some b) → wpList Try.prog ops Q rest (a.put o.dst undef) w') : wpList Try.prog ops Q (o :: rest) a w := by
 obtain ⟨h1, h2, D, h3, h4, h5⟩ := h
 refine wpList_mapUpdate_own w hg m x v 73 hop 3 4 (int_keyed Try.underlying3) Try.underlying73 _ b n D hm h3 (by unfold maxLen; omega) _ _ _ hx hv (keyOf_int_mk Try.underlying3 hw) (.lit (.bool true)) [] (by simp [plainElem, Try.underlying4]) ?_
 intro w' h6 h7
 refine hK w' ⟨?_, ?_, D.put (.int .i64 id) (.lit (.bool true)), h6, h4.put _ _, fun z => ?_⟩ h7
 ·split
  ·exact h1
  ·rename_i hni
   exact List.nodup_append.2 ⟨h1, by simp, fun a ha c hc e => by simp at hc; exact hni (by rw [← hc, ← e]; exact ha)⟩
 ·split
  ·omega
  ·rw [List.length_append]; simp; omega
 ·by_cases e : z = id
  ·subst e
   rw [has_put_same (k := .int .i64 z) h4 (by trivial)]
   symm
   rw [decide_eq_true_iff]
   split
   ·assumption
   ·simp
  ·rw [has_put_other (by simpa using e), h5]
   rw [decide_eq_decide]
   split
   ·rfl
   ·simp [e]
open Go.Maps in
/-- slices.Sorted(maps.Keys(m)): the numbers in order. -/
theorem FoundAt.sorted {w : World} {b n : Nat} {S : List Int} (h : FoundAt w b n S) (hn : n ≤ 1000000000) :
  Calls Try.prog 40 #[.func (.func 56) #[] #[.pointer (some ⟨w.heap.size, 0, none⟩)]] (w.alloc (.cells #[.map (some b)] 73)) fun e w' => ∃ v, e = .returned v ∧ Kd.R (Kd.int .i64) 3 w' w.heap.size (fun _ => True) v (sortI S) ∧ Below w.heap.size w w' := by
 obtain ⟨h1, h2, D, h3, h4, h5⟩ := h
 have hp : S.Perm (intKeys D) := CollectedI.perm (left := fun _ => false) ⟨h1, fun x => by rw [h5]; simp⟩ h3 (int_keyed Try.underlying3) Try.underlying3 (fun _ => rfl)
 have hsz : Maps.size D = S.length := by
  obtain ⟨es, rfl⟩ := h4
  rw [Maps.size_eq, hp.length_eq]
  simp [intKeys]
 refine (sorted_c b n D _ w h3 (by rw [hsz]; unfold maxLen; omega) (by rw [hsz]; omega)).mono ?_
 rintro e w' ⟨v, ss, rfl, hss, hrow, _, hb⟩
 have e1 : ss.mergeSort (fun x y => decide (x ≤ y)) = sortI S := mergeSort_of_perm_i (hss.trans hp.symm)
 have e2 : ss.length = (sortI S).length := by rw [sortI_len, hss.length_eq, hp.length_eq]
 refine ⟨v, rfl, Kd.R_of_own ?_ (fun _ _ => trivial), below_step (below_alloc (Below.refl _ _) _) hb⟩
 rw [e1, e2] at hrow
 exact own_less hrow (by simp)
theorem FoundAt.blk {w : World} {b n : Nat} {S : List Int} (h : FoundAt w b n S) : ∃ es c, w.heap[b]? = some (.map es c) := by
 obtain ⟨_, _, D, ⟨es, c, hb, _⟩, _⟩ := h
 exact ⟨es, c, hb⟩
def groupTo (x : List S48) : Nat → List (Int × List Int)
 | 0 => []
 | n + 1 => gput (groupTo x n) (x.getD n z48).f0 ((glook (groupTo x n) (x.getD n z48).f0).getD [] ++ [(x.getD n z48).f1])
theorem groupTo_len (x : List S48) : ∀ (n : Nat) (k : Int) (ys : List Int), glook (groupTo x n) k = some ys → ys.length ≤ n
 | 0, k, ys, h => by simp [groupTo, glook] at h
 | n + 1, k, ys, h => by
  rw [groupTo, glook_put] at h
  split at h
  ·obtain rfl := Option.some.inj h
   rw [List.length_append]
   cases hg : glook (groupTo x n) (x.getD n z48).f0 with
   | none => simp
   | some zs => have := groupTo_len x n _ zs hg; simp; omega
  ·have := groupTo_len x n k ys h
   omega
theorem groupTo_get (x : List S48) (n : Nat) (k : Int) : ((glook (groupTo x n) k).getD []).length ≤ n := by
 cases hg : glook (groupTo x n) k with
 | none => simp
 | some zs => exact groupTo_len x n k zs hg
def foundTo (G : List (Int × List Int)) (y : List S48) : Nat → List Int
 | 0 => []
 | n + 1 => if ((glook G (y.getD n z48).f0).getD []).any (fun f => ovl f (y.getD n z48).f1) = true then (if (y.getD n z48).f0 ∈ foundTo G y n then foundTo G y n else foundTo G y n ++ [(y.getD n z48).f0]) else foundTo G y n
def overlapF (x y : List S48) : List Int := sortI (foundTo (groupTo x x.length) y y.length)
set_option maxHeartbeats 16000000 in
set_option maxRecDepth 100000 in
theorem overlap31_calls (x : List S48) (A0 : Option Addr) (c0 : Nat) (y : List S48) (A1 : Option Addr) (c1 : Nat) (w : World) (hx : Kd.C k48 w A0 x.length x) (lx : x.length ≤ c0) (hy : Kd.C k48 w A1 y.length y) (ly : y.length ≤ c1) (nx : x.length ≤ 10000000) (ny : y.length ≤ 10000000) (hwf : ∀ c ∈ y, (Lit.int .i64 c.f0).wf = true) :
  Calls Try.prog 14 #[.slice A0 x.length c0, .slice A1 y.length c1] w fun e w' => ∃ v, e = .returned v ∧ Kd.R (Kd.int .i64) 3 w' w.heap.size (fun _ => True) v (overlapF x y) ∧ Below w.heap.size w w' := by
 have HX := Aside0.mk hx
 have HY := Aside0.mk hy
 have NX := Aside0.mk nx
 have NY := Aside0.mk ny
 have HWF := Aside0.mk hwf
 have HZ := Aside0.mk (fun W : World => (by kernel_rfl : (zeroValue 26).run Try.prog W = .ok (.slice none 0 0) W))
 have hmm := @run_makeMap Try.prog
 clear hx hy lx ly nx ny hwf
 go_enter Try.func14, Try.ntmps14
 go_wp2
 go_loopg [14] x.length (fun gk v14 w' => ∃ (j : Nat), v14 = .int .i64 j ∧ j + gk = x.length ∧ Aside0 (MapG w' w.heap.size w.heap.size (groupTo x j)) ∧ Aside0 (Below w.heap.size w w'))
 case atStart => exact ⟨0, rfl, by omega, ⟨MapG.new w _⟩, ⟨below_alloc (Below.refl _ _) _⟩⟩
 case round =>
  obtain ⟨j, rfl, hj, HG, HB⟩ := hrel
  obtain ⟨go, rfl⟩ : ∃ go, go = gk := ⟨gk, rfl⟩
  have HJ := Aside0.mk hj
  cases go with
  | zero =>
   have g1 : decide ((j : Int) < (x.length : Int)) = false := decide_eq_false (by omega)
   have g2 : decide (j < x.length) = false := decide_eq_false (by omega)
   obtain rfl : j = x.length := by omega
   clear hj
   go_wp2
   obtain ⟨wo, rfl⟩ : ∃ wo : World, wo = wr := ⟨_, rfl⟩
   have HGW := Aside0.mk (HB.out.size : w.heap.size ≤ wo.heap.size)
   have NGF := Aside0.mk (by have := HG.out.lt; omega : w.heap.size ≠ wo.heap.size)
   have HG0 := HG
   have HB0 := HB
   clear HG HB
   go_loopg [33] y.length (fun gk v33 w' => ∃ (j : Nat), v33 = .int .i64 j ∧ j + gk = y.length ∧ Aside0 (MapG w' w.heap.size w.heap.size (groupTo x x.length)) ∧ (∃ n, n ≤ j ∧ Aside0 (FoundAt w' wo.heap.size n (foundTo (groupTo x x.length) y j))) ∧ Aside0 (Below w.heap.size w w'))
   case atStart => exact ⟨0, rfl, by omega, ⟨HG0.out.below (below_alloc (Below.refl _ _) _)⟩, ⟨0, Nat.le_refl _, ⟨FoundAt.new wo⟩⟩, ⟨below_step HB0.out (below_alloc (Below.refl _ _) _)⟩⟩
   case round =>
    obtain ⟨j, rfl, hj, HG, ⟨n, hnj, HF⟩, HB⟩ := hrel
    obtain ⟨go, rfl⟩ : ∃ go, go = gk := ⟨gk, rfl⟩
    have HJ := Aside0.mk hj
    have HNJ := Aside0.mk hnj
    cases go with
    | zero =>
     have g1 : decide ((j : Int) < (y.length : Int)) = false := decide_eq_false (by omega)
     have g2 : decide (j < y.length) = false := decide_eq_false (by omega)
     obtain rfl : j = y.length := by omega
     have HNN := Aside0.mk (by have := NY.out; omega : n ≤ 1000000000)
     clear hj hnj
     go_wp2_with (first | (go_at_call 41; go_loud ((with_reducible refine (keys_c (some wo.heap.size) _).mono ?_); rintro e w_k ⟨rfl, rfl⟩)) | (go_at_call 40; go_loud ((with_reducible refine (FoundAt.sorted HF.out HNN.out).mono ?_); rintro e w_s ⟨v, rfl, hr, hb⟩; have HRS := Aside0.mk hr; have HBS := Aside0.mk hb; clear hr hb)))
     go_ret
     exact ⟨_, rfl, Kd.R_lower HRS.out HB.out.size, below_step HB.out HBS.out⟩
    | succ g =>
     have hjl : j < y.length := by omega
     have HJL := Aside0.mk hjl
     have g1 : decide ((j : Int) < (y.length : Int)) = true := decide_eq_true (by omega)
     have g2 : decide (j < y.length) = true := decide_eq_true hjl
     have p0 : (0 : Int) ≤ (j : Int) := by omega
     have p1 : (j : Int) < (y.length : Int) := by omega
     have HJN := Aside0.mk (by have := NY.out; omega : n < 1000000000)
     obtain ⟨ad, eA, q0, q1⟩ := at_T48 (Kd.C_below HY.out HB.out) (j : Int) p0 p1
     obtain ⟨r, hr⟩ : ∃ r, r = rd_T48 y (j : Int) := ⟨_, rfl⟩
     rw [Int.toNat_natCast] at q0 q1
     rw [← hr] at q0 q1
     have HR := Aside0.mk (hr.trans (by unfold rd_T48; rw [Int.toNat_natCast]) : r = y.getD j z48)
     have HWR := Aside0.mk (HWF.out r (by rw [HR.out, List.getD_eq_getElem?_getD, List.getElem?_eq_getElem HJL.out]; exact List.getElem_mem _))
     subst eA
     obtain ⟨an, hand⟩ : ∃ an, an = ((glook (groupTo x x.length) r.f0).getD []).any (fun f => ovl f r.f1) := ⟨_, rfl⟩
     have HAN := Aside0.mk hand.symm
     have HFS := Aside0.mk (by rw [foundTo, ← HR.out, ← hand] : foundTo (groupTo x x.length) y (j + 1) = if an = true then (if r.f0 ∈ foundTo (groupTo x x.length) y j then foundTo (groupTo x x.length) y j else foundTo (groupTo x x.length) y j ++ [r.f0]) else foundTo (groupTo x x.length) y j)
     clear hr hj hjl hnj hand
     cases an with
     | true =>
      go_wp2_with (first | ((with_reducible refine gate_dst (N := 10) rfl ?_); refine box_event ?hg (N := 10) ?hd (cs := #[.int .i64 0, .int .i64 0]) (t := 48) ?hr ?_; (case hd => rfl); (case hg => rfl); (case hr => first | (go_simp; done) | (go_simp; rfl)); intro g10 hg w_10 hbox hb; have BK10 := Aside0.mk hbox; have GE10 := Aside0.mk (by rw [hg]; exact HB.out.size : w.heap.size ≤ g10); have n0_ := Aside0.mk (below_step HB.out hb); have n1_ := Aside0.mk (HG.out.below hb); have n2_ := Aside0.mk (HF.out.below hb); have NB10 := Aside0.mk (by have := HG.out.lt; omega : w.heap.size ≠ g10); have NF10 := Aside0.mk (by have := HF.out.lt; omega : wo.heap.size ≠ g10); clear HB HG HF q0 q1 hbox hb hg; have HB := n0_; have HG := n1_; have HF := n2_; clear n0_ n1_ n2_; have z100 := (blk_cell BK10.out 0).trans rfl; have z101 := (blk_cell BK10.out 1).trans rfl; have y100 := blk_frozen BK10.out 0; have y101 := blk_frozen BK10.out 1) | ((with_reducible refine settle2 BK10.out ?_); intro w_10s hbk hg; clear z100 z101 y100 y101; have n0_ := Aside0.mk (below_own HB.out hg GE10.out HB.out.size); have n1_ := Aside0.mk (HG.out.own hg NB10.out BK10.out); have n2_ := Aside0.mk (HF.out.own hg NF10.out); clear HB HG HF BK10; have HB := n0_; have HG := n1_; have HF := n2_; have BK10 := Aside0.mk hbk; clear n0_ n1_ n2_ hbk hg; obtain ⟨v, F, hlk, hRv, hput⟩ := HG.out.get r.f0 Try.prog 72 26 Try.underlying72 (KeyOk.int Try.underlying3) HZ.out; have HRV := Aside0.mk hRv; have hk1 := hlk w_10s rfl; clear hlk hput hRv; have z100 := (blk_cell BK10.out 0).trans rfl; have z101 := (blk_cell BK10.out 1).trans rfl) | (go_at_call 37; go_loud ((with_reducible refine (contains_calls _ _ _ _ _ _ _ _ HRV.out BK10.out).mono ?_); rintro e w_11 ⟨rfl, hb⟩; rw [HAN.out]; have n0_ := Aside0.mk (below_step HB.out hb); have n1_ := Aside0.mk (HG.out.below hb); have n2_ := Aside0.mk (HF.out.below hb); have n3_ := Aside0.mk (blk_below BK10.out hb); clear HB HG HF BK10 z100 z101; have HB := n0_; have HG := n1_; have HF := n2_; have BK10 := n3_; clear n0_ n1_ n2_ n3_ hb hk1; have z100 := (blk_cell BK10.out 0).trans rfl)) | ((with_reducible refine wpList_found rfl _ _ _ rfl rfl HF.out HJN.out r.f0 HWR.out rfl rfl ?_); intro w_12 hf12 hg12; have n0_ := Aside0.mk (below_own HB.out hg12 HGW.out HB.out.size); have n1_ := Aside0.mk (HG.out.mapped hg12 HF.out.blk NGF.out); have n2_ := Aside0.mk hf12; clear HB HG HF; have HB := n0_; have HG := n1_; have HF := n2_; clear n0_ n1_ n2_ hf12 hg12 z100))
      go_roundg g
      case measure => omega
      case rel => exact ⟨j + 1, by have := NY.out; have := HJL.out; exact congrArg (Value.int .i64) (show wrap64 ((j : Int) + 1) = ((j + 1 : Nat) : Int) from by unfold wrap64; omega), by have := HJ.out; omega, HG, ⟨n + 1, by have := HNJ.out; omega, ⟨by rw [HFS.out, if_pos (by trivial)]; exact HF.out⟩⟩, HB⟩
     | false =>
      go_wp2_with (first | ((with_reducible refine gate_dst (N := 10) rfl ?_); refine box_event ?hg (N := 10) ?hd (cs := #[.int .i64 0, .int .i64 0]) (t := 48) ?hr ?_; (case hd => rfl); (case hg => rfl); (case hr => first | (go_simp; done) | (go_simp; rfl)); intro g10 hg w_10 hbox hb; have BK10 := Aside0.mk hbox; have GE10 := Aside0.mk (by rw [hg]; exact HB.out.size : w.heap.size ≤ g10); have n0_ := Aside0.mk (below_step HB.out hb); have n1_ := Aside0.mk (HG.out.below hb); have n2_ := Aside0.mk (HF.out.below hb); have NB10 := Aside0.mk (by have := HG.out.lt; omega : w.heap.size ≠ g10); have NF10 := Aside0.mk (by have := HF.out.lt; omega : wo.heap.size ≠ g10); clear HB HG HF q0 q1 hbox hb hg; have HB := n0_; have HG := n1_; have HF := n2_; clear n0_ n1_ n2_; have z100 := (blk_cell BK10.out 0).trans rfl; have z101 := (blk_cell BK10.out 1).trans rfl; have y100 := blk_frozen BK10.out 0; have y101 := blk_frozen BK10.out 1) | ((with_reducible refine settle2 BK10.out ?_); intro w_10s hbk hg; clear z100 z101 y100 y101; have n0_ := Aside0.mk (below_own HB.out hg GE10.out HB.out.size); have n1_ := Aside0.mk (HG.out.own hg NB10.out BK10.out); have n2_ := Aside0.mk (HF.out.own hg NF10.out); clear HB HG HF BK10; have HB := n0_; have HG := n1_; have HF := n2_; have BK10 := Aside0.mk hbk; clear n0_ n1_ n2_ hbk hg; obtain ⟨v, F, hlk, hRv, hput⟩ := HG.out.get r.f0 Try.prog 72 26 Try.underlying72 (KeyOk.int Try.underlying3) HZ.out; have HRV := Aside0.mk hRv; have hk1 := hlk w_10s rfl; clear hlk hput hRv; have z100 := (blk_cell BK10.out 0).trans rfl; have z101 := (blk_cell BK10.out 1).trans rfl) | (go_at_call 37; go_loud ((with_reducible refine (contains_calls _ _ _ _ _ _ _ _ HRV.out BK10.out).mono ?_); rintro e w_11 ⟨rfl, hb⟩; rw [HAN.out]; have n0_ := Aside0.mk (below_step HB.out hb); have n1_ := Aside0.mk (HG.out.below hb); have n2_ := Aside0.mk (HF.out.below hb); have n3_ := Aside0.mk (blk_below BK10.out hb); clear HB HG HF BK10 z100 z101; have HB := n0_; have HG := n1_; have HF := n2_; have BK10 := n3_; clear n0_ n1_ n2_ n3_ hb hk1; have z100 := (blk_cell BK10.out 0).trans rfl)))
      go_roundg g
      case measure => omega
      case rel => exact ⟨j + 1, by have := NY.out; have := HJL.out; exact congrArg (Value.int .i64) (show wrap64 ((j : Int) + 1) = ((j + 1 : Nat) : Int) from by unfold wrap64; omega), by have := HJ.out; omega, HG, ⟨n, by have := HNJ.out; omega, ⟨by rw [HFS.out, if_neg (by simp)]; exact HF.out⟩⟩, HB⟩
  | succ g =>
   have hjl : j < x.length := by omega
   have HJL := Aside0.mk hjl
   have g1 : decide ((j : Int) < (x.length : Int)) = true := decide_eq_true (by omega)
   have g2 : decide (j < x.length) = true := decide_eq_true hjl
   have p0 : (0 : Int) ≤ (j : Int) := by omega
   have p1 : (j : Int) < (x.length : Int) := by omega
   obtain ⟨ad, eA, q0, q1⟩ := at_T48 (Kd.C_below HX.out HB.out) (j : Int) p0 p1
   obtain ⟨r, hr⟩ : ∃ r, r = rd_T48 x (j : Int) := ⟨_, rfl⟩
   rw [Int.toNat_natCast] at q0 q1
   rw [← hr] at q0 q1
   have HR := Aside0.mk (hr.trans (by unfold rd_T48; rw [Int.toNat_natCast]) : r = x.getD j z48)
   subst eA
   clear hr hj hjl
   go_wp2_with (first | ((with_reducible refine gate_dst (N := 7) rfl ?_); refine box_event ?hg (N := 7) ?hd (cs := #[.int .i64 0, .int .i64 0]) (t := 48) ?hr ?_; (case hd => rfl); (case hg => rfl); (case hr => first | (go_simp; done) | (go_simp; rfl)); intro g7 hg w_7 hbox hb; have BK7 := Aside0.mk hbox; have GE7 := Aside0.mk (by rw [hg]; exact HB.out.size : w.heap.size ≤ g7); have n0_ := Aside0.mk (below_step HB.out hb); have n1_ := Aside0.mk (HG.out.below hb); have NB7 := Aside0.mk (by have := HG.out.lt; omega : w.heap.size ≠ g7); clear HB HG q0 q1 hbox hb hg; have HB := n0_; have HG := n1_; clear n0_ n1_; have z70 := (blk_cell BK7.out 0).trans rfl; have z71 := (blk_cell BK7.out 1).trans rfl; have y70 := blk_frozen BK7.out 0; have y71 := blk_frozen BK7.out 1))
   with_reducible refine settleC2 BK7.out ?_
   intro w_7s hbk hg
   clear z70 z71 y70 y71
   have n0_ := Aside0.mk (below_own HB.out hg GE7.out HB.out.size)
   have n1_ := Aside0.mk (HG.out.own hg NB7.out BK7.out)
   clear HB HG BK7
   have HB := n0_
   have HG := n1_
   have BK7 := Aside0.mk hbk
   clear n0_ n1_ hbk hg
   have z70 := (blk_cell BK7.out 0).trans rfl
   have z71 := (blk_cell BK7.out 1).trans rfl
   obtain ⟨v, F, hlk, hRv, hput⟩ := HG.out.get r.f0 Try.prog 72 26 Try.underlying72 (KeyOk.int Try.underlying3) HZ.out
   obtain ⟨Av, cv, rfl⟩ := Kd.R_slice hRv
   obtain ⟨old, hold⟩ : ∃ old, old = (glook (groupTo x j) r.f0).getD [] := ⟨_, rfl⟩
   have HOD := Aside0.mk hold
   have HOL := Aside0.mk (by rw [hold]; exact groupTo_get x j r.f0 : old.length ≤ j)
   rw [← hold] at hRv hlk hput
   have HPUT := Aside0.mk hput
   have HRV := Aside0.mk (Kd.R_mono (ok' := fun q => F q ∨ w_7s.heap.size ≤ q) hRv (fun q hq => .inl hq))
   have hk1 := hlk w_7s.drew rfl
   have hk2 := hlk (w_7s.alloc (.cells #[.int .i64 r.f1] 3)).drew (Below.heap_alloc _ _ _ HG.out.lt)
   have zz0 : (w_7s.alloc (Obj.cells #[.int .i64 r.f1] 3)).drew.cell? ⟨g7, 0, none⟩ = some (.int .i64 r.f0) := (blk_cell (blk_alloc BK7.out _) 0).trans rfl
   have HBW := Aside0.mk (HB.out.size)
   have HLE := Aside0.mk (by have := HOL.out; have := HJL.out; have := NX.out; omega : (old.length + 1) * 8 ≤ 140737488355328)
   have HGO := Aside0.mk (Kd.R_ne hRv BK7.out (by decide) : some g7 ≠ (Value.slice Av old.length cv).ownBlock)
   have HE9 := Aside0.mk (by simp : (old ++ [r.f1]).length = old.length + 1)
   clear hlk hput hRv hold
   first | go_region_law (go_loud (refine Kd.R_append_step (Kd.int .i64) (w0 := w) (W := w_7s.drew) w.heap.size rfl (.tmp 24) (.tmp 27) 26 3 (.int .i64 0) 8 rfl Try.underlying26 (by kernel_rfl) rfl (by decide) (by omega) (.slice Av old.length cv) old r.f1 [.int .i64 r.f1] (fun q => F q ∨ w_7s.heap.size ≤ q) (fun _ => False) rfl rfl rfl (fun _ h => h.elim) (fun _ h => .inr h) (Kd.R_drew HRV.out) (below_drew1 HB.out) HBW.out HLE.out ?_; intro v9 w9 ho9 hb9 hg9 hat9; obtain ⟨A9, c9, rfl⟩ := Kd.R_slice ho9; obtain ⟨w10, hmu, hG10, hg10⟩ := HPUT.out w9 _ _ ho9 ⟨hg9.os, hg9.tape, hg9.output, hg9.size, hg9.block⟩; rw [HE9.out] at hmu; have BK9 := Aside0.mk (blk_grown (w := w_7s.drew) BK7.out hg9 HGO.out); have zz9 := (blk_cell BK9.out 0).trans rfl; have HG10 := Aside0.mk hG10; have HGR := Aside0.mk hg10; have HB9 := Aside0.mk hb9; clear ho9 hb9 hg9 hat9 hG10 hg10)) | fail
   all_goals
    go_wp2
    go_roundg g
    case measure => omega
    case rel =>
     refine ⟨j + 1, by have := NX.out; have := HJL.out; exact congrArg (Value.int .i64) (show wrap64 ((j : Int) + 1) = ((j + 1 : Nat) : Int) from by unfold wrap64; omega), by have := HJ.out; omega, ⟨?_⟩, ⟨below_own HB9.out HGR.out (Nat.le_refl _) HB9.out.size⟩⟩
     rw [groupTo, ← HR.out, ← HOD.out]
     exact HG10.out
theorem foundTo_nodup (G : List (Int × List Int)) (y : List S48) : ∀ n, (foundTo G y n).Nodup
 | 0 => List.nodup_nil
 | n + 1 => by
  rw [foundTo]
  split
  ·split
   ·exact foundTo_nodup G y n
   ·rename_i h
    exact List.nodup_append.2 ⟨foundTo_nodup G y n, List.nodup_cons.2 ⟨List.not_mem_nil, List.nodup_nil⟩, fun a ha c hc e => h (by rw [← List.mem_singleton.1 hc, ← e]; exact ha)⟩
  ·exact foundTo_nodup G y n
theorem overlapF_eq (x y : List S48) : overlapF x y = ascL (foundTo (groupTo x x.length) y y.length) := sortI_asc (foundTo_nodup _ _ _)
def fitI (a : Int) : Bool := decide (-9223372036854775808 ≤ a) && decide (a < 9223372036854775808)
theorem fitI_wf (a : Int) (h : fitI a = true) : (Lit.int .i64 a).wf = true := by
 unfold fitI at h
 simp only [Bool.and_eq_true, decide_eq_true_eq] at h
 have h1 : IntKind.i64.min = -9223372036854775808 := by decide
 have h2 : IntKind.i64.max = 9223372036854775807 := by decide
 simp only [Lit.wf, h1, h2, Bool.and_eq_true, decide_eq_true_eq]
 omega

def change_Overlap.f (l0 : List (S48)) (l1 : List (S48)) : Option (List Int) := if decide (l0.length ≤ 10000000) && (decide (l1.length ≤ 10000000) && l1.all (fun c => fitI c.f0)) then some (ascL (foundTo (groupTo l0 l0.length) l1 l1.length)) else none
theorem change_Overlap.calls (A0 : Option Addr) (c0 : Nat) (l0 : List (S48)) (A1 : Option Addr) (c1 : Nat) (l1 : List (S48)) (r : List Int) (w : World) (hr0 : Kd.C k48 w A0 l0.length l0) (hc0 : l0.length ≤ c0) (hr1 : Kd.C k48 w A1 l1.length l1) (hc1 : l1.length ≤ c1) (h : change_Overlap.f l0 l1 = some r) :
  Calls Try.prog 14 #[.slice A0 l0.length c0, .slice A1 l1.length c1] w fun e w' => ∃ v0_ : Value, e = .returned (v0_) ∧ Kd.R (Kd.int .i64) 3 w' w.heap.size (fun _ => True) v0_ r ∧ Below w.heap.size w w' := by
 unfold change_Overlap.f at h
 split at h
 case isFalse => cases h
 rename_i hok
 simp only [Bool.and_eq_true, decide_eq_true_eq, List.all_eq_true] at hok
 obtain rfl := Option.some.inj h
 rw [← overlapF_eq]
 exact overlap31_calls l0 A0 c0 l1 A1 c1 w hr0 hc0 hr1 hc1 hok.1 hok.2.1 (fun c hc => fitI_wf _ (hok.2.2 c hc))

end Go.Proofs.Ytcfjdehpbckomaa.Q
