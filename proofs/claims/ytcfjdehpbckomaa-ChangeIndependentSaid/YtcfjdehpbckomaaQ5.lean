
import Derived.Test.YtcfjdehpbckomaaQ0
import Derived.Test.YtcfjdehpbckomaaQ2
import Derived.Test.YtcfjdehpbckomaaQ4
namespace Go.Proofs.Ytcfjdehpbckomaa.Q
open Go.RowKit Go.Proofs.YtcfjdehpbckomaaW.dS Go.Proofs.YtcfjdehpbckomaaW.jm Go.Proofs.YtcfjdehpbckomaaW.mm
attribute [local go_sem] mU na nt mX m6 nu mP mW
set_option linter.unusedVariables false
set_option linter.unusedSimpArgs false
/-! ### change_Overlap: function 14 (by hand) -/
def ph (a b : Int) : Bool := if a = b then decide (a ≠ 1) && decide (a ≠ 2) else decide (a = 2) || decide (b = 2)
set_option maxHeartbeats 2000000 in
theorem Z9 (a b : Int) (w : World) : Calls Try.prog 39 #[.int .i64 a, .int .i64 b] w fun e w' => e = .returned (.bool (ph a b)) ∧ w' = w := by
 unfold ph
 by_cases h : a = b
 ·subst h
  have e1 : (a == a) = true := beq_self_eq_true a
  rw [if_pos rfl]
  by_cases h1 : a = 1
  ·subst h1
   go_enter Try.func39, Try.ntmps39
   go_wp2
   go_ret
   exact ⟨rfl, rfl⟩
  ·have e2 : (a != 1) = true := bne_iff_ne.2 h1
   have e3 : (a == 1) = false := beq_eq_false_iff_ne.2 h1
   rw [decide_eq_true h1]
   by_cases h2 : a = 2
   ·subst h2
    clear e1 e2 e3 h1
    go_enter Try.func39, Try.ntmps39
    go_wp2
    go_ret
    exact ⟨rfl, rfl⟩
   ·have e4 : (a != 2) = true := bne_iff_ne.2 h2
    have e5 : (a == 2) = false := beq_eq_false_iff_ne.2 h2
    rw [decide_eq_true h2]
    clear h1 h2
    go_enter Try.func39, Try.ntmps39
    go_wp2
    go_ret
    exact ⟨rfl, rfl⟩
 ·have e1 : (a == b) = false := beq_eq_false_iff_ne.2 h
  rw [if_neg h]
  by_cases h1 : a = 2
  ·subst h1
   rw [decide_eq_true rfl]
   clear h
   go_enter Try.func39, Try.ntmps39
   go_wp2
   go_ret
   exact ⟨rfl, rfl⟩
  ·have e3 : (a == 2) = false := beq_eq_false_iff_ne.2 h1
   rw [decide_eq_false h1]
   by_cases h2 : b = 2
   ·have e4 : (b == 2) = true := beq_iff_eq.2 h2
    rw [decide_eq_true h2]
    clear h h1 h2
    go_enter Try.func39, Try.ntmps39
    go_wp2
    go_ret
    exact ⟨rfl, rfl⟩
   ·have e4 : (b == 2) = false := beq_eq_false_iff_ne.2 h2
    rw [decide_eq_false h2]
    clear h h1 h2
    go_enter Try.func39, Try.ntmps39
    go_wp2
    go_ret
    exact ⟨rfl, rfl⟩
set_option maxHeartbeats 2000000 in
theorem aj7 (f id fd : Int) (g : Nat) (w : World) (h : w.heap[g]? = some (.cells #[.int .i64 id, .int .i64 fd] 48 (0, 0))) : Calls Try.prog 38 #[.int .i64 f, .pointer (some ⟨g, 0, none⟩)] w fun e w' => e = .returned (.bool (ph f fd)) ∧ w' = w := by
 have z1 := (aj h 1).trans rfl
 clear h
 go_enter Try.func38, Try.ntmps38
 go_wp2_with (go_at_call 39; (with_reducible refine (Z9 f fd _).mono ?_); rintro e w' ⟨rfl, rfl⟩)
 go_ret
 exact ⟨rfl, rfl⟩
theorem aja : ∀ args w, (callFunc 38 args).run Try.prog w = .ok (.enter 38 args) w := fun args w => Rz Try.func38 (by kernel_rfl) rfl args w
theorem Y3 (base : Nat) (ok : Nat → Prop) (v : Value) (xs : List Int) (g : Nat) (id fd : Int) (w : World) (hR : Kd.R (Kd.int .i64) 3 w base ok v xs) (hg : w.heap[g]? = some (.cells #[.int .i64 id, .int .i64 fd] 48 (0, 0))) :
  Calls Try.prog 37 #[v, .func (.func 38) #[] #[.pointer (some ⟨g, 0, none⟩)]] w fun e w' => e = .returned (.bool (xs.any (fun f => ph f fd))) ∧ Below w.heap.size w w' := by
 rcases Nat.eq_zero_or_pos xs.length with h0 | hp
 ·obtain ⟨A, c, rfl⟩ := Kd.bm hR
  have hx : xs = [] := List.eq_nil_of_length_eq_zero h0
  subst hx
  refine (Go.Proofs.Try.slices_ContainsFunc_empty (α := Int) A c _ w).mono ?_
  rintro e w' ⟨rfl, rfl⟩
  exact ⟨rfl, Below.refl _ _⟩
 ·obtain ⟨k, cap, rfl, h1, h2, cells, hcl⟩ := Kd.KH hR hp
  have hmax := (Kd.b_ hR).2.2
  refine (Go.Proofs.Try.slices_ContainsFunc (Value.int .i64) (fun f => ph f fd) 38 #[.pointer (some ⟨g, 0, none⟩)] aja k 0 xs.length cap xs w ?_ (Nat.le_refl _) (Kd.Wo hmax) ?_).mono ?_
  ·intro W f hb
   exact (aj7 f id fd g W (di hg hb)).mono fun e w' ⟨h1, h2⟩ => ⟨h1, 0, by rw [h2]; rfl⟩
  ·intro j hj
   obtain ⟨hc, _⟩ := Kd.agL (0 : Int) hR (j : Int) (by omega) (by omega)
   rw [Int.toNat_natCast] at hc
   rw [Nat.zero_add, hc]
   simp [eY, List.getD_eq_getElem?_getD, List.getElem?_eq_getElem hj, getElem!_pos, hj]
  ·rintro e w' ⟨rfl, q, rfl⟩
   exact ⟨by rw [List.take_length], aY (Below.refl _ _) _⟩
section
variable {κ β : Type}
def nO (V : κ → β → Value → Prop) : List (κ × Value) → List (κ × β) → Prop
 | [], [] => True
 | p :: l, q :: m => p.1 = q.1 ∧ V q.1 q.2 p.2 ∧ nO V l m
 | _, _ => False
theorem nO.look [DecidableEq κ] {V : κ → β → Value → Prop} (k : κ) : ∀ {l : List (κ × Value)} {m : List (κ × β)}, nO V l m → (lF l k = none ∧ cK m k = none) ∨ ∃ v x, lF l k = some v ∧ cK m k = some x ∧ V k x v
 | [], [], _ => .inl ⟨rfl, rfl⟩
 | p :: l, q :: m, h => by
  obtain ⟨h1, h2, h3⟩ := h
  rw [lF, cK, h1]
  by_cases e : k = q.1
  ·rw [if_pos e, if_pos e]
   exact .inr ⟨_, _, rfl, rfl, e ▸ h2⟩
  ·rw [if_neg e, if_neg e]
   exact nO.look k h3
 | [], _ :: _, h => h.elim
 | _ :: _, [], h => h.elim
theorem nO.put [DecidableEq κ] {V V' : κ → β → Value → Prop} (k : κ) {v : Value} {x : β} (hv : V' k x v) (hV : ∀ k' x v, k' ≠ k → V k' x v → V' k' x v) : ∀ {l : List (κ × Value)} {m : List (κ × β)}, (m.map (·.1)).Nodup → nO V l m → nO V' (oB l k v) (fG m k x)
 | [], [], _, _ => ⟨rfl, hv, trivial⟩
 | p :: l, q :: m, hn, h => by
  obtain ⟨h1, h2, h3⟩ := h
  have hc := List.nodup_cons.1 hn
  rw [oB, fG, h1]
  by_cases e : k = q.1
  ·rw [if_pos e, if_pos e]
   refine ⟨rfl, hv, ?_⟩
   have : ∀ {l : List (κ × Value)} {m : List (κ × β)}, k ∉ m.map (·.1) → nO V l m → nO V' l m := by
    intro l
    induction l with
    | nil => intro m _ h; cases m with | nil => exact trivial | cons => exact h.elim
    | cons p l ih =>
     intro m hm h
     cases m with
     | nil => exact h.elim
     | cons q m => exact ⟨h.1, hV _ _ _ (fun e => hm (by rw [← e]; simp)) h.2.1, ih (fun e => hm (List.mem_cons_of_mem _ e)) h.2.2⟩
   exact this (by rw [e]; exact hc.1) h3
  ·rw [if_neg e, if_neg e]
   exact ⟨h1, hV _ _ _ (fun e' => e e'.symm) h2, nO.put k hv hV hc.2 h3⟩
 | [], _ :: _, _, h => h.elim
 | _ :: _, [], _, h => h.elim
theorem nO.mono {V V' : κ → β → Value → Prop} (hV : ∀ k x v, V k x v → V' k x v) : ∀ {l : List (κ × Value)} {m : List (κ × β)}, nO V l m → nO V' l m
 | [], [], _ => trivial
 | _ :: _, _ :: _, h => ⟨h.1, hV _ _ _ h.2.1, nO.mono hV h.2.2⟩
 | [], _ :: _, h => h.elim
 | _ :: _, [], h => h.elim
end
theorem Hx {κ β : Type} [DecidableEq κ] (m : List (κ × β)) (k : κ) (x : β) (h : (m.map (·.1)).Nodup) : ((fG m k x).map (·.1)).Nodup := by
 rw [Iw]
 split
 ·exact h
 ·rename_i q
  exact List.nodup_append.2 ⟨h, by simp, fun a ha b hb e => by simp at hb; exact q (by rw [← hb, ← e]; exact ha)⟩
def mB (w : World) (base b : Nat) (m : List (Int × List Int)) : Prop := (m.map (·.1)).Nodup ∧ ∃ (f : Nat → Option Int) (l : List (Int × Value)), Q.MapAt ld w b l ∧ nO (fun k xs v => Kd.R (Kd.int .i64) 3 w base (fun q => f q = some k) v xs) l m
theorem mB.new (w : World) (base : Nat) : mB (w.alloc (.map #[] 0)) base w.heap.size [] := ⟨List.nodup_nil, fun _ => none, [], Q.MapAt.new ld w, trivial⟩
theorem mB.below {w W : World} {base b : Nat} {m : List (Int × List Int)} (h : mB w base b m) (hb : Below w.heap.size w W) : mB W base b m := by
 obtain ⟨hn, f, l, h1, h2⟩ := h
 exact ⟨hn, f, l, h1.below hb, h2.mono (fun k x v hv => Kd.p_ hv hb)⟩
theorem mB.lt {w : World} {base b : Nat} {m : List (Int × List Int)} (h : mB w base b m) : b < w.heap.size := by obtain ⟨_, f, l, h1, h2⟩ := h; exact h1.lt
theorem mB.get {w : World} {base b : Nat} {m : List (Int × List Int)} (h : mB w base b m) (k : Int) (P : Program) (T E : TypeId) (hT : P.underlying T = some (.map 3 E)) (hK : ej P 3 ld) (hz : ∀ W : World, (zeroValue E).run P W = .ok (.slice none 0 0) W) :
  ∃ (v : Value) (F : Nat → Prop), (∀ W, W.heap[b]? = w.heap[b]? → (Instr.lookup T (.map (some b)) (.int .i64 k) false).run P W = .ok v W) ∧ Kd.R (Kd.int .i64) 3 w base F v ((cK m k).getD []) ∧
   ∀ (w9 : World) (v9 : Value) (ys : List Int), Kd.R (Kd.int .i64) 3 w9 base (fun q => F q ∨ w.heap.size ≤ q) v9 ys → w.grownBy w9 v.ownBlock →
    ∃ pv, (Instr.mapUpdate T (.map (some b)) (.int .i64 k) v9).run P w9 = .ok () pv ∧ mB pv base b (fG m k ys) ∧ w9.grownBy pv (some b) := by
 obtain ⟨hn, f, l, h1, h2⟩ := h
 have hlk : ∃ v : Value, (lF l k).getD (.slice none 0 0) = v ∧ Kd.R (Kd.int .i64) 3 w base (fun q => f q = some k) v ((cK m k).getD []) := by
  rcases h2.look k with ⟨e1, e2⟩ | ⟨v, x, e1, e2, e3⟩
  ·exact ⟨_, rfl, by rw [e1, e2]; exact Kd.lS _ _ _ _ _⟩
  ·exact ⟨_, rfl, by rw [e1, e2]; exact e3⟩
 obtain ⟨v, hv, hR⟩ := hlk
 refine ⟨v, fun q => f q = some k, fun W hW => ?_, hR, fun w9 v9 ys h9 hg => ?_⟩
 ·have h3 : Q.MapAt ld W b l := h1.keep hW
  have := Wx hK hT (hz W) h3 k false
  rw [this]
  simp [hv]
 ·have hbv : some b ≠ v.ownBlock := fun he => by
   obtain ⟨es, c, h3, _⟩ := h1
   obtain ⟨cells, hc⟩ := Kd.SL hR b he.symm
   rw [h3] at hc
   cases hc
  have Tw : Q.MapAt ld w9 b l := h1.keep (hg.block b h1.lt hbv)
  obtain ⟨pv, hr, aiN, D8⟩ := Ve hK hT Tw k v9
  refine ⟨pv, hr, ⟨Hx m k ys hn, fun q => if w.heap.size ≤ q then some k else f q, _, aiN, ?_⟩, D8⟩
  have SY : ∀ {ok : Nat → Prop} {u : Value} {xs : List Int}, Kd.R (Kd.int .i64) 3 w9 base ok u xs → Kd.R (Kd.int .i64) 3 pv base ok u xs := by
   intro ok u xs hu
   refine Kd.cm (Kd.uE (Kd.jY hu) D8 (fun q hq he => ?_)) (fun q hq => hq.1)
   injection he with he
   subst he
   obtain ⟨_, _, _, t, _, cells, hc⟩ := hq
   obtain ⟨es, c, h3, _⟩ := Tw
   rw [h3] at hc
   cases hc
  refine nO.put k (Kd.cm (SY h9) (fun q hq => ?_)) (fun k' xs u hk hu => ?_) hn h2
  ·show (if w.heap.size ≤ q then some k else f q) = some k
   split
   ·rfl
   ·rename_i hlt
    exact hq.resolve_right hlt
  ·refine SY (Kd.cm (Kd.uE (Kd.jY hu) hg (fun q hq he => ?_)) (fun q hq => ?_))
   ·have := hR.1 q he.symm
    rw [this] at hq
    exact hk (by injection hq.1 with e; exact e.symm)
   ·show (if w.heap.size ≤ q then some k else f q) = some k'
    rw [if_neg (by have := hq.2.2.1; omega)]
    exact hq.1
theorem mB.own {w W : World} {base b g : Nat} {cs : Array Value} {m : List (Int × List Int)} (h : mB w base b m) (hg : w.grownBy W (some g)) (hne : b ≠ g) (hc : w.heap[g]? = some (.cells cs 48 (0, 0))) : mB W base b m := by
 have hlt := h.lt
 obtain ⟨hn, f, l, h1, h2⟩ := h
 exact ⟨hn, f, l, h1.keep (hg.block b hlt (fun e => hne (by injection e))), h2.mono (fun k x v hv => Kd.cm (Kd.uE (Kd.xY hv hc (by decide)) hg (fun k hk e => hk.2 (by injection e))) (fun _ hk => hk.1))⟩
theorem mB.mapped {w W : World} {base b b2 : Nat} {m : List (Int × List Int)} (h : mB w base b m) (hg : w.grownBy W (some b2)) (hF : ∃ es c, w.heap[b2]? = some (.map es c)) (hne : b ≠ b2) : mB W base b m := by
 have hlt := h.lt
 obtain ⟨hn, f, l, h1, h2⟩ := h
 refine ⟨hn, f, l, h1.keep (hg.block b hlt (fun e => hne (by injection e))), h2.mono (fun k x v hv => Kd.cm (Kd.uE (Kd.jY hv) hg (fun q hq he => ?_)) (fun _ hk => hk.1))⟩
 injection he with he
 subst he
 obtain ⟨_, _, _, t, _, cells, hc⟩ := hq
 obtain ⟨es, c, h3⟩ := hF
 rw [h3] at hc
 cases hc
open Go.Shelf Go.Maps Go.Sort in
theorem aix (m : Nat) : AnyZI.SortsIn Try.prog Go.Proofs.Try.sortedA_ren Fence.wide m :=
 ⟨fun blk off cap ss W hH hblk hsz => callsIn_wide.2 (Go.Proofs.Try.slices_Sort_int blk off cap ss W hH hblk hsz),
  fun p cap W => callsIn_wide.2 (Go.Proofs.Try.slices_Sort_int_none p cap W)⟩
open Go.Shelf Go.Maps Go.Sort in
theorem acv (mb : Option Nat) (W : World) : Calls Try.prog 41 #[.map mb] W fun e w' => e = .returned (.func (.func 56) #[] #[.pointer (some ⟨W.heap.size, 0, none⟩)]) ∧ w' = W.alloc (.cells #[.map mb] 73) :=
 (callsIn_wide (n := 5)).1 (AnyZI.keys_in Go.Proofs.Try.keysA Fence.wide 5 trivial rfl mb W)
open Go.Shelf Go.Maps Go.Sort in
theorem aey {H : Type} (b nn : Nat) (D0 : DataW H) (R : Value → Option (DataW H × List MemPlace)) (w : World) (hown : w.ownsMap Try.prog 3 R b nn D0) (hmax : Maps.size D0 ≤ maxLen) (hbytes : Maps.size D0 * 8 ≤ 140737488355328) :
  Calls Try.prog 40 #[.func (.func 56) #[] #[.pointer (some ⟨w.heap.size, 0, none⟩)]] (w.alloc (.cells #[.map (some b)] 73)) fun e w' => ∃ (v : Value) (ss : List Int), e = .returned v ∧ ss.Perm (intKeys D0) ∧
   w'.ownsRow (w.alloc (.cells #[.map (some b)] 73)).heap.size 3 1 v ss.length ((ss.mergeSort (fun x y => decide (x ≤ y))).map encZ) ∧ (v = .slice none 0 0 ↔ ss = []) ∧ Below (w.alloc (.cells #[.map (some b)] 73)).heap.size (w.alloc (.cells #[.map (some b)] 73)) w' := by
 refine (callsIn_wide (n := 4)).1 ?_
 have hbl := hown.lt
 have hseq : SeqGives Fence.wide 1 Try.prog 56 #[.pointer (some ⟨w.heap.size, 0, none⟩)] encZ (fun ss => ss.Perm (intKeys D0)) (Maps.size D0) (w.alloc (.cells #[.map (some b)] 73)) :=
  AnyZI.keys_gives (ρ := Go.Proofs.Try.keysA_ren) { Go.Proofs.Try.keysA with } Fence.wide _ trivial rfl (by omega) w.heap.size b nn D0 _ (by simp) (by simp) (by
   obtain ⟨es, clock, hb, Ft, hs, hD⟩ := hown
   exact ⟨es, clock, (Below.heap_alloc _ _ b hbl).trans hb, Ft, hs, hD⟩)
 have cS := AnyZI.sorted_in Go.Proofs.Try.sortedA Fence.wide 4 trivial trivial trivial trivial rfl (by omega) (aix _) (enters_of Go.Proofs.Try.func25 (by kernel_rfl) rfl) 56 #[.pointer (some ⟨w.heap.size, 0, none⟩)] trivial (enters_of Go.Proofs.Try.func56 (by kernel_rfl) rfl) _ _ hmax hbytes _ hseq
 exact cS
open Go.Maps in
def ll (w : World) (b n : Nat) (S : List Int) : Prop := S.Nodup ∧ S.length ≤ n ∧ ∃ (D : DataW Unit), w.ownsMap Try.prog 3 (plainElem Try.prog 4) b n D ∧ IsMap D ∧ ∀ x, has D (.int .i64 x) = decide (x ∈ S)
theorem ll.new (w : World) : ll (w.alloc (.map #[] 0)) w.heap.size 0 [] :=
 ⟨List.nodup_nil, Nat.le_refl _, .map [], World.ownsMap_made _ _ _ _, Maps.isMap_empty, fun x => by simp [Maps.has_eq]⟩
theorem ll.keep {w w' : World} {b n : Nat} {S : List Int} (h : ll w b n S) (hk : w'.heap[b]? = w.heap[b]?) : ll w' b n S := by
 obtain ⟨h1, h2, D, ⟨es, c, hb, hf⟩, h4⟩ := h
 exact ⟨h1, h2, D, ⟨es, c, hk.trans hb, hf⟩, h4⟩
theorem ll.lt {w : World} {b n : Nat} {S : List Int} (h : ll w b n S) : b < w.heap.size := by
 obtain ⟨h1, h2, D, h3, h4⟩ := h
 exact h3.lt
theorem ll.below {w w' : World} {b n : Nat} {S : List Int} (h : ll w b n S) (hb : Below w.heap.size w w') : ll w' b n S := h.keep (hb.block b h.lt)
theorem ll.own {w w' : World} {b n g : Nat} {S : List Int} (h : ll w b n S) (hg : w.grownBy w' (some g)) (hne : b ≠ g) : ll w' b n S := h.keep (hg.block b h.lt (fun e => hne (by injection e)))
open Go.Maps in
theorem abo {ops : Array Oper} {rest : List Oper} {o : Oper} {a : Act} {Q : Exit → Act → World → Prop} {w : World} {b n : Nat} {S : List Int} (hg : o.guard = none) (m x v : Operand) (hop : o.op = Op.mapUpdate 73 m x v) (hm : a.eval m = .map (some b)) (h : ll w b n S) (hn : n < 1000000000) (id : Int) (hw : (Lit.int .i64 id).wf = true) (hx : a.eval x = .int .i64 id) (hv : a.eval v = .bool true)
  (hK : ∀ w', ll w' b (n + 1) (if id ∈ S then S else S ++ [id]) → w.grownBy w' (some b) → wpList Try.prog ops Q rest (a.put o.dst undef) w') : wpList Try.prog ops Q (o :: rest) a w := by
 obtain ⟨h1, h2, D, h3, h4, h5⟩ := h
 refine wpList_mapUpdate_own w hg m x v 73 hop 3 4 (int_keyed Try.underlying3) Try.underlying73 _ b n D hm h3 (by unfold maxLen; omega) _ _ _ hx hv (keyOf_int_mk Try.underlying3 hw) (.lit (.bool true)) [] (by simp [plainElem, Try.underlying4]) ?_
 intro w' h6 h7
 refine hK w' ⟨?_, ?_, D.put (.int .i64 id) (.lit (.bool true)), h6, h4.put _ _, fun z => ?_⟩ h7
 ·split
  ·exact h1
  ·rename_i hni
   exact List.nodup_append.2 ⟨h1, by simp, fun a ha c hc e => by simp at hc; exact hni (by rw [← hc, ← e]; exact ha)⟩
 ·split
  ·omega
  ·rw [List.length_append]; simp; omega
 ·by_cases e : z = id
  ·subst e
   rw [has_put_same (k := .int .i64 z) h4 (by trivial)]
   symm
   rw [decide_eq_true_iff]
   split
   ·assumption
   ·simp
  ·rw [has_put_other (by simpa using e), h5]
   rw [decide_eq_decide]
   split
   ·rfl
   ·simp [e]
open Go.Maps in
theorem ll.sorted {w : World} {b n : Nat} {S : List Int} (h : ll w b n S) (hn : n ≤ 1000000000) :
  Calls Try.prog 40 #[.func (.func 56) #[] #[.pointer (some ⟨w.heap.size, 0, none⟩)]] (w.alloc (.cells #[.map (some b)] 73)) fun e w' => ∃ v, e = .returned v ∧ Kd.R (Kd.int .i64) 3 w' w.heap.size (fun _ => True) v (i_ S) ∧ Below w.heap.size w w' := by
 obtain ⟨h1, h2, D, h3, h4, h5⟩ := h
 have hp : S.Perm (intKeys D) := CollectedI.perm (left := fun _ => false) ⟨h1, fun x => by rw [h5]; simp⟩ h3 (int_keyed Try.underlying3) Try.underlying3 (fun _ => rfl)
 have hsz : Maps.size D = S.length := by
  obtain ⟨es, rfl⟩ := h4
  rw [Maps.size_eq, hp.length_eq]
  simp [intKeys]
 refine (aey b n D _ w h3 (by rw [hsz]; unfold maxLen; omega) (by rw [hsz]; omega)).mono ?_
 rintro e w' ⟨v, ss, rfl, hss, hrow, _, hb⟩
 have e1 : ss.mergeSort (fun x y => decide (x ≤ y)) = i_ S := mergeSort_of_perm_i (hss.trans hp.symm)
 have e2 : ss.length = (i_ S).length := by rw [Ee, hss.length_eq, hp.length_eq]
 refine ⟨v, rfl, Kd.Cp ?_ (fun _ _ => trivial), d_ (aQ (Below.refl _ _) _) hb⟩
 rw [e1, e2] at hrow
 exact adw hrow (by simp)
theorem ll.blk {w : World} {b n : Nat} {S : List Int} (h : ll w b n S) : ∃ es c, w.heap[b]? = some (.map es c) := by
 obtain ⟨_, _, D, ⟨es, c, hb, _⟩, _⟩ := h
 exact ⟨es, c, hb⟩
def jG (x : List aw) : Nat → List (Int × List Int)
 | 0 => []
 | n + 1 => fG (jG x n) (x.getD n pq).f0 ((cK (jG x n) (x.getD n pq).f0).getD [] ++ [(x.getD n pq).f1])
theorem ML (x : List aw) : ∀ (n : Nat) (k : Int) (ys : List Int), cK (jG x n) k = some ys → ys.length ≤ n
 | 0, k, ys, h => by simp [jG, cK] at h
 | n + 1, k, ys, h => by
  rw [jG, sh] at h
  split at h
  ·obtain rfl := Option.some.inj h
   rw [List.length_append]
   cases hg : cK (jG x n) (x.getD n pq).f0 with
   | none => simp
   | some zs => have := ML x n _ zs hg; simp; omega
  ·have := ML x n k ys h
   omega
theorem aea (x : List aw) (n : Nat) (k : Int) : ((cK (jG x n) k).getD []).length ≤ n := by
 cases hg : cK (jG x n) k with
 | none => simp
 | some zs => exact ML x n k zs hg
def lm (G : List (Int × List Int)) (y : List aw) : Nat → List Int
 | 0 => []
 | n + 1 => if ((cK G (y.getD n pq).f0).getD []).any (fun f => ph f (y.getD n pq).f1) = true then (if (y.getD n pq).f0 ∈ lm G y n then lm G y n else lm G y n ++ [(y.getD n pq).f0]) else lm G y n
def WQ (x y : List aw) : List Int := i_ (lm (jG x x.length) y y.length)
set_option maxHeartbeats 16000000 in
set_option maxRecDepth 100000 in
theorem Zd (x : List aw) (A0 : Option Addr) (c0 : Nat) (y : List aw) (A1 : Option Addr) (c1 : Nat) (w : World) (hx : Kd.C dT w A0 x.length x) (lx : x.length ≤ c0) (hy : Kd.C dT w A1 y.length y) (ly : y.length ≤ c1) (nx : x.length ≤ 10000000) (ny : y.length ≤ 10000000) (hwf : ∀ c ∈ y, (Lit.int .i64 c.f0).wf = true) :
  Calls Try.prog 14 #[.slice A0 x.length c0, .slice A1 y.length c1] w fun e w' => ∃ v, e = .returned v ∧ Kd.R (Kd.int .i64) 3 w' w.heap.size (fun _ => True) v (WQ x y) ∧ Below w.heap.size w w' := by
 have HX := ae.mk hx
 have HY := ae.mk hy
 have NX := ae.mk nx
 have NY := ae.mk ny
 have HWF := ae.mk hwf
 have HZ := ae.mk (fun W : World => (by kernel_rfl : (zeroValue 26).run Try.prog W = .ok (.slice none 0 0) W))
 have hmm := @run_makeMap Try.prog
 clear hx hy lx ly nx ny hwf
 go_enter Try.func14, Try.ntmps14
 go_wp2
 go_loopg [14] x.length (fun gk v14 w' => ∃ (j : Nat), v14 = .int .i64 j ∧ j + gk = x.length ∧ ae (mB w' w.heap.size w.heap.size (jG x j)) ∧ ae (Below w.heap.size w w'))
 case atStart => exact ⟨0, rfl, by omega, ⟨mB.new w _⟩, ⟨aQ (Below.refl _ _) _⟩⟩
 case round =>
  obtain ⟨j, rfl, hj, HG, HB⟩ := hrel
  obtain ⟨go, rfl⟩ : ∃ go, go = gk := ⟨gk, rfl⟩
  have HJ := ae.mk hj
  cases go with
  | zero =>
   have g1 : decide ((j : Int) < (x.length : Int)) = false := decide_eq_false (by omega)
   have g2 : decide (j < x.length) = false := decide_eq_false (by omega)
   obtain rfl : j = x.length := by omega
   clear hj
   go_wp2
   obtain ⟨wo, rfl⟩ : ∃ wo : World, wo = wr := ⟨_, rfl⟩
   have Z3 := ae.mk (HB.out.size : w.heap.size ≤ wo.heap.size)
   have NGF := ae.mk (by have := HG.out.lt; omega : w.heap.size ≠ wo.heap.size)
   have Rh := HG
   have xv := HB
   clear HG HB
   go_loopg [33] y.length (fun gk v33 w' => ∃ (j : Nat), v33 = .int .i64 j ∧ j + gk = y.length ∧ ae (mB w' w.heap.size w.heap.size (jG x x.length)) ∧ (∃ n, n ≤ j ∧ ae (ll w' wo.heap.size n (lm (jG x x.length) y j))) ∧ ae (Below w.heap.size w w'))
   case atStart => exact ⟨0, rfl, by omega, ⟨Rh.out.below (aQ (Below.refl _ _) _)⟩, ⟨0, Nat.le_refl _, ⟨ll.new wo⟩⟩, ⟨d_ xv.out (aQ (Below.refl _ _) _)⟩⟩
   case round =>
    obtain ⟨j, rfl, hj, HG, ⟨n, MR, HF⟩, HB⟩ := hrel
    obtain ⟨go, rfl⟩ : ∃ go, go = gk := ⟨gk, rfl⟩
    have HJ := ae.mk hj
    have vE := ae.mk MR
    cases go with
    | zero =>
     have g1 : decide ((j : Int) < (y.length : Int)) = false := decide_eq_false (by omega)
     have g2 : decide (j < y.length) = false := decide_eq_false (by omega)
     obtain rfl : j = y.length := by omega
     have GS := ae.mk (by have := NY.out; omega : n ≤ 1000000000)
     clear hj MR
     go_wp2_with (first | (go_at_call 41; go_loud ((with_reducible refine (acv (some wo.heap.size) _).mono ?_); rintro e w_k ⟨rfl, rfl⟩)) | (go_at_call 40; go_loud ((with_reducible refine (ll.sorted HF.out GS.out).mono ?_); rintro e w_s ⟨v, rfl, hr, hb⟩; have Pr := ae.mk hr; have HBS := ae.mk hb; clear hr hb)))
     go_ret
     exact ⟨_, rfl, Kd.eB Pr.out HB.out.size, d_ HB.out HBS.out⟩
    | succ g =>
     have hjl : j < y.length := by omega
     have eV := ae.mk hjl
     have g1 : decide ((j : Int) < (y.length : Int)) = true := decide_eq_true (by omega)
     have g2 : decide (j < y.length) = true := decide_eq_true hjl
     have p0 : (0 : Int) ≤ (j : Int) := by omega
     have p1 : (j : Int) < (y.length : Int) := by omega
     have ZH := ae.mk (by have := NY.out; omega : n < 1000000000)
     obtain ⟨ad, eA, q0, q1⟩ := iZ (Kd.aC HY.out HB.out) (j : Int) p0 p1
     obtain ⟨r, hr⟩ : ∃ r, r = aq y (j : Int) := ⟨_, rfl⟩
     rw [Int.toNat_natCast] at q0 q1
     rw [← hr] at q0 q1
     have HR := ae.mk (hr.trans (by unfold aq; rw [Int.toNat_natCast]) : r = y.getD j pq)
     have HWR := ae.mk (HWF.out r (by rw [HR.out, List.getD_eq_getElem?_getD, List.getElem?_eq_getElem eV.out]; exact List.getElem_mem _))
     subst eA
     obtain ⟨an, hand⟩ : ∃ an, an = ((cK (jG x x.length) r.f0).getD []).any (fun f => ph f r.f1) := ⟨_, rfl⟩
     have Vm := ae.mk hand.symm
     have UP := ae.mk (by rw [lm, ← HR.out, ← hand] : lm (jG x x.length) y (j + 1) = if an = true then (if r.f0 ∈ lm (jG x x.length) y j then lm (jG x x.length) y j else lm (jG x x.length) y j ++ [r.f0]) else lm (jG x x.length) y j)
     clear hr hj hjl MR hand
     cases an with
     | true =>
      go_wp2_with (first | ((with_reducible refine bz (N := 10) rfl ?_); refine bT ?hg (N := 10) ?hd (cs := #[.int .i64 0, .int .i64 0]) (t := 48) ?hr ?_; (case hd => rfl); (case hg => rfl); (case hr => first | (go_simp; done) | (go_simp; rfl)); intro g10 hg ajL av hb; have bQ := ae.mk av; have o5 := ae.mk (by rw [hg]; exact HB.out.size : w.heap.size ≤ g10); have af := ae.mk (d_ HB.out hb); have ag := ae.mk (HG.out.below hb); have ah := ae.mk (HF.out.below hb); have Qi := ae.mk (by have := HG.out.lt; omega : w.heap.size ≠ g10); have NV := ae.mk (by have := HF.out.lt; omega : wo.heap.size ≠ g10); clear HB HG HF q0 q1 av hb hg; have HB := af; have HG := ag; have HF := ah; clear af ag ah; have jS := (aj bQ.out 0).trans rfl; have mn := (aj bQ.out 1).trans rfl; have qB := bN bQ.out 0; have tJ := bN bQ.out 1) | ((with_reducible refine WF bQ.out ?_); intro Q7 hbk hg; clear jS mn qB tJ; have af := ae.mk (jc HB.out hg o5.out HB.out.size); have ag := ae.mk (HG.out.own hg Qi.out bQ.out); have ah := ae.mk (HF.out.own hg NV.out); clear HB HG HF bQ; have HB := af; have HG := ag; have HF := ah; have bQ := ae.mk hbk; clear af ag ah hbk hg; obtain ⟨v, F, hlk, hRv, hput⟩ := HG.out.get r.f0 Try.prog 72 26 Try.underlying72 (ej.int Try.underlying3) HZ.out; have DR := ae.mk hRv; have hk1 := hlk Q7 rfl; clear hlk hput hRv; have jS := (aj bQ.out 0).trans rfl; have mn := (aj bQ.out 1).trans rfl) | (go_at_call 37; go_loud ((with_reducible refine (Y3 _ _ _ _ _ _ _ _ DR.out bQ.out).mono ?_); rintro e ajh ⟨rfl, hb⟩; rw [Vm.out]; have af := ae.mk (d_ HB.out hb); have ag := ae.mk (HG.out.below hb); have ah := ae.mk (HF.out.below hb); have am := ae.mk (di bQ.out hb); clear HB HG HF bQ jS mn; have HB := af; have HG := ag; have HF := ah; have bQ := am; clear af ag ah am hb hk1; have jS := (aj bQ.out 0).trans rfl)) | ((with_reducible refine abo rfl _ _ _ rfl rfl HF.out ZH.out r.f0 HWR.out rfl rfl ?_); intro ash TA pj; have af := ae.mk (jc HB.out pj Z3.out HB.out.size); have ag := ae.mk (HG.out.mapped pj HF.out.blk NGF.out); have ah := ae.mk TA; clear HB HG HF; have HB := af; have HG := ag; have HF := ah; clear af ag ah TA pj jS))
      go_roundg g
      case measure => omega
      case rel => exact ⟨j + 1, by have := NY.out; have := eV.out; exact congrArg (Value.int .i64) (show wrap64 ((j : Int) + 1) = ((j + 1 : Nat) : Int) from by unfold wrap64; omega), by have := HJ.out; omega, HG, ⟨n + 1, by have := vE.out; omega, ⟨by rw [UP.out, if_pos (by trivial)]; exact HF.out⟩⟩, HB⟩
     | false =>
      go_wp2_with (first | ((with_reducible refine bz (N := 10) rfl ?_); refine bT ?hg (N := 10) ?hd (cs := #[.int .i64 0, .int .i64 0]) (t := 48) ?hr ?_; (case hd => rfl); (case hg => rfl); (case hr => first | (go_simp; done) | (go_simp; rfl)); intro g10 hg ajL av hb; have bQ := ae.mk av; have o5 := ae.mk (by rw [hg]; exact HB.out.size : w.heap.size ≤ g10); have af := ae.mk (d_ HB.out hb); have ag := ae.mk (HG.out.below hb); have ah := ae.mk (HF.out.below hb); have Qi := ae.mk (by have := HG.out.lt; omega : w.heap.size ≠ g10); have NV := ae.mk (by have := HF.out.lt; omega : wo.heap.size ≠ g10); clear HB HG HF q0 q1 av hb hg; have HB := af; have HG := ag; have HF := ah; clear af ag ah; have jS := (aj bQ.out 0).trans rfl; have mn := (aj bQ.out 1).trans rfl; have qB := bN bQ.out 0; have tJ := bN bQ.out 1) | ((with_reducible refine WF bQ.out ?_); intro Q7 hbk hg; clear jS mn qB tJ; have af := ae.mk (jc HB.out hg o5.out HB.out.size); have ag := ae.mk (HG.out.own hg Qi.out bQ.out); have ah := ae.mk (HF.out.own hg NV.out); clear HB HG HF bQ; have HB := af; have HG := ag; have HF := ah; have bQ := ae.mk hbk; clear af ag ah hbk hg; obtain ⟨v, F, hlk, hRv, hput⟩ := HG.out.get r.f0 Try.prog 72 26 Try.underlying72 (ej.int Try.underlying3) HZ.out; have DR := ae.mk hRv; have hk1 := hlk Q7 rfl; clear hlk hput hRv; have jS := (aj bQ.out 0).trans rfl; have mn := (aj bQ.out 1).trans rfl) | (go_at_call 37; go_loud ((with_reducible refine (Y3 _ _ _ _ _ _ _ _ DR.out bQ.out).mono ?_); rintro e ajh ⟨rfl, hb⟩; rw [Vm.out]; have af := ae.mk (d_ HB.out hb); have ag := ae.mk (HG.out.below hb); have ah := ae.mk (HF.out.below hb); have am := ae.mk (di bQ.out hb); clear HB HG HF bQ jS mn; have HB := af; have HG := ag; have HF := ah; have bQ := am; clear af ag ah am hb hk1; have jS := (aj bQ.out 0).trans rfl)))
      go_roundg g
      case measure => omega
      case rel => exact ⟨j + 1, by have := NY.out; have := eV.out; exact congrArg (Value.int .i64) (show wrap64 ((j : Int) + 1) = ((j + 1 : Nat) : Int) from by unfold wrap64; omega), by have := HJ.out; omega, HG, ⟨n, by have := vE.out; omega, ⟨by rw [UP.out, if_neg (by simp)]; exact HF.out⟩⟩, HB⟩
  | succ g =>
   have hjl : j < x.length := by omega
   have eV := ae.mk hjl
   have g1 : decide ((j : Int) < (x.length : Int)) = true := decide_eq_true (by omega)
   have g2 : decide (j < x.length) = true := decide_eq_true hjl
   have p0 : (0 : Int) ≤ (j : Int) := by omega
   have p1 : (j : Int) < (x.length : Int) := by omega
   obtain ⟨ad, eA, q0, q1⟩ := iZ (Kd.aC HX.out HB.out) (j : Int) p0 p1
   obtain ⟨r, hr⟩ : ∃ r, r = aq x (j : Int) := ⟨_, rfl⟩
   rw [Int.toNat_natCast] at q0 q1
   rw [← hr] at q0 q1
   have HR := ae.mk (hr.trans (by unfold aq; rw [Int.toNat_natCast]) : r = x.getD j pq)
   subst eA
   clear hr hj hjl
   go_wp2_with (first | ((with_reducible refine bz (N := 7) rfl ?_); refine bT ?hg (N := 7) ?hd (cs := #[.int .i64 0, .int .i64 0]) (t := 48) ?hr ?_; (case hd => rfl); (case hg => rfl); (case hr => first | (go_simp; done) | (go_simp; rfl)); intro g7 hg nA av hb; have bO := ae.mk av; have HU := ae.mk (by rw [hg]; exact HB.out.size : w.heap.size ≤ g7); have af := ae.mk (d_ HB.out hb); have ag := ae.mk (HG.out.below hb); have NB7 := ae.mk (by have := HG.out.lt; omega : w.heap.size ≠ g7); clear HB HG q0 q1 av hb hg; have HB := af; have HG := ag; clear af ag; have z70 := (aj bO.out 0).trans rfl; have jk := (aj bO.out 1).trans rfl; have y70 := bN bO.out 0; have y71 := bN bO.out 1))
   with_reducible refine abz bO.out ?_
   intro ye hbk hg
   clear z70 jk y70 y71
   have af := ae.mk (jc HB.out hg HU.out HB.out.size)
   have ag := ae.mk (HG.out.own hg NB7.out bO.out)
   clear HB HG bO
   have HB := af
   have HG := ag
   have bO := ae.mk hbk
   clear af ag hbk hg
   have z70 := (aj bO.out 0).trans rfl
   have jk := (aj bO.out 1).trans rfl
   obtain ⟨v, F, hlk, hRv, hput⟩ := HG.out.get r.f0 Try.prog 72 26 Try.underlying72 (ej.int Try.underlying3) HZ.out
   obtain ⟨Av, cv, rfl⟩ := Kd.bm hRv
   obtain ⟨old, hold⟩ : ∃ old, old = (cK (jG x j) r.f0).getD [] := ⟨_, rfl⟩
   have HOD := ae.mk hold
   have HOL := ae.mk (by rw [hold]; exact aea x j r.f0 : old.length ≤ j)
   rw [← hold] at hRv hlk hput
   have adY := ae.mk hput
   have DR := ae.mk (Kd.cm (d5 := fun q => F q ∨ ye.heap.size ≤ q) hRv (fun q hq => .inl hq))
   have hk1 := hlk ye.drew rfl
   have hk2 := hlk (ye.alloc (.cells #[.int .i64 r.f1] 3)).drew (Below.heap_alloc _ _ _ HG.out.lt)
   have zz0 : (ye.alloc (Obj.cells #[.int .i64 r.f1] 3)).drew.cell? ⟨g7, 0, none⟩ = some (.int .i64 r.f0) := (aj (aU bO.out _) 0).trans rfl
   have nS := ae.mk (HB.out.size)
   have xM := ae.mk (by have := HOL.out; have := eV.out; have := NX.out; omega : (old.length + 1) * 8 ≤ 140737488355328)
   have EQ := ae.mk (Kd.BZ hRv bO.out (by decide) : some g7 ≠ (Value.slice Av old.length cv).ownBlock)
   have HE9 := ae.mk (by simp : (old ++ [r.f1]).length = old.length + 1)
   clear hlk hput hRv hold
   first | go_region_law (go_loud (refine Kd.JU (Kd.int .i64) (w0 := w) (W := ye.drew) w.heap.size rfl (.tmp 24) (.tmp 27) 26 3 (.int .i64 0) 8 rfl Try.underlying26 (by kernel_rfl) rfl (by decide) (by omega) (.slice Av old.length cv) old r.f1 [.int .i64 r.f1] (fun q => F q ∨ ye.heap.size ≤ q) (fun _ => False) rfl rfl rfl (fun _ h => h.elim) (fun _ h => .inr h) (Kd.jj DR.out) (aT HB.out) nS.out xM.out ?_; intro v9 w9 jO ma jh pC; obtain ⟨A9, c9, rfl⟩ := Kd.bm jO; obtain ⟨pv, hmu, Tp, D8⟩ := adY.out w9 _ _ jO ⟨jh.os, jh.tape, jh.output, jh.size, jh.block⟩; rw [HE9.out] at hmu; have ct := ae.mk (fe (w := ye.drew) bO.out jh EQ.out); have T6 := (aj ct.out 0).trans rfl; have ZV := ae.mk Tp; have Z' := ae.mk D8; have sG := ae.mk ma; clear jO ma jh pC Tp D8)) | fail
   all_goals
    go_wp2
    go_roundg g
    case measure => omega
    case rel =>
     refine ⟨j + 1, by have := NX.out; have := eV.out; exact congrArg (Value.int .i64) (show wrap64 ((j : Int) + 1) = ((j + 1 : Nat) : Int) from by unfold wrap64; omega), by have := HJ.out; omega, ⟨?_⟩, ⟨jc sG.out Z'.out (Nat.le_refl _) sG.out.size⟩⟩
     rw [jG, ← HR.out, ← HOD.out]
     exact ZV.out
theorem I_ (G : List (Int × List Int)) (y : List aw) : ∀ n, (lm G y n).Nodup
 | 0 => List.nodup_nil
 | n + 1 => by
  rw [lm]
  split
  ·split
   ·exact I_ G y n
   ·rename_i h
    exact List.nodup_append.2 ⟨I_ G y n, List.nodup_cons.2 ⟨List.not_mem_nil, List.nodup_nil⟩, fun a ha c hc e => h (by rw [← List.mem_singleton.1 hc, ← e]; exact ha)⟩
  ·exact I_ G y n
theorem aa4 (x y : List aw) : WQ x y = mh (lm (jG x x.length) y y.length) := Zo (I_ _ _ _)
def vK (a : Int) : Bool := decide (-9223372036854775808 ≤ a) && decide (a < 9223372036854775808)
theorem Zj (a : Int) (h : vK a = true) : (Lit.int .i64 a).wf = true := by
 unfold vK at h
 simp only [Bool.and_eq_true, decide_eq_true_eq] at h
 have h1 : IntKind.i64.min = -9223372036854775808 := by decide
 have h2 : IntKind.i64.max = 9223372036854775807 := by decide
 simp only [Lit.wf, h1, h2, Bool.and_eq_true, decide_eq_true_eq]
 omega
def mf.f (l0 : List (aw)) (l1 : List (aw)) : Option (List Int) := if decide (l0.length ≤ 10000000) && (decide (l1.length ≤ 10000000) && l1.all (fun c => vK c.f0)) then some (mh (lm (jG l0 l0.length) l1 l1.length)) else none
theorem mf.calls (A0 : Option Addr) (c0 : Nat) (l0 : List (aw)) (A1 : Option Addr) (c1 : Nat) (l1 : List (aw)) (r : List Int) (w : World) (hr0 : Kd.C dT w A0 l0.length l0) (hc0 : l0.length ≤ c0) (hr1 : Kd.C dT w A1 l1.length l1) (hc1 : l1.length ≤ c1) (h : mf.f l0 l1 = some r) :
  Calls Try.prog 14 #[.slice A0 l0.length c0, .slice A1 l1.length c1] w fun e w' => ∃ jC : Value, e = .returned (jC) ∧ Kd.R (Kd.int .i64) 3 w' w.heap.size (fun _ => True) jC r ∧ Below w.heap.size w w' := by
 unfold mf.f at h
 split at h
 case isFalse => cases h
 rename_i hok
 simp only [Bool.and_eq_true, decide_eq_true_eq, List.all_eq_true] at hok
 obtain rfl := Option.some.inj h
 rw [← aa4]
 exact Zd l0 A0 c0 l1 A1 c1 w hr0 hc0 hr1 hc1 hok.1 hok.2.1 (fun c hc => Zj _ (hok.2.2 c hc))
end Go.Proofs.Ytcfjdehpbckomaa.Q
