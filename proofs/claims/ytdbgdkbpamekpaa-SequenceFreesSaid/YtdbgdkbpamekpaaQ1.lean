-- Written by a program of this session (mk.py) out of the translation; Lean checks it.
import Derived.Test.YtdbgdkbpamekpaaQ0
namespace Go.Proofs.Ytdbgdkbpamekpaa.Q
open Go.RowKit Go.Proofs.YtdbgdkbpamekpaaW.PrintWords Go.Proofs.YtdbgdkbpamekpaaW.PrintLast Go.Proofs.YtdbgdkbpamekpaaW.PrintMore
attribute [local go_sem] max2_int min2_int max_two min_two max_three min_three max_four min_four   -- for this text's walks alone
set_option linter.unusedVariables false
set_option linter.unusedSimpArgs false

-- 00_globat.lean
def GlobAt (w : World) (g : Nat) (cs : Array Value) : Prop := ∃ t fr, w.heap[g]? = some (.cells cs t fr)
theorem GlobAt.lt {w : World} {g : Nat} {cs : Array Value} (h : GlobAt w g cs) : g < w.heap.size := by
 obtain ⟨t, fr, h⟩ := h
 exact (Array.getElem?_eq_some_iff.mp h).1
theorem GlobAt.below {w w' : World} {g : Nat} {cs : Array Value} (hb : Below w.heap.size w w') (h : GlobAt w g cs) : GlobAt w' g cs := by
 have hl := h.lt
 obtain ⟨t, fr, h⟩ := h
 exact ⟨t, fr, (hb.block g hl).trans h⟩
theorem GlobAt.drawn {w w' : World} {g : Nat} {cs : Array Value} (hb : Drawn0 w w') (h : GlobAt w g cs) : GlobAt w' g cs := by
 obtain ⟨n, rfl⟩ := hb.out
 obtain ⟨t, fr, h⟩ := h
 exact ⟨t, fr, by simpa using h⟩

-- 20_mapwords.lean
/-! ### Maps: a block that is a map, as a list of keys and values -/
/-- The entries that stand for a list of keys (each by 'enc') and values. -/
def EsIs {κ : Type} (enc : κ → Value) (es : List MapEntry) (l : List (κ × Value)) : Prop := es.map (fun e => (e.key, e.val)) = l.map (fun p => (enc p.1, p.2))
/-- Block b is the map l. -/
def MapAt {κ : Type} (enc : κ → Value) (w : World) (b : Nat) (l : List (κ × Value)) : Prop := ∃ es clock, w.heap[b]? = some (.map es clock) ∧ EsIs enc es.toList l
def mlook {κ : Type} [DecidableEq κ] : List (κ × Value) → κ → Option Value
 | [], _ => none
 | p :: l, k => if k = p.1 then some p.2 else mlook l k
def mput {κ : Type} [DecidableEq κ] : List (κ × Value) → κ → Value → List (κ × Value)
 | [], k, v => [(k, v)]
 | p :: l, k, v => if k = p.1 then (k, v) :: l else p :: mput l k v
def mdel {κ : Type} [DecidableEq κ] : List (κ × Value) → κ → List (κ × Value)
 | [], _ => []
 | p :: l, k => if k = p.1 then l else p :: mdel l k
def mfind {κ : Type} [DecidableEq κ] : List (κ × Value) → κ → Nat → Option (Nat × Value)
 | [], _, _ => none
 | p :: l, k, i => if k = p.1 then some (i, p.2) else mfind l k (i + 1)
/-- Keys that the machine tells apart as Lean does. -/
structure KeyOk {κ : Type} [DecidableEq κ] (P : Program) (K : TypeId) (enc : κ → Value) : Prop where
 check : ∀ (b : Bool) (k : κ) (w : World), (Instr.checkKey b 10000 K (enc k)).run P w = .ok () w
 find : ∀ (k : κ) (es : List MapEntry) (l : List (κ × Value)) (w : World), EsIs enc es l → (Instr.findKey K (enc k) es).run P w = .ok (mfind l k 0) w
 same : ∀ k : κ, Instr.sameBits 10000 (enc k) (enc k) = true
theorem EsIs.nil {κ : Type} (enc : κ → Value) : EsIs enc [] ([] : List (κ × Value)) := rfl
theorem EsIs.cons_inv {κ : Type} {enc : κ → Value} {es : List MapEntry} {p : κ × Value} {l : List (κ × Value)} (h : EsIs enc es (p :: l)) : ∃ e r, es = e :: r ∧ e.key = enc p.1 ∧ e.val = p.2 ∧ EsIs enc r l := by
 cases es with
 | nil => simp [EsIs] at h
 | cons e r =>
  simp only [EsIs, List.map_cons, List.cons.injEq, Prod.mk.injEq] at h
  exact ⟨e, r, rfl, h.1.1, h.1.2, h.2⟩
theorem EsIs.nil_inv {κ : Type} {enc : κ → Value} {es : List MapEntry} (h : EsIs enc es ([] : List (κ × Value))) : es = [] := by
 simpa [EsIs] using h
theorem EsIs.length {κ : Type} {enc : κ → Value} {es : List MapEntry} {l : List (κ × Value)} (h : EsIs enc es l) : es.length = l.length := by
 have := congrArg List.length h
 simpa using this
theorem mfind_look {κ : Type} [DecidableEq κ] (k : κ) : ∀ (l : List (κ × Value)) (i : Nat), (mfind l k i).map (·.2) = mlook l k
 | [], _ => rfl
 | p :: l, i => by
  simp only [mfind, mlook]
  split
  ·rfl
  ·exact mfind_look k l (i + 1)
theorem findNow_is {κ : Type} [DecidableEq κ] {enc : κ → Value} {d : TypeDesc} (hs : ∀ a b : κ, Instr.sameNow d (enc a) (enc b) = some (decide (a = b))) (k : κ) : ∀ (l : List (κ × Value)) (es : List MapEntry) (i : Nat), EsIs enc es l → Instr.findNow d (enc k) es i = some (mfind l k i)
 | [], es, i, h => by
  rw [h.nil_inv]
  rfl
 | p :: l, es, i, h => by
  obtain ⟨e, r, rfl, h1, h2, h3⟩ := h.cons_inv
  simp only [Instr.findNow, mfind, h1, hs]
  by_cases hk : k = p.1
  ·rw [if_pos hk, decide_eq_true hk, h2]
  ·rw [if_neg hk, decide_eq_false hk]
   exact findNow_is hs k l r (i + 1) h3
theorem checkKey_plain {P : Program} {K : TypeId} {d : TypeDesc} {v : Value} (hK : P.underlying K = some d) (hd : (match d with | .int _ | .string | .bool => true | _ => false) = true) (b : Bool) (w : World) : (Instr.checkKey b 10000 K v).run P w = .ok () w := by
 unfold Instr.checkKey
 rw [Sem.run_bind, run_underlying hK w]
 cases d <;> simp_all
theorem findKey_now {P : Program} {K : TypeId} {d : TypeDesc} {v : Value} {es : List MapEntry} {r : Option (Nat × Value)} (hK : P.underlying K = some d) (h : Instr.findNow d v es 0 = some r) (w : World) : (Instr.findKey K v es).run P w = .ok r w := by
 unfold Instr.findKey
 rw [Sem.run_bind, run_underlying hK w]
 simp [h]
theorem KeyOk.int {P : Program} {K : TypeId} {q : IntKind} (hK : P.underlying K = some (.int q)) : KeyOk P K (fun a : Int => .int q a) :=
 ⟨fun b k w => checkKey_plain hK rfl b w, fun k es l w h => findKey_now hK (findNow_is (fun a b => by simp only [Instr.sameNow, if_true]; rfl) k l es 0 h) w, fun k => by simp [Instr.sameBits]⟩
theorem bytes_beq (a b : ByteArray) : (a == b) = decide (a = b) := by
 have h : (a == b) = (a.data == b.data) := rfl
 rw [h, Bool.eq_iff_iff, beq_iff_eq, decide_eq_true_iff]
 exact ⟨fun h => by cases a; cases b; simp_all, fun h => by rw [h]⟩
theorem KeyOk.string {P : Program} {K : TypeId} (hK : P.underlying K = some .string) : KeyOk P K (fun s : ByteArray => .string s) :=
 ⟨fun b k w => checkKey_plain hK rfl b w, fun k es l w h => findKey_now hK (findNow_is (fun a b => by simp only [Instr.sameNow, bytes_beq]) k l es 0 h) w, fun k => by simp [Instr.sameBits, bytes_beq]⟩
theorem MapAt.new {κ : Type} (enc : κ → Value) (w : World) : MapAt enc (w.alloc (.map #[] 0)) w.heap.size ([] : List (κ × Value)) := ⟨#[], 0, heap_alloc_new w _, rfl⟩
theorem MapAt.keep {κ : Type} {enc : κ → Value} {w w' : World} {b : Nat} {l : List (κ × Value)} (h : MapAt enc w b l) (hk : w'.heap[b]? = w.heap[b]?) : MapAt enc w' b l := by
 obtain ⟨es, c, h1, h2⟩ := h
 exact ⟨es, c, hk.trans h1, h2⟩
theorem MapAt.lt {κ : Type} {enc : κ → Value} {w : World} {b : Nat} {l : List (κ × Value)} (h : MapAt enc w b l) : b < w.heap.size := by
 obtain ⟨es, c, h1, h2⟩ := h
 exact (Array.getElem?_eq_some_iff.1 h1).1
theorem MapAt.below {κ : Type} {enc : κ → Value} {w w' : World} {b : Nat} {l : List (κ × Value)} (h : MapAt enc w b l) (hb : Below w.heap.size w w') : MapAt enc w' b l := h.keep (hb.block b h.lt)
theorem MapAt.alloc {κ : Type} {enc : κ → Value} {w : World} {b : Nat} {l : List (κ × Value)} (h : MapAt enc w b l) (o : Obj) : MapAt enc (w.alloc o) b l := h.keep (Below.heap_alloc w o b h.lt)
theorem MapAt.drewN {κ : Type} {enc : κ → Value} {w : World} {b : Nat} {l : List (κ × Value)} (h : MapAt enc w b l) (n : Nat) : MapAt enc (w.drewN n) b l := h.keep (by simp)
theorem MapAt.grown {κ : Type} {enc : κ → Value} {w w' : World} {b : Nat} {l : List (κ × Value)} {row : Option Nat} (h : MapAt enc w b l) (hg : w.grownBy w' row) (hne : some b ≠ row) : MapAt enc w' b l := h.keep (hg.block b h.lt hne)
theorem run_lookup_ok {κ : Type} [DecidableEq κ] {P : Program} {T K E : TypeId} {enc : κ → Value} (hk : KeyOk P K enc) (hT : P.underlying T = some (.map K E)) {w : World} {z : Value} (hz : (zeroValue E).run P w = .ok z w) {b : Nat} {l : List (κ × Value)} (h : MapAt enc w b l) (k : κ) (c : Bool) :
  (Instr.lookup T (.map (some b)) (enc k) c).run P w = .ok (if c then .tuple #[(mlook l k).getD z, .bool (mlook l k).isSome] else (mlook l k).getD z) w := by
 obtain ⟨es, clock, h1, h2⟩ := h
 have hgo : (getObj b).run P w = .ok (.map es clock) w := by simp [getObj, Sem.run, h1]
 unfold Instr.lookup
 rw [Sem.run_bind, run_underlying hT w]
 simp only [Result.andThen_ok, Sem.run_bind, hgo, hk.check, Sem.run_pure]
 rw [hk.find k es.toList l w h2, ← mfind_look k l 0]
 cases mfind l k 0 with
 | none => simp [hz]
 | some p => simp
theorem wpList_lookup {κ : Type} [DecidableEq κ] {P : Program} {w : World} {ops : Array Oper} {rest : List Oper} {o : Oper} {a : Act} {Q : Exit → Act → World → Prop} {enc : κ → Value} {T K E : TypeId} {c : Bool}
  (hg : o.guard = none) (m x : Operand) (hop : o.op = Op.lookup T m x c) (hk : KeyOk P K enc) (hT : P.underlying T = some (.map K E)) {z : Value} (hz : (zeroValue E).run P w = .ok z w) {b : Nat} {l : List (κ × Value)}
  (hm : a.eval m = .map (some b)) (h : MapAt enc w b l) (k : κ) (hx : a.eval x = enc k)
  (hK : wpList P ops Q rest (a.put o.dst (if c then .tuple #[(mlook l k).getD z, .bool (mlook l k).isSome] else (mlook l k).getD z)) w) : wpList P ops Q (o :: rest) a w := by
 refine wpList_plain hg fun K' hK' => ?_
 have hrun := run_lookup_ok hk hT hz h k c
 unfold Oper.wp
 simp only [execOp, hop, hm, hx, hrun, Result.andThen, Sem.run_bind, Sem.run_pure]
 exact hK' _ _ hK
theorem modify_is {κ : Type} [DecidableEq κ] {enc : κ → Value} (k : κ) (v : Value) : ∀ (l : List (κ × Value)) (es : List MapEntry) (i : Nat) (r : Nat × Value), EsIs enc es l → mfind l k i = some r → i ≤ r.1 ∧ (∃ e, es[r.1 - i]? = some e ∧ e.key = enc k) ∧ EsIs enc (es.modify (r.1 - i) fun e => { e with key := enc k, val := v }) (mput l k v)
 | [], _, _, _, _, h => by simp [mfind] at h
 | p :: l, es, i, r, h, hf => by
  obtain ⟨e, s, rfl, h1, h2, h3⟩ := h.cons_inv
  simp only [mfind] at hf
  by_cases hk : k = p.1
  ·rw [if_pos hk] at hf
   obtain rfl := Option.some.inj hf
   refine ⟨Nat.le_refl _, ⟨e, by simp, by rw [h1, hk]⟩, ?_⟩
   simp only [Nat.sub_self, List.modify_zero_cons, mput, if_pos hk]
   simp only [EsIs, List.map_cons] at h3 ⊢
   rw [h3]
  ·rw [if_neg hk] at hf
   obtain ⟨q1, ⟨e', q2, q3⟩, q4⟩ := modify_is k v l s (i + 1) r h3 hf
   obtain ⟨m, hm⟩ : ∃ m, r.1 - i = m + 1 := ⟨r.1 - (i + 1), by omega⟩
   have hm' : r.1 - (i + 1) = m := by omega
   rw [hm'] at q2 q4
   refine ⟨by omega, ⟨e', by rw [hm]; simpa using q2, q3⟩, ?_⟩
   rw [hm]
   simp only [List.modify_succ_cons, mput, if_neg hk]
   simp only [EsIs, List.map_cons] at q4 ⊢
   rw [q4, h1, h2]
theorem push_is {κ : Type} [DecidableEq κ] {enc : κ → Value} (k : κ) (v : Value) (n : Nat) : ∀ (l : List (κ × Value)) (es : List MapEntry) (i : Nat), EsIs enc es l → mfind l k i = none → EsIs enc (es ++ [{ key := enc k, val := v, born := n }]) (mput l k v)
 | [], es, _, h, _ => by
  rw [h.nil_inv]
  rfl
 | p :: l, es, i, h, hf => by
  obtain ⟨e, s, rfl, h1, h2, h3⟩ := h.cons_inv
  simp only [mfind] at hf
  by_cases hk : k = p.1
  ·rw [if_pos hk] at hf
   exact absurd hf (by simp)
  ·rw [if_neg hk] at hf
   have := push_is k v n l s (i + 1) h3 hf
   simp only [EsIs, List.map_cons, List.cons_append, mput, if_neg hk] at this ⊢
   rw [this, h1, h2]
theorem run_mapUpdate {κ : Type} [DecidableEq κ] {P : Program} {T K E : TypeId} {enc : κ → Value} (hk : KeyOk P K enc) (hT : P.underlying T = some (.map K E)) {w : World} {b : Nat} {l : List (κ × Value)} (h : MapAt enc w b l) (k : κ) (v : Value) :
  ∃ w', (Instr.mapUpdate T (.map (some b)) (enc k) v).run P w = .ok () w' ∧ MapAt enc w' b (mput l k v) ∧ w.grownBy w' (some b) := by
 obtain ⟨es, clock, h1, h2⟩ := h
 have hgo : (getObj b).run P w = .ok (.map es clock) w := by simp [getObj, Sem.run, h1]
 have hset : ∀ o : Obj, (setObj b o).run P w = .ok () (ChangeMaps.setBlock w b o) := fun o => MapKept.run_setObj_map o h1
 have hgr : ∀ o : Obj, w.grownBy (ChangeMaps.setBlock w b o) (some b) := fun o => ⟨rfl, rfl, rfl, by simp [ChangeMaps.setBlock], fun i _ hi => ChangeMaps.heap_setBlock_other h1 _ (fun e => hi (by rw [e]))⟩
 cases hf : mfind l k 0 with
 | none =>
  refine ⟨ChangeMaps.setBlock w b (.map (es.push { key := enc k, val := v, born := clock }) (clock + 1)), ?_, ⟨_, _, ChangeMaps.heap_setBlock_same h1 _, ?_⟩, hgr _⟩
  ·unfold Instr.mapUpdate
   rw [Sem.run_bind, run_underlying hT w]
   simp only [Result.andThen_ok, Sem.run_bind, hgo, hk.check, hk.find k es.toList l w h2, hf, hset]
  ·rw [Array.toList_push]
   exact push_is k v clock l es.toList 0 h2 hf
 | some r =>
  obtain ⟨_, ⟨e, q2, q3⟩, q4⟩ := modify_is k v l es.toList 0 r h2 hf
  rw [Nat.sub_zero] at q2 q4
  refine ⟨ChangeMaps.setBlock w b (.map (es.modify r.1 fun e => { e with key := enc k, val := v }) clock), ?_, ⟨_, _, ChangeMaps.heap_setBlock_same h1 _, ?_⟩, hgr _⟩
  ·unfold Instr.mapUpdate
   have q2' : es[r.1]? = some e := by simpa using q2
   rw [Sem.run_bind, run_underlying hT w]
   simp only [Result.andThen_ok, Sem.run_bind, hgo, hk.check, hk.find k es.toList l w h2, hf, q2', Option.map_some, Option.getD_some, q3, Instr.keyThatStays, hk.same, if_true, Sem.run_pure, hset]
  ·simpa using q4
theorem wpList_mapUpdate {κ : Type} [DecidableEq κ] {P : Program} {w : World} {ops : Array Oper} {rest : List Oper} {o : Oper} {a : Act} {Q : Exit → Act → World → Prop} {enc : κ → Value} {T K E : TypeId}
  (hg : o.guard = none) (m x v : Operand) (hop : o.op = Op.mapUpdate T m x v) (hk : KeyOk P K enc) (hT : P.underlying T = some (.map K E)) {b : Nat} {l : List (κ × Value)}
  (hm : a.eval m = .map (some b)) (h : MapAt enc w b l) (k : κ) (hx : a.eval x = enc k) (val : Value) (hv : a.eval v = val)
  (hK : ∀ w', MapAt enc w' b (mput l k val) → w.grownBy w' (some b) → wpList P ops Q rest (a.put o.dst undef) w') : wpList P ops Q (o :: rest) a w := by
 refine wpList_plain hg fun K' hK' => ?_
 obtain ⟨w', hrun, r1, r2⟩ := run_mapUpdate hk hT h k val
 unfold Oper.wp
 simp [execOp, hop, hm, hx, hv, hrun, Result.andThen]
 exact hK' _ _ (hK w' r1 r2)
theorem mlook_put {κ : Type} [DecidableEq κ] (k k' : κ) (v : Value) : ∀ l : List (κ × Value), mlook (mput l k v) k' = if k' = k then some v else mlook l k'
 | [] => by simp [mput, mlook]
 | p :: l => by
  simp only [mput]
  by_cases h : k = p.1
  ·rw [if_pos h]
   simp only [mlook]
   by_cases h2 : k' = k
   ·rw [if_pos h2, if_pos h2]
   ·rw [if_neg h2, if_neg h2, if_neg (fun e => h2 (e.trans h.symm))]
  ·rw [if_neg h]
   simp only [mlook]
   rw [mlook_put k k' v l]
   by_cases h2 : k' = p.1
   ·rw [if_pos h2, if_pos h2, if_neg (fun e => h (e.symm.trans h2))]
   ·rw [if_neg h2, if_neg h2]

-- 30_sets.lean
/-! ### Sets of whole numbers: a map with a bool -/
abbrev intE (a : Int) : Value := .int .i64 a
/-- The map of a list's elements. -/
def setM (l : List Int) : List (Int × Value) := l.foldl (fun m x => mput m x (.bool true)) []
theorem setM_snoc (l : List Int) (x : Int) : setM (l ++ [x]) = mput (setM l) x (.bool true) := by simp [setM]
theorem setM_look (s : Int) : ∀ (n : Nat) (l : List Int), l.length = n → mlook (setM l) s = if s ∈ l then some (.bool true) else none := by
 intro n
 induction n with
 | zero =>
  intro l hl
  rw [List.length_eq_zero_iff.1 hl]
  simp [setM, mlook]
 | succ n ih =>
  intro l hl
  obtain ⟨x, l', rfl⟩ : ∃ x l', l = l' ++ [x] := by
   rcases List.eq_nil_or_concat l with h | ⟨l', x, h⟩
   ·rw [h] at hl; simp at hl
   ·exact ⟨x, l', by rw [h, List.concat_eq_append]⟩
  rw [setM_snoc, mlook_put, ih l' (by simpa using hl)]
  by_cases h : s = x
  ·subst h; simp
  ·rw [if_neg h]
   have e : (s ∈ l' ++ [x]) ↔ s ∈ l' := by simp [h]
   by_cases h2 : s ∈ l'
   ·rw [if_pos h2, if_pos (e.2 h2)]
   ·rw [if_neg h2, if_neg (fun x => h2 (e.1 x))]
theorem setM_get (l : List Int) (s : Int) : (mlook (setM l) s).getD (.bool false) = .bool (decide (s ∈ l)) := by
 rw [setM_look s l.length l rfl]
 by_cases h : s ∈ l <;> simp [h]
theorem setM_some (l : List Int) (s : Int) : (mlook (setM l) s).isSome = decide (s ∈ l) := by
 rw [setM_look s l.length l rfl]
 by_cases h : s ∈ l <;> simp [h]
/-- A map is no row: what is written into a row leaves it. -/
theorem MapAt.ne_row {κ α : Type} {enc : κ → Value} {d : Kd α} {e base : Nat} {ok : Nat → Prop} {w : World} {b : Nat} {l : List (κ × Value)} {v : Value} {xs : List α} (h : MapAt enc w b l) (hR : d.R e w base ok v xs) : some b ≠ v.ownBlock := fun he => by
 obtain ⟨cells, hc⟩ := Kd.R_typed hR b he.symm
 obtain ⟨es, c, h1, _⟩ := h
 rw [h1] at hc
 cases hc
theorem MapAt.row {κ α : Type} {enc : κ → Value} {d : Kd α} {e base : Nat} {ok : Nat → Prop} {w w1 : World} {b : Nat} {l : List (κ × Value)} {v : Value} {xs : List α} (h : MapAt enc w b l) (hR : d.R e w base ok v xs) (hg : w.grownBy w1 v.ownBlock) : MapAt enc w1 b l := h.grown hg (h.ne_row hR)
/-- A row stays where a map is written. -/
theorem R_map {κ α : Type} {enc : κ → Value} {d : Kd α} {e base : Nat} {ok : Nat → Prop} {w w1 : World} {b : Nat} {l : List (κ × Value)} {v : Value} {xs : List α} (hR : d.R e w base ok v xs) (h : MapAt enc w b l) (hg : w.grownBy w1 (some b)) : d.R e w1 base ok v xs := by
 refine Kd.R_mono (Kd.R_grown (Kd.R_bound hR) hg (fun k hk he => ?_)) (fun k hk => hk.1)
 injection he with he
 subst he
 obtain ⟨_, _, _, q, _, cells, hc⟩ := hk
 obtain ⟨es, c, h1, _⟩ := h
 rw [h1] at hc
 cases hc

-- 40_copytail.lean
/-- copy(v[k:], ys), v a row of scalars of one's own, ys as long as what is behind k: the row's end is ys then. -/
theorem R_copy_tail {P : Program} {ops : Array Oper} {rest : List Oper} {o : Oper} {a : Act} {Q : Exit → Act → World → Prop} {α : Type} {enc : α → Value} {h1 : ∀ x, (enc x).oneCell' = true} (d : α) {w0 W : World} (base : Nat) (hgd : o.guard = none) (s x : Operand) (t t' e : TypeId)
  (ho : o.op = .call { callee := .builtin .copy, args := #[s, x], argTypes := #[t, t'] }) (ht : P.underlying t = some (.slice e)) (hinfo : (P.info? e).map (·.size) = some 1)
  (g k k' n cap : Nat) (xs ys : List α) (A : Option Addr) (m c c' : Nat) (ok : Nat → Prop) (hs : a.eval s = .slice (some ⟨g, k', none⟩) m c') (hk' : m = 0 ∨ k' = k) (hx : a.eval x = .slice A m c)
  (HO : (Kd.scalar enc h1).R e W base ok (.slice (some ⟨g, 0, none⟩) n cap) xs) (HR : (Kd.scalar enc h1).C W A m ys) (HB : Below base w0 W) (hbase : base ≤ W.heap.size) (hkm : k + m = xs.length)
  (h : ∀ w1, (Kd.scalar enc h1).R e w1 base ok (.slice (some ⟨g, 0, none⟩) n cap) (xs.take k ++ ys) → Below base w0 w1 → W.grownBy w1 (some g) → wpList P ops Q rest (a.put o.dst (.int .i64 (m : Int))) w1) :
  wpList P ops Q (o :: rest) a W := by
 have hR := Kd.reads_of_C (enc := enc) (d := d) (h1 := h1) HR
 have hm : ys.length = m := hR.1
 have hown := Kd.own_of_R HO
 have fin : ∀ w1, (Builtin.copy_ #[t, t'] o.type #[.slice (some ⟨g, k', none⟩) m c', .slice A m c]).run P W = .ok (goInt (m : Int)) w1 → (Kd.scalar enc h1).R e w1 base ok (.slice (some ⟨g, 0, none⟩) n cap) (xs.take k ++ ys) → W.grownBy w1 (some g) → wpList P ops Q (o :: rest) a W := by
  intro w1 hr hrow hg
  refine wpList_plain hgd fun K hK => ?_
  unfold Oper.wp execOp
  simp only [ho, resolve, invoke, builtin, Sem.run_bind, Sem.run_pure, Result.andThen_ok, List.map_toArray, List.map_cons, List.map_nil, hs, hx, hr]
  exact hK _ _ (h w1 hrow (HB.grown hg hbase (fun j hj => by cases hj; exact Kd.R_base HO g rfl)) hg)
 rcases Nat.eq_zero_or_pos m with h0 | hp
 ·subst h0
  have hy : ys = [] := List.eq_nil_of_length_eq_zero hm
  refine fin W ?_ (by rw [hy, List.append_nil, List.take_of_length_le (by omega)]; exact HO) (World.grownBy.refl W _)
  exact run_copy_none W t t' o.type e _ A 0 c' 0 c ht hinfo rfl
 ·obtain rfl : k' = k := by rcases hk' with h | h <;> omega
  obtain ⟨ad, hA, hc⟩ := hR.2.2 (by omega)
  rcases hown.2 with ⟨hv, _⟩ | ⟨g', cap', cur, hv, hb, hh, hnc, hcm, hcs, htake⟩
  ·cases hv
  simp only [Value.slice.injEq, Option.some.injEq, Addr.mk.injEq, and_true] at hv
  obtain ⟨rfl, hn, rfl⟩ := hv
  have hsrc : ∀ j u, (encs enc ys)[j]? = some u → W.cell? (ad.add j) = some u := by
   intro j u hu
   have hj : j < ys.length := by
    rcases Nat.lt_or_ge j ys.length with h | h
    ·exact h
    ·rw [List.getElem?_eq_none (by rw [encs_length]; exact h)] at hu
     cases hu
   rw [encs_get (d := d) _ j hj] at hu
   rw [hc j (by omega), ← hu]
  have hkl : (encs enc ys).length = m := by rw [encs_length, hm]
  have hr := run_copy_cells (P := P) W t t' o.type e g k' m c' ad m c (encs enc ys) ht hinfo (by rw [hkl]; exact (Nat.min_self m).symm) hsrc
   (fun j hj => by rw [cell_of_row W g _ cur e (0, 0) hh]; simp; omega) (fun j _ => blk_frozen hh _) (by intro u hu; simp only [encs, List.mem_map] at hu; obtain ⟨q, _, rfl⟩ := hu; exact h1 q)
  obtain ⟨cur', h3, h4, h5⟩ := setCells_row (encs enc ys) k' W cur hh (by rw [hkl]; omega)
  obtain ⟨s1, s2, s3, s4⟩ := setCells_same g (encs enc ys) k' W
  refine fin _ (by rw [hA, hr, hkl]) (Kd.R_of_own ?_ HO.1) ⟨s1, s2, s3, by rw [s4]; exact Nat.le_refl _, fun k' _ hk => setCells_far _ _ k' (fun he => hk (by rw [he]))⟩
  have hln : (xs.take k' ++ ys).length = xs.length := by
   rw [List.length_append, List.length_take]
   omega
  rw [hln]
  refine ⟨by rw [encs_length, hln, Nat.mul_one], .inr ⟨g, cap, cur', by rw [hn], hb, h3, hnc, hcm, by rw [h4, hcs], ?_⟩⟩
  have htk : cur.toList.take xs.length = encs enc xs := by rw [← htake, Nat.mul_one]
  have e1 : cur.toList.take k' = encs enc (xs.take k') := by
   have : encs enc (xs.take k') = (encs enc xs).take k' := by simp [encs, List.map_take]
   rw [this, ← htk, List.take_take, Nat.min_eq_left (by omega)]
  rw [h5, hkl, encs_append, Nat.mul_one, e1]
  rw [List.take_append_of_le_length (by rw [List.length_append, encs_length, hkl, List.length_take]; omega)]
  rw [List.take_of_length_le (by rw [List.length_append, encs_length, hkl, List.length_take]; omega)]

/-- The same, at the place that the slice's operation hands back; the row's address stays behind a letter. -/
theorem R_copy_tail' {P : Program} {ops : Array Oper} {rest : List Oper} {o : Oper} {a : Act} {Q : Exit → Act → World → Prop} {α : Type} {enc : α → Value} {h1 : ∀ x, (enc x).oneCell' = true} (d : α) {w0 W : World} (base : Nat) (hgd : o.guard = none) (s x : Operand) (t t' e : TypeId)
  (ho : o.op = .call { callee := .builtin .copy, args := #[s, x], argTypes := #[t, t'] }) (ht : P.underlying t = some (.slice e)) (hinfo : (P.info? e).map (·.size) = some 1)
  (g k n cap : Nat) (xs ys : List α) (A0 A : Option Addr) (m c c' : Nat) (ok : Nat → Prop) (hA : A0 = some ⟨g, 0, none⟩) (hs : a.eval s = .slice (if cap = k then A0 else A0.map (fun z => z.add k)) m c') (hx : a.eval x = .slice A m c)
  (HO : (Kd.scalar enc h1).R e W base ok (.slice A0 n cap) xs) (HR : (Kd.scalar enc h1).C W A m ys) (HB : Below base w0 W) (hbase : base ≤ W.heap.size) (hkm : k + m = xs.length)
  (h : ∀ w1, (Kd.scalar enc h1).R e w1 base ok (.slice A0 n cap) (xs.take k ++ ys) → Below base w0 w1 → W.grownBy w1 (some g) → wpList P ops Q rest (a.put o.dst (.int .i64 (m : Int))) w1) :
  wpList P ops Q (o :: rest) a W := by
 subst hA
 have hr := Kd.R_reads' HO
 by_cases hc : cap = k
 ·rw [if_pos hc] at hs
  exact R_copy_tail d base hgd s x t t' e ho ht hinfo g k 0 n cap xs ys A m c c' ok hs (.inl (by omega)) hx HO HR HB hbase hkm h
 ·rw [if_neg hc] at hs
  exact R_copy_tail d base hgd s x t t' e ho ht hinfo g k k n cap xs ys A m c c' ok (by rw [hs]; simp only [Option.map_some, Addr.add]; cases k <;> simp) (.inr rfl) hx HO HR HB hbase hkm h
theorem cut_run {P : Program} (t e : TypeId) (kl : IntKind) (ht : P.underlying t = some (.slice e)) (hinfo : (P.info? e).map (·.size) = some 1) (A : Option Addr) (n c m : Nat) (hm : m ≤ n) :
  ∃ A' : Option Addr, A' = (if c = m then A else A.map (fun z => z.add m)) ∧ (∀ W : World, (Instr.slice t (.slice A n c) (some (.int kl (m : Int))) none none).run P W = .ok (.slice A' (n - m) (c - m)) W) := by
 obtain ⟨i, hi, hsz⟩ := Option.map_eq_some_iff.1 hinfo
 refine ⟨if c = m then A else A.map (fun z => z.add m), rfl, fun W => ?_⟩
 have hel : P.elem t = e := by simp [Program.elem, ht]
 have hu : P.underlying t = some (.slice (P.elem t)) := by rw [hel]; exact ht
 rw [run_slice_l W t A n c hu kl (m : Int) (Int.natCast_nonneg _) (by omega), hel]
 simp [sizeOf, typeInfo, hi, hsz, sliced, Result.andThen]

-- rows3.lean
/-- A slice as a value of one cell. -/
structure SV where
 (A : Option Addr) (n c : Nat)
def SV.v (s : SV) : Value := .slice s.A s.n s.c
def SV.z : SV := ⟨none, 0, 0⟩
abbrev svk : Kd SV := Kd.scalar SV.v (fun _ => rfl)
/-- A row is carried over the writing of a row of another type. -/
theorem R_kinds {α β : Type} {d : Kd α} {d2 : Kd β} {e e2 base base2 : Nat} {ok ok2 : Nat → Prop} {w w1 : World} {v u : Value} {xs : List α} {ys : List β} (h : d.R e w base ok v xs) (h2 : d2.R e2 w base2 ok2 u ys) (hE : ∀ q ∈ e :: d.E, q ≠ e2) (hg : w.grownBy w1 u.ownBlock) : d.R e w1 base ok v xs := by
 refine Kd.R_mono (Kd.R_grown (Kd.R_bound h) hg (fun k hk he => ?_)) (fun k hk => hk.1)
 obtain ⟨cells, hc⟩ := Kd.R_typed h2 k he.symm
 obtain ⟨_, _, _, q, hq, cells', hc'⟩ := hk
 rw [hc'] at hc
 injection hc with hc
 injection hc with _ hc
 exact hE q hq hc
/-- The finished rows. -/
def DoneAt (w : World) (base : Nat) (ok : Nat → Prop) (vs : List SV) (ls : List (List Int)) : Prop := vs.length = ls.length ∧ ∀ i, i < vs.length → (Kd.int .i64).R 3 w base ok (vs.getD i SV.z).v (ls.getD i [])
theorem DoneAt.nil (w : World) (base : Nat) (ok : Nat → Prop) : DoneAt w base ok [] [] := ⟨rfl, fun i hi => by simp at hi⟩
theorem DoneAt.imp {w w1 : World} {base : Nat} {ok ok1 : Nat → Prop} {vs : List SV} {ls : List (List Int)} (h : DoneAt w base ok vs ls) (f : ∀ v xs, (Kd.int .i64).R 3 w base ok v xs → (Kd.int .i64).R 3 w1 base ok1 v xs) : DoneAt w1 base ok1 vs ls := ⟨h.1, fun i hi => f _ _ (h.2 i hi)⟩
theorem DoneAt.snoc {w : World} {base : Nat} {ok : Nat → Prop} {vs : List SV} {ls : List (List Int)} {v : SV} {l : List Int} (h : DoneAt w base ok vs ls) (hv : (Kd.int .i64).R 3 w base ok v.v l) : DoneAt w base ok (vs ++ [v]) (ls ++ [l]) := by
 refine ⟨by simp [h.1], fun i hi => ?_⟩
 rcases Nat.lt_or_ge i vs.length with c | c
 ·have e1 : (vs ++ [v]).getD i SV.z = vs.getD i SV.z := by simp [List.getD_eq_getElem?_getD, List.getElem?_append_left c]
  have e2 : (ls ++ [l]).getD i [] = ls.getD i [] := by simp [List.getD_eq_getElem?_getD, List.getElem?_append_left (h.1 ▸ c)]
  rw [e1, e2]
  exact h.2 i c
 ·have hi' : i = vs.length := by simp at hi; omega
  subst hi'
  have e1 : (vs ++ [v]).getD vs.length SV.z = v := by simp [List.getD_eq_getElem?_getD]
  have e2 : (ls ++ [l]).getD vs.length [] = l := by rw [h.1]; simp [List.getD_eq_getElem?_getD]
  rw [e1, e2]
  exact hv
/-- All rows finished: a row of rows. -/
theorem rows_of {w : World} {base : Nat} {v : Value} {vs : List SV} {ls : List (List Int)} (hr : svk.R 22 w base (fun _ => True) v vs) (h : DoneAt w base (fun _ => True) vs ls) : (Kd.slice 3 (Kd.int .i64)).R 22 w base (fun _ => True) v ls := by
 refine ⟨fun _ _ => trivial, encs SV.v vs, ?_, ?_⟩
 ·have := Kd.own_of_R hr
  rw [← h.1]
  exact this
 ·refine ⟨by rw [encs_length, h.1]; exact (Nat.mul_one _).symm, fun j p hj => ?_⟩
  have hjl : j < ls.length := (List.getElem?_eq_some_iff.1 hj).1
  have hjv : j < vs.length := by rw [h.1]; exact hjl
  have hc := h.2 j hjv
  have e1 : ls.getD j [] = p := by rw [List.getD_eq_getElem?_getD, hj]; rfl
  rw [e1] at hc
  refine ⟨(vs.getD j SV.z).v, ?_, Kd.R_mono (Kd.R_bound hc) (fun k hk => ⟨trivial, fun he => ?_⟩)⟩
  ·show ((encs SV.v vs).drop (j * 1)).take 1 = _
   have e2 : (encs SV.v vs)[j]? = some (vs.getD j SV.z).v := by simp [encs, List.getD_eq_getElem?_getD, List.getElem?_eq_getElem hjv]
   rw [Nat.mul_one, List.drop_eq_getElem_cons (by rw [encs_length]; exact hjv)]
   simp only [List.take_succ_cons, List.take_zero, List.cons.injEq, and_true]
   exact (List.getElem?_eq_some_iff.1 e2).2
  ·obtain ⟨cells, hc2⟩ := Kd.R_typed hr k he.symm
   obtain ⟨_, _, _, q, hq, cells', hc'⟩ := hk
   rw [hc'] at hc2
   injection hc2 with hc2
   injection hc2 with _ hc2
   subst hc2
   simp [Kd.int, Kd.scalar] at hq
/-! ### Parts: three rows in one element -/
structure P3 where
 (f0 f1 f2 : List Int)
def P3.z : P3 := ⟨[], [], []⟩
abbrev sk : Kd (List Int) := Kd.slice 3 (Kd.int .i64)
def k3 : Kd P3 := Kd.iso (Kd.pair sk (Kd.pair sk sk)) (fun x : P3 => (x.f0, x.f1, x.f2))
structure PV where
 (a b c : SV)
def PV.z : PV := ⟨SV.z, SV.z, SV.z⟩
def pvk : Kd PV := Kd.iso (Kd.pair svk (Kd.pair svk svk)) (fun x : PV => (x.a, x.b, x.c))
theorem pvk_mkM (w : World) (base : Nat) (ok : Nat → Prop) (x : PV) : pvk.M w base ok x [x.a.v, x.b.v, x.c.v] := ⟨[x.a.v], [x.b.v, x.c.v], rfl, rfl, ⟨[x.b.v], [x.c.v], rfl, rfl, rfl⟩⟩
theorem pvk_open {w : World} {x : PV} {cs : List Value} (h : pvk.K w x cs) : cs = [x.a.v, x.b.v, x.c.v] := by
 obtain ⟨_, _, rfl, rfl, ⟨_, _, rfl, rfl, rfl⟩⟩ := h
 rfl
def SVAt (w : World) (s : SV) (l : List Int) : Prop := s.n = l.length ∧ s.n ≤ s.c ∧ (Kd.int .i64).C w s.A s.n l
theorem SVAt.below {w w1 : World} {s : SV} {l : List Int} (h : SVAt w s l) (hb : Below w.heap.size w w1) : SVAt w1 s l := ⟨h.1, h.2.1, Kd.C_below h.2.2 hb⟩
theorem SVAt.sk {w : World} {s : SV} {l : List Int} (h : SVAt w s l) : sk.K w l [s.v] := ⟨s.A, s.c, by rw [← h.1]; rfl, by rw [← h.1]; exact h.2.1, by rw [← h.1]; exact h.2.2⟩
def PVAt (w : World) (x : PV) (p : P3) : Prop := SVAt w x.a p.f0 ∧ SVAt w x.b p.f1 ∧ SVAt w x.c p.f2
theorem PVAt.below {w w1 : World} {x : PV} {p : P3} (h : PVAt w x p) (hb : Below w.heap.size w w1) : PVAt w1 x p := ⟨h.1.below hb, h.2.1.below hb, h.2.2.below hb⟩
theorem PVAt.k3 {w : World} {x : PV} {p : P3} (h : PVAt w x p) : k3.K w p [x.a.v, x.b.v, x.c.v] := ⟨[x.a.v], [x.b.v, x.c.v], rfl, h.1.sk, ⟨[x.b.v], [x.c.v], rfl, h.2.1.sk, h.2.2.sk⟩⟩
def RowPV (w : World) (xs : List PV) (ps : List P3) : Prop := xs.length = ps.length ∧ ∀ i, i < xs.length → PVAt w (xs.getD i PV.z) (ps.getD i P3.z)
theorem RowPV.nil (w : World) : RowPV w [] [] := ⟨rfl, fun i hi => by simp at hi⟩
theorem RowPV.below {w w1 : World} {xs : List PV} {ps : List P3} (h : RowPV w xs ps) (hb : Below w.heap.size w w1) : RowPV w1 xs ps := ⟨h.1, fun i hi => (h.2 i hi).below hb⟩
theorem RowPV.snoc {w : World} {xs : List PV} {ps : List P3} {x : PV} {p : P3} (h : RowPV w xs ps) (hv : PVAt w x p) : RowPV w (xs ++ [x]) (ps ++ [p]) := by
 refine ⟨by simp [h.1], fun i hi => ?_⟩
 rcases Nat.lt_or_ge i xs.length with c | c
 ·have e1 : (xs ++ [x]).getD i PV.z = xs.getD i PV.z := by simp [List.getD_eq_getElem?_getD, List.getElem?_append_left c]
  have e2 : (ps ++ [p]).getD i P3.z = ps.getD i P3.z := by simp [List.getD_eq_getElem?_getD, List.getElem?_append_left (h.1 ▸ c)]
  rw [e1, e2]
  exact h.2 i c
 ·have hi' : i = xs.length := by simp at hi; omega
  subst hi'
  have e1 : (xs ++ [x]).getD xs.length PV.z = x := by simp [List.getD_eq_getElem?_getD]
  have e2 : (ps ++ [p]).getD xs.length P3.z = p := by rw [h.1]; simp [List.getD_eq_getElem?_getD]
  rw [e1, e2]
  exact hv
theorem RowPV.C {w : World} {xs : List PV} {ps : List P3} {A : Option Addr} {n : Nat} (h : RowPV w xs ps) (hc : pvk.C w A n xs) : k3.C w A n ps := by
 obtain ⟨h1, h2, h3⟩ := hc
 refine ⟨by rw [← h.1]; exact h1, h2, fun hp => ?_⟩
 obtain ⟨ad, e, hget⟩ := h3 hp
 refine ⟨ad, e, fun i p hi => ?_⟩
 have hil : i < xs.length := by rw [h.1]; exact (List.getElem?_eq_some_iff.1 hi).1
 obtain ⟨c, hcl, hK, hcell⟩ := hget i _ (List.getElem?_eq_getElem hil)
 obtain rfl := pvk_open hK
 have hx := h.2 i hil
 have e1 : xs.getD i PV.z = xs[i] := by simp [List.getD_eq_getElem?_getD, List.getElem?_eq_getElem hil]
 have e2 : ps.getD i P3.z = p := by rw [List.getD_eq_getElem?_getD, hi]; rfl
 rw [e1, e2] at hx
 exact ⟨_, hcl, hx.k3, hcell⟩
theorem at_k3 {w : World} {A : Option Addr} {n : Nat} {ps : List P3} (h : k3.C w A n ps) (i : Nat) (h1 : i < n) : ∃ (ad : Addr) (x : PV), A = some ad ∧ PVAt w x (ps.getD i P3.z) ∧ w.cell? (ad.add (i * 3)) = some x.a.v ∧ w.cell? ⟨(ad.add (i * 3)).block, (ad.add (i * 3)).off + 1, none⟩ = some x.b.v ∧ w.cell? ⟨(ad.add (i * 3)).block, (ad.add (i * 3)).off + 2, none⟩ = some x.c.v := by
 obtain ⟨l1, l2, l3⟩ := h
 obtain ⟨ad, e, hget⟩ := l3 (by omega)
 have hil : i < ps.length := by rw [l1]; exact h1
 obtain ⟨c, hcl, hK, hcell⟩ := hget i _ (List.getElem?_eq_getElem hil)
 obtain ⟨_, _, rfl, ⟨A0, c0, rfl, q0, r0⟩, ⟨_, _, rfl, ⟨A1, c1, rfl, q1, r1⟩, ⟨A2, c2, rfl, q2, r2⟩⟩⟩ := hK
 have e1 : ps.getD i P3.z = ps[i] := by simp [List.getD_eq_getElem?_getD, List.getElem?_eq_getElem hil]
 rw [e1]
 refine ⟨ad, ⟨⟨A0, _, c0⟩, ⟨A1, _, c1⟩, ⟨A2, _, c2⟩⟩, e, ⟨⟨rfl, q0, r0⟩, ⟨rfl, q1, r1⟩, ⟨rfl, q2, r2⟩⟩, ?_, ?_, ?_⟩
 ·exact hcell 0 _ rfl
 ·rw [← add_field _ _ 1 (by omega)]
  exact hcell 1 _ rfl
 ·rw [← add_field _ _ 2 (by omega)]
  exact hcell 2 _ rfl

/-! ### treemergelaw32_short: function 10 -/
def treemergelaw32_short.f (l0 : List Int) (l1 : List Int) (l2 : List Int) : Option (Bool) := if (l0.length : Int) ≤ 30 then (if (l1.length : Int) ≤ 30 then (some (decide ((l2.length : Int) ≤ 30))) else (some false)) else (some false)
set_option maxHeartbeats 8000000 in
set_option maxRecDepth 100000 in
theorem treemergelaw32_short.calls (A0 : Option Addr) (c0 : Nat) (l0 : List Int) (A1 : Option Addr) (c1 : Nat) (l1 : List Int) (A2 : Option Addr) (c2 : Nat) (l2 : List Int) (r : Bool) (w : World) (hr0 : Kd.C (Kd.int .i64) w A0 l0.length l0) (hc0 : l0.length ≤ c0) (hr1 : Kd.C (Kd.int .i64) w A1 l1.length l1) (hc1 : l1.length ≤ c1) (hr2 : Kd.C (Kd.int .i64) w A2 l2.length l2) (hc2 : l2.length ≤ c2) (h : treemergelaw32_short.f l0 l1 l2 = some r) :
  Calls Try.prog 10 #[.slice A0 l0.length c0, .slice A1 l1.length c1, .slice A2 l2.length c2] w fun e w' => e = .returned (.bool r) ∧ Drawn0 w w' := by
 have HR0 := Aside0.mk hr0
 have HC0 := Aside0.mk hc0
 clear hr0 hc0
 have HR1 := Aside0.mk hr1
 have HC1 := Aside0.mk hc1
 clear hr1 hc1
 have HR2 := Aside0.mk hr2
 have HC2 := Aside0.mk hc2
 clear hr2 hc2
 have H : (if (l0.length : Int) ≤ 30 then (if (l1.length : Int) ≤ 30 then (some (decide ((l2.length : Int) ≤ 30))) else (some false)) else (some false)) = some r := h
 clear h
 by_cases c4 : (l0.length : Int) ≤ 30
 ·rw [if_pos c4] at H
  have c4b0 : decide ((l0.length : Int) ≤ 30) = true := decide_eq_true c4
  have c4b1 : decide (l0.length ≤ 30) = true := decide_eq_true (by omega)
  clear c4
  by_cases c5 : (l1.length : Int) ≤ 30
  ·rw [if_pos c5] at H
   have c5b0 : decide ((l1.length : Int) ≤ 30) = true := decide_eq_true c5
   have c5b1 : decide (l1.length ≤ 30) = true := decide_eq_true (by omega)
   clear c5
   obtain rfl := Option.some.inj H
   go_enter Try.func10, Try.ntmps10
   go_wp2
   go_ret
   exact ⟨SX, by repeat (first | exact Drawn0.refl _ | apply Drawn0.step)⟩
  ·rw [if_neg c5] at H
   have c5b0 : decide ((l1.length : Int) ≤ 30) = false := decide_eq_false c5
   have c5b1 : decide (l1.length ≤ 30) = false := decide_eq_false (by omega)
   clear c5
   obtain rfl := Option.some.inj H
   go_enter Try.func10, Try.ntmps10
   go_wp2
   go_ret
   exact ⟨SX, by repeat (first | exact Drawn0.refl _ | apply Drawn0.step)⟩
 ·rw [if_neg c4] at H
  have c4b0 : decide ((l0.length : Int) ≤ 30) = false := decide_eq_false c4
  have c4b1 : decide (l0.length ≤ 30) = false := decide_eq_false (by omega)
  clear c4
  obtain rfl := Option.some.inj H
  go_enter Try.func10, Try.ntmps10
  go_wp2
  go_ret
  exact ⟨SX, by repeat (first | exact Drawn0.refl _ | apply Drawn0.step)⟩

/-! ### treemergeref03_Short: function 11 -/
def treemergeref03_Short.l0 : Nat → List ByteArray → Int → Int → Option (Bool)
 | 0, _, _, _ => none
 | k + 1, x0, x2, x7 => if x7 < (x0.length : Int) then (if 0 ≤ x7 then (if ((rdOf ByteArray.empty x0 x7).size : Int) > x2 then (some false) else (treemergeref03_Short.l0 k x0 x2 (wrap64 (x7 + 1)))) else (none)) else (some true)
def treemergeref03_Short.f (k : Nat) (l0 : List ByteArray) (a1 : Int) (a2 : Int) : Option (Bool) := if (l0.length : Int) > a1 then (some false) else (treemergeref03_Short.l0 k l0 a2 0)
theorem treemergeref03_Short.mono_l : ∀ k, (∀ y0 y1 y2, LeO (treemergeref03_Short.l0 k y0 y1 y2) (treemergeref03_Short.l0 (k + 1) y0 y1 y2))
 | 0 => fun _ _ _ r h => by simp [treemergeref03_Short.l0] at h
 | k + 1 => by
  have ih0 := treemergeref03_Short.mono_l k
  ·intro y0 y1 y2
   unfold treemergeref03_Short.l0
   repeat' first
   | (with_reducible exact ih0 _ _ _)
   | (with_reducible exact LeO.refl _)
   | (with_reducible exact LeO.none _)
   | (with_reducible refine LeO.ite ?_ ?_)
   | (with_reducible refine LeO.bind ?_ (fun _ => ?_))
theorem treemergeref03_Short.mono : ∀ a0 a1 a2 k, LeO (treemergeref03_Short.f k a0 a1 a2) (treemergeref03_Short.f (k + 1) a0 a1 a2) := by
 intro a0 a1 a2 k
 have ih0 := treemergeref03_Short.mono_l k
 unfold treemergeref03_Short.f
 repeat' first
   | (with_reducible exact ih0 _ _ _)
   | (with_reducible exact LeO.refl _)
   | (with_reducible exact LeO.none _)
   | (with_reducible refine LeO.ite ?_ ?_)
   | (with_reducible refine LeO.bind ?_ (fun _ => ?_))
set_option maxHeartbeats 8000000 in
set_option maxRecDepth 100000 in
theorem treemergeref03_Short.calls (k : Nat) (A0 : Option Addr) (c0 : Nat) (l0 : List ByteArray) (a1 : Int) (a2 : Int) (r : Bool) (w : World) (hr0 : Kd.C Kd.string w A0 l0.length l0) (hc0 : l0.length ≤ c0) (h : treemergeref03_Short.f k l0 a1 a2 = some r) :
  Calls Try.prog 11 #[.slice A0 l0.length c0, .int .i64 a1, .int .i64 a2] w fun e w' => e = .returned (.bool r) ∧ Drawn0 w w' := by
 have HR0 := Aside0.mk hr0
 have HC0 := Aside0.mk hc0
 clear hr0 hc0
 have H : (if (l0.length : Int) > a1 then (some false) else (treemergeref03_Short.l0 k l0 a2 0)) = some r := h
 clear h
 by_cases c4 : (l0.length : Int) > a1
 ·rw [if_pos c4] at H
  have c4b0 : decide (a1 < (l0.length : Int)) = true := decide_eq_true c4
  clear c4
  obtain rfl := Option.some.inj H
  go_enter Try.func11, Try.ntmps11
  go_wp2
  go_ret
  exact ⟨SX, by repeat (first | exact Drawn0.refl _ | apply Drawn0.step)⟩
 ·rw [if_neg c4] at H
  have c4b0 : decide (a1 < (l0.length : Int)) = false := decide_eq_false c4
  clear c4
  have H' := Aside0.mk H
  clear H
  go_enter Try.func11, Try.ntmps11
  go_wp2
  go_loopg [7] k (fun kq v7 w' => ∃ (x7_1 : Int), v7 = .int .i64 x7_1 ∧ Aside0 (treemergeref03_Short.l0 kq l0 a2 x7_1 = some r) ∧ Aside0 (kq ≤ k) ∧ Drawn0 w w')
  case atStart => exact ⟨(0), SX, H', ⟨Nat.le_refl _⟩, by repeat (first | exact Drawn0.refl _ | apply Drawn0.step)⟩
  case round =>
   clear H'
   try clear c1
   try clear p2
   try clear c4
   try clear c4b0
   obtain ⟨x7_1, rfl, HA, HK1, ⟨m1, rfl⟩⟩ := hrel
   cases gk with
   | zero => exact absurd HA.out (by simp [treemergeref03_Short.l0])
   | succ k1 =>
    have H := HA.out
    clear HA
    simp only [treemergeref03_Short.l0] at H
    by_cases c5 : x7_1 < (l0.length : Int)
    ·rw [if_pos c5] at H
     have c5b0 : decide (x7_1 < (l0.length : Int)) = true := decide_eq_true c5
     clear c5
     by_cases c6 : 0 ≤ x7_1
     ·rw [if_pos c6] at H
      have c6b0 : decide (0 ≤ x7_1) = true := decide_eq_true c6
      clear c6
      by_cases c7 : ((rdOf ByteArray.empty l0 x7_1).size : Int) > a2
      ·rw [if_pos c7] at H
       have c7b0 : decide (a2 < ((rdOf ByteArray.empty l0 x7_1).size : Int)) = true := decide_eq_true c7
       clear c7
       obtain rfl := Option.some.inj H
       have p101 : 0 ≤ (x7_1 : Int) := of_decide_eq_true AX
       have q101 : x7_1 < (l0.length : Int) := of_decide_eq_true AX
       obtain ⟨ad101, e101, hx101_0⟩ := Kd.at_string HR0.out x7_1 p101 q101
       cases e101
       replace p101 := eq_true p101
       replace q101 := eq_true q101
       go_wp2
       go_ret
       exact ⟨SX, by repeat (first | exact Drawn0.refl _ | apply Drawn0.step)⟩
      ·rw [if_neg c7] at H
       have c7b0 : decide (a2 < ((rdOf ByteArray.empty l0 x7_1).size : Int)) = false := decide_eq_false c7
       clear c7
       have H' := Aside0.mk H
       clear H
       have p101 : 0 ≤ (x7_1 : Int) := of_decide_eq_true AX
       have q101 : x7_1 < (l0.length : Int) := of_decide_eq_true AX
       obtain ⟨ad101, e101, hx101_0⟩ := Kd.at_string HR0.out x7_1 p101 q101
       cases e101
       replace p101 := eq_true p101
       replace q101 := eq_true q101
       go_wp2
       go_roundg k1
       case measure => have := HK1.out; omega
       case rel => exact ⟨(wrap64 (x7_1 + 1)), SX, H', ⟨by have := HK1.out; omega⟩, by repeat (first | exact Drawn0.refl _ | apply Drawn0.step)⟩
     ·rw [if_neg c6] at H
      exact absurd H (by simp)
    ·rw [if_neg c5] at H
     have c5b0 : decide (x7_1 < (l0.length : Int)) = false := decide_eq_false c5
     clear c5
     obtain rfl := Option.some.inj H
     go_wp2
     go_ret
     exact ⟨SX, by repeat (first | exact Drawn0.refl _ | apply Drawn0.step)⟩

/-! ### sequence_once: function 25 (by hand) -/
/-- The first occurrences. -/
def onceL : List Int → List Int → List Int
 | [], out => out
 | x :: r, out => onceL r (if x ∈ out then out else out ++ [x])
def onceS (l : List Int) : List Int := onceL l []
def sequence_once.f (l : List Int) : Option (List Int) := if l.length < 17592186044416 then some (onceS l) else none
set_option maxHeartbeats 2000000 in
theorem sequence_once.calls (A0 : Option Addr) (c0 : Nat) (l0 : List Int) (r : List Int) (w : World) (hr0 : Kd.C (Kd.int .i64) w A0 l0.length l0) (hc0 : l0.length ≤ c0) (h : sequence_once.f l0 = some r) :
  Calls Try.prog 25 #[.slice A0 l0.length c0] w fun e w' => ∃ v0_ : Value, e = .returned (v0_) ∧ Kd.R (Kd.int .i64) 3 w' w.heap.size (fun _ => True) v0_ r ∧ Below w.heap.size w w' := by
 have HR0 := Aside0.mk hr0
 clear hr0 hc0
 unfold sequence_once.f at h
 have hlen : l0.length < 17592186044416 := by
  by_cases c : l0.length < 17592186044416
  ·exact c
  ·rw [if_neg c] at h
   cases h
 rw [if_pos hlen] at h
 have HF := Aside0.mk (Option.some.inj h)
 clear h
 have hmm := @run_makeMap Try.prog
 go_enter Try.func25, Try.ntmps25
 go_wp2
 go_loopg [4, 10] l0.length (fun gk v4 v10 w' => ∃ (k : Nat) (out : List Int), v10 = .int .i64 k ∧ k + gk = l0.length ∧ out.length ≤ k ∧ Aside0 (onceL (l0.drop k) out = r) ∧ Aside0 (Kd.R (Kd.int .i64) 3 w' w.heap.size (fun _ => True) v4 out) ∧ Aside0 (MapAt intE w' w.heap.size (setM out)) ∧ Aside0 (Below w.heap.size w w'))
 case atStart =>
  refine ⟨0, [], rfl, by omega, by simp, ⟨?_⟩, ⟨?_⟩, ⟨?_⟩, ⟨?_⟩⟩
  ·exact HF.out
  ·exact Kd.R_nil _ _ _ _ _
  ·exact MapAt.new intE w
  ·exact below_alloc (Below.refl _ _) _
 case round =>
  obtain ⟨k, out, rfl, hk, hout, HL, HO, HM, HB⟩ := hrel
  obtain ⟨go, rfl⟩ : ∃ go, go = gk := ⟨gk, rfl⟩
  have HK := Aside0.mk hk
  cases go with
  | succ g =>
   have h1 : decide ((k : Int) < (l0.length : Int)) = true := decide_eq_true (by omega)
   have h2 : decide (k < l0.length) = true := decide_eq_true (by omega)
   have p12 : 0 ≤ (k : Int) := by omega
   have q12 : (k : Int) < (l0.length : Int) := by omega
   obtain ⟨ad, e, hx⟩ := Kd.at_int (Kd.C_below HR0.out HB.out) (k : Int) p12 q12
   cases e
   rw [Int.toNat_natCast] at hx
   have hk9 : k < l0.length := by omega
   have hd : l0.drop k = rd l0 (k : Int) :: l0.drop (k + 1) := by
    rw [List.drop_eq_getElem_cons hk9]
    unfold rd
    simp [List.getD_eq_getElem?_getD, List.getElem?_eq_getElem hk9]
   obtain ⟨x, hxe⟩ : ∃ x, x = rd l0 (k : Int) := ⟨_, rfl⟩
   rw [← hxe] at hx hd
   have HL2 := Aside0.mk (show onceL (l0.drop (k + 1)) (if x ∈ out then out else out ++ [x]) = r by have := HL.out; rw [hd, onceL] at this; exact this)
   clear hd hxe HL hk
   have HG := Aside0.mk (setM_get out x)
   by_cases hin : x ∈ out
   ·rw [if_pos hin] at HL2
    rw [decide_eq_true hin] at HG
    clear hin
    go_wp2_with (with_reducible refine wpList_lookup (z := .bool false) rfl _ _ rfl (KeyOk.int Try.underlying3) Try.underlying41 (by kernel_rfl) rfl HM.out x rfl ?_; rw [HG.out])
    go_roundg g
    case measure => omega
    case rel => exact ⟨k + 1, out, by go_num, by have := HK.out; omega, by omega, HL2, HO, HM, HB⟩
   ·rw [if_neg hin] at HL2
    rw [decide_eq_false hin] at HG
    clear hin
    obtain ⟨Ao, co, eo⟩ := Kd.R_slice HO.out
    subst eo
    have hb44 : out.length < 17592186044416 := by omega
    have HS := Aside0.mk (setM_snoc out x)
    go_wp2_with (first | (with_reducible refine wpList_lookup (z := .bool false) rfl _ _ rfl (KeyOk.int Try.underlying3) Try.underlying41 (by kernel_rfl) rfl HM.out x rfl ?_; rw [HG.out]) | (with_reducible refine wpList_mapUpdate rfl _ _ _ rfl (KeyOk.int Try.underlying3) Try.underlying41 rfl HM.out x rfl _ rfl ?_; intro w2 hm2 hg2; have HM2 := Aside0.mk hm2; have HB2 := Aside0.mk (HB.out.grown hg2 (by have := HB.out.size; omega) (fun j hj => by cases hj; exact Nat.le_refl _)); have HO2 := Aside0.mk (R_map HO.out HM.out hg2); clear hm2 hg2) | ((with_reducible refine gate_builtin (b := .append) (xs := #[.tmp 20, .tmp 22]) rfl ?_); at_builtin; refine Kd.R_append (Kd.int .i64) (w0 := w) w.heap.size rfl (.tmp 20) (.tmp 22) 22 3 (.int .i64 0) 8 rfl Try.underlying22 info3 rfl (by decide) (by omega) (.slice Ao out.length co) out x [.int .i64 x] (fun _ => True) (fun _ => False) rfl rfl ?aP (fun _ hk => hk.elim) ?aF ?aO ?aB ?aS ?aL ?_; (case aP => exact rfl); (case aF => exact (fun _ _ => trivial)); (case aO => exact (RX HO2.out)); (case aB => exact (by repeat (first | (with_reducible first | exact HB2.out | apply below_alloc | apply pw_below_drewN | apply below_drew1) | exact HB2.out))); (case aS => exact (below_size (by repeat (first | (with_reducible first | exact HB2.out | apply below_alloc | apply pw_below_drewN | apply below_drew1) | exact HB2.out)))); (case aL => omega); intro v9 w9 ho hb hg hat; have HO9 := Aside0.mk ho; have HB9 := Aside0.mk hb; have HM9 := Aside0.mk (MapAt.row (by (with_reducible repeat (first | apply MapAt.alloc | apply MapAt.drewN)); exact HM2.out) (show Kd.R (Kd.int .i64) 3 _ w.heap.size (fun _ => True) (.slice Ao out.length co) out from RX HO2.out) hg); clear ho hb hg hat))
    go_roundg g
    case measure => omega
    case rel =>
     refine ⟨k + 1, out ++ [x], by go_num, by have := HK.out; omega, by simp; omega, HL2, HO9, ⟨?_⟩, HB9⟩
     rw [HS.out]
     exact HM9.out
  | zero =>
   have h1 : decide ((k : Int) < (l0.length : Int)) = false := decide_eq_false (by omega)
   have h2 : decide (k < l0.length) = false := decide_eq_false (by omega)
   have HL2 := Aside0.mk (show out = r by have := HL.out; rw [List.drop_of_length_le (by omega), onceL] at this; exact this)
   clear hk HL
   go_wp2
   go_ret
   exact ⟨_, rfl, HL2.out ▸ HO.out, HB.out⟩

/-! ### sequence_members: function 26 (by hand) -/
set_option maxHeartbeats 2000000 in
theorem sequence_members.calls (A0 : Option Addr) (c0 : Nat) (l0 : List Int) (w : World) (hr0 : Kd.C (Kd.int .i64) w A0 l0.length l0) :
  Calls Try.prog 26 #[.slice A0 l0.length c0] w fun e w' => e = .returned (.map (some w.heap.size)) ∧ MapAt intE w' w.heap.size (setM l0) ∧ Below w.heap.size w w' := by
 have HR0 := Aside0.mk hr0
 have hlen : l0.length ≤ 9223372036854775807 := hr0.2.1
 clear hr0
 have hmm := @run_makeMap Try.prog
 go_enter Try.func26, Try.ntmps26
 go_wp2
 go_loopg [9] l0.length (fun gk v9 w' => ∃ (k : Nat), v9 = .int .i64 k ∧ k + gk = l0.length ∧ Aside0 (MapAt intE w' w.heap.size (setM (l0.take k))) ∧ Aside0 (Below w.heap.size w w'))
 case atStart =>
  refine ⟨0, rfl, by omega, ⟨?_⟩, ⟨?_⟩⟩
  ·exact MapAt.new intE w
  ·exact below_alloc (Below.refl _ _) _
 case round =>
  obtain ⟨k, rfl, hk, HM, HB⟩ := hrel
  obtain ⟨go, rfl⟩ : ∃ go, go = gk := ⟨gk, rfl⟩
  have HK := Aside0.mk hk
  cases go with
  | succ g =>
   have h1 : decide ((k : Int) < (l0.length : Int)) = true := decide_eq_true (by omega)
   have h2 : decide (k < l0.length) = true := decide_eq_true (by omega)
   have p12 : 0 ≤ (k : Int) := by omega
   have q12 : (k : Int) < (l0.length : Int) := by omega
   obtain ⟨ad, e, hx⟩ := Kd.at_int (Kd.C_below HR0.out HB.out) (k : Int) p12 q12
   cases e
   rw [Int.toNat_natCast] at hx
   have hk9 : k < l0.length := by omega
   have HT := Aside0.mk (show l0.take (k + 1) = l0.take k ++ [rd l0 (k : Int)] by
    rw [List.take_succ_eq_append_getElem hk9]
    unfold rd
    simp [List.getD_eq_getElem?_getD, List.getElem?_eq_getElem hk9])
   obtain ⟨x, hxe⟩ : ∃ x, x = rd l0 (k : Int) := ⟨_, rfl⟩
   rw [← hxe] at hx HT
   clear hxe hk
   go_wp2_with (with_reducible refine wpList_mapUpdate rfl _ _ _ rfl (KeyOk.int Try.underlying3) Try.underlying41 rfl HM.out x rfl _ rfl ?_; intro w2 hm2 hg2; have HM2 := Aside0.mk hm2; have HB2 := Aside0.mk (HB.out.grown hg2 (by have := HB.out.size; omega) (fun j hj => by cases hj; exact Nat.le_refl _)); clear hm2 hg2)
   go_roundg g
   case measure => omega
   case rel =>
    refine ⟨k + 1, by go_num, by have := HK.out; omega, ⟨?_⟩, HB2⟩
    rw [HT.out, setM_snoc]
    exact HM2.out
  | zero =>
   have h1 : decide ((k : Int) < (l0.length : Int)) = false := decide_eq_false (by omega)
   have h2 : decide (k < l0.length) = false := decide_eq_false (by omega)
   have hkl : l0.take k = l0 := List.take_of_length_le (by omega)
   rw [hkl] at HM
   clear hkl hk
   go_wp2
   go_ret
   exact ⟨rfl, HM.out, HB.out⟩

/-! ### sort_Ints: function 31 (by hand) -/
/-! The library's sort, over a row of the call's own. -/
theorem holds_of_own {α : Type} [Inhabited α] {enc : α → Value} {w : World} {g : Nat} {cur : Array Value} {e : TypeId} {ss : List α} (hb : w.heap[g]? = some (.cells cur e (0, 0))) (ht : cur.toList.take ss.length = ss.map enc) : Sort.Holds enc w g 0 ss.toArray := by
 intro j hj
 have hj' : j < ss.length := by simpa using hj
 refine ⟨?_, by simp [World.frozen?, hb]⟩
 have h1 : (cur.toList.take ss.length)[j]? = (ss.map enc)[j]? := by rw [ht]
 rw [List.getElem?_take_of_lt hj'] at h1
 simp only [World.cell?, hb, Nat.zero_add]
 simp only [Option.isSome_none, Bool.false_eq_true, if_false]
 rw [← Array.getElem?_toList, h1]
 simp [hj']
theorem heap_sortedE {α : Type} [Inhabited α] {enc : α → Value} {w : World} {g n : Nat} {os : Array Obj} {cur : Array Value} {e : TypeId} {fr : Nat × Nat} (d : Array α) (hb : w.heap[g]? = some (.cells cur e fr)) :
  (Sort.grow (Sort.putRow enc (Sort.ahead w n) g 0 d) os).heap[g]? = some (.cells (Sort.putCells enc 0 d cur) e fr) := by
 have hg : g < w.heap.size := (Array.getElem?_eq_some_iff.1 hb).1
 rw [Sort.heap_grow_old _ _ (by simpa using hg)]
 simp [Sort.putRow, Sort.mapBlock, Sort.ahead, Array.getElem?_modify, hb, Sort.onCells]
theorem grownBy_sortedE {α : Type} [Inhabited α] {enc : α → Value} {w : World} {g n : Nat} {os : Array Obj} (d : Array α) : w.grownBy (Sort.grow (Sort.putRow enc (Sort.ahead w n) g 0 d) os) (some g) := by
 refine ⟨rfl, rfl, rfl, by simp, fun k hk hne => ?_⟩
 rw [Sort.heap_grow_old _ _ (by simpa using hk)]
 have : g ≠ k := fun e => hne (by rw [e])
 simp [Sort.putRow, Sort.mapBlock, Sort.ahead, Array.getElem?_modify, this]
theorem take_putCellsE {α : Type} [Inhabited α] {enc : α → Value} (cur : Array Value) (ts : List α) (h : ts.length ≤ cur.size) : (Sort.putCells enc 0 ts.toArray cur).toList.take ts.length = ts.map enc := by
 apply List.ext_getElem?
 intro j
 by_cases hj : j < ts.length
 ·rw [List.getElem?_take_of_lt hj, Array.getElem?_toList]
  simp [Sort.putCells, hj, show j < cur.size by omega]
 ·rw [List.getElem?_take_eq_none (by omega), List.getElem?_eq_none (by simp; omega)]
def sortI (l : List Int) : List Int := l.mergeSort fun x y => decide (x ≤ y)
theorem sortI_len (l : List Int) : (sortI l).length = l.length := List.length_mergeSort l
theorem sort_ints_own (base : Nat) (ok : Nat → Prop) (v : Value) (xs : List Int) (w : World) (h : Kd.R (Kd.int .i64) 3 w base ok v xs) (hs : xs.length < 4611686018427387904) :
  Calls Try.prog 31 #[v] w fun e w' => e = .returned (.tuple #[]) ∧ Kd.R (Kd.int .i64) 3 w' base ok v (sortI xs) ∧ w.grownBy w' v.ownBlock := by
 have ho := Kd.own_of_R h
 rcases ho.2 with ⟨rfl, hn⟩ | ⟨g, cap, cur, rfl, hbase, hb, h1, h2, h3, h4⟩
 ·have hx : xs = [] := by simpa [encs] using hn
  subst hx
  refine (Go.Proofs.Try.sort_Ints_none none 0 w).mono ?_
  rintro e w' ⟨rfl, rfl⟩
  exact ⟨rfl, by simpa [sortI] using h, ⟨rfl, rfl, rfl, Nat.le_refl _, fun _ _ _ => rfl⟩⟩
 ·refine (Go.Proofs.Try.sort_Ints g 0 cap xs w (holds_of_own hb (by simpa [encs] using h4)) (Array.getElem?_eq_some_iff.1 hb).1 hs).mono ?_
  rintro e w' ⟨rfl, n, os, rfl⟩
  refine ⟨rfl, ?_, grownBy_sortedE _⟩
  have hl := sortI_len xs
  refine Kd.R_of_own ?_ h.1
  rw [hl]
  exact ⟨by simp [encs, hl], .inr ⟨g, cap, _, rfl, hbase, heap_sortedE _ hb, h1, h2, by simp [Sort.putCells, h3], by
   rw [Nat.mul_one, ← hl]
   exact take_putCellsE cur (sortI xs) (by omega)⟩⟩

end Go.Proofs.Ytdbgdkbpamekpaa.Q
