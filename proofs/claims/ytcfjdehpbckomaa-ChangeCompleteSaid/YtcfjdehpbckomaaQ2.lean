-- Written by a program of this session (mk.py) out of the translation; Lean checks it.
import Derived.Test.YtcfjdehpbckomaaQ0
namespace Go.Proofs.Ytcfjdehpbckomaa.Q
open Go.RowKit Go.Proofs.YtcfjdehpbckomaaW.PrintWords Go.Proofs.YtcfjdehpbckomaaW.PrintLast Go.Proofs.YtcfjdehpbckomaaW.PrintMore
attribute [local go_sem] max2_int min2_int max_two min_two max_three min_three max_four min_four   -- for this text's walks alone
set_option linter.unusedVariables false
set_option linter.unusedSimpArgs false

-- 00_globat.lean
def GlobAt (w : World) (g : Nat) (cs : Array Value) : Prop := ∃ t fr, w.heap[g]? = some (.cells cs t fr)
theorem GlobAt.lt {w : World} {g : Nat} {cs : Array Value} (h : GlobAt w g cs) : g < w.heap.size := by
 obtain ⟨t, fr, h⟩ := h
 exact (Array.getElem?_eq_some_iff.mp h).1
theorem GlobAt.below {w w' : World} {g : Nat} {cs : Array Value} (hb : Below w.heap.size w w') (h : GlobAt w g cs) : GlobAt w' g cs := by
 have hl := h.lt
 obtain ⟨t, fr, h⟩ := h
 exact ⟨t, fr, (hb.block g hl).trans h⟩
theorem GlobAt.drawn {w w' : World} {g : Nat} {cs : Array Value} (hb : Drawn0 w w') (h : GlobAt w g cs) : GlobAt w' g cs := by
 obtain ⟨n, rfl⟩ := hb.out
 obtain ⟨t, fr, h⟩ := h
 exact ⟨t, fr, by simpa using h⟩

-- 05_also.lean

-- 20_mapwords.lean
/-! ### Maps: a block that is a map, as a list of keys and values -/
/-- The entries that stand for a list of keys (each by 'enc') and values. -/
def EsIs {κ : Type} (enc : κ → Value) (es : List MapEntry) (l : List (κ × Value)) : Prop := es.map (fun e => (e.key, e.val)) = l.map (fun p => (enc p.1, p.2))
/-- Block b is the map l. -/
def MapAt {κ : Type} (enc : κ → Value) (w : World) (b : Nat) (l : List (κ × Value)) : Prop := ∃ es clock, w.heap[b]? = some (.map es clock) ∧ EsIs enc es.toList l
def mlook {κ : Type} [DecidableEq κ] : List (κ × Value) → κ → Option Value
 | [], _ => none
 | p :: l, k => if k = p.1 then some p.2 else mlook l k
def mput {κ : Type} [DecidableEq κ] : List (κ × Value) → κ → Value → List (κ × Value)
 | [], k, v => [(k, v)]
 | p :: l, k, v => if k = p.1 then (k, v) :: l else p :: mput l k v
def mdel {κ : Type} [DecidableEq κ] : List (κ × Value) → κ → List (κ × Value)
 | [], _ => []
 | p :: l, k => if k = p.1 then l else p :: mdel l k
def mfind {κ : Type} [DecidableEq κ] : List (κ × Value) → κ → Nat → Option (Nat × Value)
 | [], _, _ => none
 | p :: l, k, i => if k = p.1 then some (i, p.2) else mfind l k (i + 1)
/-- Keys that the machine tells apart as Lean does. -/
structure KeyOk {κ : Type} [DecidableEq κ] (P : Program) (K : TypeId) (enc : κ → Value) : Prop where
 check : ∀ (b : Bool) (k : κ) (w : World), (Instr.checkKey b 10000 K (enc k)).run P w = .ok () w
 find : ∀ (k : κ) (es : List MapEntry) (l : List (κ × Value)) (w : World), EsIs enc es l → (Instr.findKey K (enc k) es).run P w = .ok (mfind l k 0) w
 same : ∀ k : κ, Instr.sameBits 10000 (enc k) (enc k) = true
theorem EsIs.nil {κ : Type} (enc : κ → Value) : EsIs enc [] ([] : List (κ × Value)) := rfl
theorem EsIs.cons_inv {κ : Type} {enc : κ → Value} {es : List MapEntry} {p : κ × Value} {l : List (κ × Value)} (h : EsIs enc es (p :: l)) : ∃ e r, es = e :: r ∧ e.key = enc p.1 ∧ e.val = p.2 ∧ EsIs enc r l := by
 cases es with
 | nil => simp [EsIs] at h
 | cons e r =>
  simp only [EsIs, List.map_cons, List.cons.injEq, Prod.mk.injEq] at h
  exact ⟨e, r, rfl, h.1.1, h.1.2, h.2⟩
theorem EsIs.nil_inv {κ : Type} {enc : κ → Value} {es : List MapEntry} (h : EsIs enc es ([] : List (κ × Value))) : es = [] := by
 simpa [EsIs] using h
theorem EsIs.length {κ : Type} {enc : κ → Value} {es : List MapEntry} {l : List (κ × Value)} (h : EsIs enc es l) : es.length = l.length := by
 have := congrArg List.length h
 simpa using this
theorem mfind_look {κ : Type} [DecidableEq κ] (k : κ) : ∀ (l : List (κ × Value)) (i : Nat), (mfind l k i).map (·.2) = mlook l k
 | [], _ => rfl
 | p :: l, i => by
  simp only [mfind, mlook]
  split
  ·rfl
  ·exact mfind_look k l (i + 1)
theorem findNow_is {κ : Type} [DecidableEq κ] {enc : κ → Value} {d : TypeDesc} (hs : ∀ a b : κ, Instr.sameNow d (enc a) (enc b) = some (decide (a = b))) (k : κ) : ∀ (l : List (κ × Value)) (es : List MapEntry) (i : Nat), EsIs enc es l → Instr.findNow d (enc k) es i = some (mfind l k i)
 | [], es, i, h => by
  rw [h.nil_inv]
  rfl
 | p :: l, es, i, h => by
  obtain ⟨e, r, rfl, h1, h2, h3⟩ := h.cons_inv
  simp only [Instr.findNow, mfind, h1, hs]
  by_cases hk : k = p.1
  ·rw [if_pos hk, decide_eq_true hk, h2]
  ·rw [if_neg hk, decide_eq_false hk]
   exact findNow_is hs k l r (i + 1) h3
theorem checkKey_plain {P : Program} {K : TypeId} {d : TypeDesc} {v : Value} (hK : P.underlying K = some d) (hd : (match d with | .int _ | .string | .bool => true | _ => false) = true) (b : Bool) (w : World) : (Instr.checkKey b 10000 K v).run P w = .ok () w := by
 unfold Instr.checkKey
 rw [Sem.run_bind, run_underlying hK w]
 cases d <;> simp_all
theorem findKey_now {P : Program} {K : TypeId} {d : TypeDesc} {v : Value} {es : List MapEntry} {r : Option (Nat × Value)} (hK : P.underlying K = some d) (h : Instr.findNow d v es 0 = some r) (w : World) : (Instr.findKey K v es).run P w = .ok r w := by
 unfold Instr.findKey
 rw [Sem.run_bind, run_underlying hK w]
 simp [h]
theorem KeyOk.int {P : Program} {K : TypeId} {q : IntKind} (hK : P.underlying K = some (.int q)) : KeyOk P K (fun a : Int => .int q a) :=
 ⟨fun b k w => checkKey_plain hK rfl b w, fun k es l w h => findKey_now hK (findNow_is (fun a b => by simp only [Instr.sameNow, if_true]; rfl) k l es 0 h) w, fun k => by simp [Instr.sameBits]⟩
theorem bytes_beq (a b : ByteArray) : (a == b) = decide (a = b) := by
 have h : (a == b) = (a.data == b.data) := rfl
 rw [h, Bool.eq_iff_iff, beq_iff_eq, decide_eq_true_iff]
 exact ⟨fun h => by cases a; cases b; simp_all, fun h => by rw [h]⟩
theorem KeyOk.string {P : Program} {K : TypeId} (hK : P.underlying K = some .string) : KeyOk P K (fun s : ByteArray => .string s) :=
 ⟨fun b k w => checkKey_plain hK rfl b w, fun k es l w h => findKey_now hK (findNow_is (fun a b => by simp only [Instr.sameNow, bytes_beq]) k l es 0 h) w, fun k => by simp [Instr.sameBits, bytes_beq]⟩
theorem MapAt.new {κ : Type} (enc : κ → Value) (w : World) : MapAt enc (w.alloc (.map #[] 0)) w.heap.size ([] : List (κ × Value)) := ⟨#[], 0, heap_alloc_new w _, rfl⟩
theorem MapAt.keep {κ : Type} {enc : κ → Value} {w w' : World} {b : Nat} {l : List (κ × Value)} (h : MapAt enc w b l) (hk : w'.heap[b]? = w.heap[b]?) : MapAt enc w' b l := by
 obtain ⟨es, c, h1, h2⟩ := h
 exact ⟨es, c, hk.trans h1, h2⟩
theorem MapAt.lt {κ : Type} {enc : κ → Value} {w : World} {b : Nat} {l : List (κ × Value)} (h : MapAt enc w b l) : b < w.heap.size := by
 obtain ⟨es, c, h1, h2⟩ := h
 exact (Array.getElem?_eq_some_iff.1 h1).1
theorem MapAt.below {κ : Type} {enc : κ → Value} {w w' : World} {b : Nat} {l : List (κ × Value)} (h : MapAt enc w b l) (hb : Below w.heap.size w w') : MapAt enc w' b l := h.keep (hb.block b h.lt)
theorem MapAt.alloc {κ : Type} {enc : κ → Value} {w : World} {b : Nat} {l : List (κ × Value)} (h : MapAt enc w b l) (o : Obj) : MapAt enc (w.alloc o) b l := h.keep (Below.heap_alloc w o b h.lt)
theorem MapAt.drewN {κ : Type} {enc : κ → Value} {w : World} {b : Nat} {l : List (κ × Value)} (h : MapAt enc w b l) (n : Nat) : MapAt enc (w.drewN n) b l := h.keep (by simp)
theorem MapAt.grown {κ : Type} {enc : κ → Value} {w w' : World} {b : Nat} {l : List (κ × Value)} {row : Option Nat} (h : MapAt enc w b l) (hg : w.grownBy w' row) (hne : some b ≠ row) : MapAt enc w' b l := h.keep (hg.block b h.lt hne)
theorem run_lookup_ok {κ : Type} [DecidableEq κ] {P : Program} {T K E : TypeId} {enc : κ → Value} (hk : KeyOk P K enc) (hT : P.underlying T = some (.map K E)) {w : World} {z : Value} (hz : (zeroValue E).run P w = .ok z w) {b : Nat} {l : List (κ × Value)} (h : MapAt enc w b l) (k : κ) (c : Bool) :
  (Instr.lookup T (.map (some b)) (enc k) c).run P w = .ok (if c then .tuple #[(mlook l k).getD z, .bool (mlook l k).isSome] else (mlook l k).getD z) w := by
 obtain ⟨es, clock, h1, h2⟩ := h
 have hgo : (getObj b).run P w = .ok (.map es clock) w := by simp [getObj, Sem.run, h1]
 unfold Instr.lookup
 rw [Sem.run_bind, run_underlying hT w]
 simp only [Result.andThen_ok, Sem.run_bind, hgo, hk.check, Sem.run_pure]
 rw [hk.find k es.toList l w h2, ← mfind_look k l 0]
 cases mfind l k 0 with
 | none => simp [hz]
 | some p => simp
theorem wpList_lookup {κ : Type} [DecidableEq κ] {P : Program} {w : World} {ops : Array Oper} {rest : List Oper} {o : Oper} {a : Act} {Q : Exit → Act → World → Prop} {enc : κ → Value} {T K E : TypeId} {c : Bool}
  (hg : o.guard = none) (m x : Operand) (hop : o.op = Op.lookup T m x c) (hk : KeyOk P K enc) (hT : P.underlying T = some (.map K E)) {z : Value} (hz : (zeroValue E).run P w = .ok z w) {b : Nat} {l : List (κ × Value)}
  (hm : a.eval m = .map (some b)) (h : MapAt enc w b l) (k : κ) (hx : a.eval x = enc k)
  (hK : wpList P ops Q rest (a.put o.dst (if c then .tuple #[(mlook l k).getD z, .bool (mlook l k).isSome] else (mlook l k).getD z)) w) : wpList P ops Q (o :: rest) a w := by
 refine wpList_plain hg fun K' hK' => ?_
 have hrun := run_lookup_ok hk hT hz h k c
 unfold Oper.wp
 simp only [execOp, hop, hm, hx, hrun, Result.andThen, Sem.run_bind, Sem.run_pure]
 exact hK' _ _ hK
theorem modify_is {κ : Type} [DecidableEq κ] {enc : κ → Value} (k : κ) (v : Value) : ∀ (l : List (κ × Value)) (es : List MapEntry) (i : Nat) (r : Nat × Value), EsIs enc es l → mfind l k i = some r → i ≤ r.1 ∧ (∃ e, es[r.1 - i]? = some e ∧ e.key = enc k) ∧ EsIs enc (es.modify (r.1 - i) fun e => { e with key := enc k, val := v }) (mput l k v)
 | [], _, _, _, _, h => by simp [mfind] at h
 | p :: l, es, i, r, h, hf => by
  obtain ⟨e, s, rfl, h1, h2, h3⟩ := h.cons_inv
  simp only [mfind] at hf
  by_cases hk : k = p.1
  ·rw [if_pos hk] at hf
   obtain rfl := Option.some.inj hf
   refine ⟨Nat.le_refl _, ⟨e, by simp, by rw [h1, hk]⟩, ?_⟩
   simp only [Nat.sub_self, List.modify_zero_cons, mput, if_pos hk]
   simp only [EsIs, List.map_cons] at h3 ⊢
   rw [h3]
  ·rw [if_neg hk] at hf
   obtain ⟨q1, ⟨e', q2, q3⟩, q4⟩ := modify_is k v l s (i + 1) r h3 hf
   obtain ⟨m, hm⟩ : ∃ m, r.1 - i = m + 1 := ⟨r.1 - (i + 1), by omega⟩
   have hm' : r.1 - (i + 1) = m := by omega
   rw [hm'] at q2 q4
   refine ⟨by omega, ⟨e', by rw [hm]; simpa using q2, q3⟩, ?_⟩
   rw [hm]
   simp only [List.modify_succ_cons, mput, if_neg hk]
   simp only [EsIs, List.map_cons] at q4 ⊢
   rw [q4, h1, h2]
theorem push_is {κ : Type} [DecidableEq κ] {enc : κ → Value} (k : κ) (v : Value) (n : Nat) : ∀ (l : List (κ × Value)) (es : List MapEntry) (i : Nat), EsIs enc es l → mfind l k i = none → EsIs enc (es ++ [{ key := enc k, val := v, born := n }]) (mput l k v)
 | [], es, _, h, _ => by
  rw [h.nil_inv]
  rfl
 | p :: l, es, i, h, hf => by
  obtain ⟨e, s, rfl, h1, h2, h3⟩ := h.cons_inv
  simp only [mfind] at hf
  by_cases hk : k = p.1
  ·rw [if_pos hk] at hf
   exact absurd hf (by simp)
  ·rw [if_neg hk] at hf
   have := push_is k v n l s (i + 1) h3 hf
   simp only [EsIs, List.map_cons, List.cons_append, mput, if_neg hk] at this ⊢
   rw [this, h1, h2]
theorem run_mapUpdate {κ : Type} [DecidableEq κ] {P : Program} {T K E : TypeId} {enc : κ → Value} (hk : KeyOk P K enc) (hT : P.underlying T = some (.map K E)) {w : World} {b : Nat} {l : List (κ × Value)} (h : MapAt enc w b l) (k : κ) (v : Value) :
  ∃ w', (Instr.mapUpdate T (.map (some b)) (enc k) v).run P w = .ok () w' ∧ MapAt enc w' b (mput l k v) ∧ w.grownBy w' (some b) := by
 obtain ⟨es, clock, h1, h2⟩ := h
 have hgo : (getObj b).run P w = .ok (.map es clock) w := by simp [getObj, Sem.run, h1]
 have hset : ∀ o : Obj, (setObj b o).run P w = .ok () (ChangeMaps.setBlock w b o) := fun o => MapKept.run_setObj_map o h1
 have hgr : ∀ o : Obj, w.grownBy (ChangeMaps.setBlock w b o) (some b) := fun o => ⟨rfl, rfl, rfl, by simp [ChangeMaps.setBlock], fun i _ hi => ChangeMaps.heap_setBlock_other h1 _ (fun e => hi (by rw [e]))⟩
 cases hf : mfind l k 0 with
 | none =>
  refine ⟨ChangeMaps.setBlock w b (.map (es.push { key := enc k, val := v, born := clock }) (clock + 1)), ?_, ⟨_, _, ChangeMaps.heap_setBlock_same h1 _, ?_⟩, hgr _⟩
  ·unfold Instr.mapUpdate
   rw [Sem.run_bind, run_underlying hT w]
   simp only [Result.andThen_ok, Sem.run_bind, hgo, hk.check, hk.find k es.toList l w h2, hf, hset]
  ·rw [Array.toList_push]
   exact push_is k v clock l es.toList 0 h2 hf
 | some r =>
  obtain ⟨_, ⟨e, q2, q3⟩, q4⟩ := modify_is k v l es.toList 0 r h2 hf
  rw [Nat.sub_zero] at q2 q4
  refine ⟨ChangeMaps.setBlock w b (.map (es.modify r.1 fun e => { e with key := enc k, val := v }) clock), ?_, ⟨_, _, ChangeMaps.heap_setBlock_same h1 _, ?_⟩, hgr _⟩
  ·unfold Instr.mapUpdate
   have q2' : es[r.1]? = some e := by simpa using q2
   rw [Sem.run_bind, run_underlying hT w]
   simp only [Result.andThen_ok, Sem.run_bind, hgo, hk.check, hk.find k es.toList l w h2, hf, q2', Option.map_some, Option.getD_some, q3, Instr.keyThatStays, hk.same, if_true, Sem.run_pure, hset]
  ·simpa using q4
theorem wpList_mapUpdate {κ : Type} [DecidableEq κ] {P : Program} {w : World} {ops : Array Oper} {rest : List Oper} {o : Oper} {a : Act} {Q : Exit → Act → World → Prop} {enc : κ → Value} {T K E : TypeId}
  (hg : o.guard = none) (m x v : Operand) (hop : o.op = Op.mapUpdate T m x v) (hk : KeyOk P K enc) (hT : P.underlying T = some (.map K E)) {b : Nat} {l : List (κ × Value)}
  (hm : a.eval m = .map (some b)) (h : MapAt enc w b l) (k : κ) (hx : a.eval x = enc k) (val : Value) (hv : a.eval v = val)
  (hK : ∀ w', MapAt enc w' b (mput l k val) → w.grownBy w' (some b) → wpList P ops Q rest (a.put o.dst undef) w') : wpList P ops Q (o :: rest) a w := by
 refine wpList_plain hg fun K' hK' => ?_
 obtain ⟨w', hrun, r1, r2⟩ := run_mapUpdate hk hT h k val
 unfold Oper.wp
 simp [execOp, hop, hm, hx, hv, hrun, Result.andThen]
 exact hK' _ _ (hK w' r1 r2)
theorem mlook_put {κ : Type} [DecidableEq κ] (k k' : κ) (v : Value) : ∀ l : List (κ × Value), mlook (mput l k v) k' = if k' = k then some v else mlook l k'
 | [] => by simp [mput, mlook]
 | p :: l => by
  simp only [mput]
  by_cases h : k = p.1
  ·rw [if_pos h]
   simp only [mlook]
   by_cases h2 : k' = k
   ·rw [if_pos h2, if_pos h2]
   ·rw [if_neg h2, if_neg h2, if_neg (fun e => h2 (e.trans h.symm))]
  ·rw [if_neg h]
   simp only [mlook]
   rw [mlook_put k k' v l]
   by_cases h2 : k' = p.1
   ·rw [if_pos h2, if_pos h2, if_neg (fun e => h (e.symm.trans h2))]
   ·rw [if_neg h2, if_neg h2]

-- 25_mapt.lean
/-! ### Maps with elements of any kind: a list of keys and elements, each element read by V -/
section
variable {κ β : Type}
def glook [DecidableEq κ] : List (κ × β) → κ → Option β
 | [], _ => none
 | p :: l, k => if k = p.1 then some p.2 else glook l k
def gput [DecidableEq κ] : List (κ × β) → κ → β → List (κ × β)
 | [], k, v => [(k, v)]
 | p :: l, k, v => if k = p.1 then (k, v) :: l else p :: gput l k v
/-- Two lists of keys have the same keys, and their elements fit. -/
def RelM (V : β → Value → Prop) : List (κ × Value) → List (κ × β) → Prop
 | [], [] => True
 | p :: l, q :: m => p.1 = q.1 ∧ V q.2 p.2 ∧ RelM V l m
 | _, _ => False
theorem RelM.look [DecidableEq κ] {V : β → Value → Prop} (k : κ) : ∀ {l : List (κ × Value)} {m : List (κ × β)}, RelM V l m → (mlook l k = none ∧ glook m k = none) ∨ ∃ v x, mlook l k = some v ∧ glook m k = some x ∧ V x v
 | [], [], _ => .inl ⟨rfl, rfl⟩
 | p :: l, q :: m, h => by
  obtain ⟨h1, h2, h3⟩ := h
  rw [mlook, glook, h1]
  by_cases e : k = q.1
  ·rw [if_pos e, if_pos e]
   exact .inr ⟨_, _, rfl, rfl, h2⟩
  ·rw [if_neg e, if_neg e]
   exact RelM.look k h3
 | [], _ :: _, h => h.elim
 | _ :: _, [], h => h.elim
theorem RelM.put [DecidableEq κ] {V : β → Value → Prop} (k : κ) {v : Value} {x : β} (hv : V x v) : ∀ {l : List (κ × Value)} {m : List (κ × β)}, RelM V l m → RelM V (mput l k v) (gput m k x)
 | [], [], _ => ⟨rfl, hv, trivial⟩
 | p :: l, q :: m, h => by
  obtain ⟨h1, h2, h3⟩ := h
  rw [mput, gput, h1]
  by_cases e : k = q.1
  ·rw [if_pos e, if_pos e]
   exact ⟨rfl, hv, h3⟩
  ·rw [if_neg e, if_neg e]
   exact ⟨h1, h2, RelM.put k hv h3⟩
 | [], _ :: _, h => h.elim
 | _ :: _, [], h => h.elim
theorem RelM.mono {V V' : β → Value → Prop} (hV : ∀ x v, V x v → V' x v) : ∀ {l : List (κ × Value)} {m : List (κ × β)}, RelM V l m → RelM V' l m
 | [], [], _ => trivial
 | _ :: _, _ :: _, h => ⟨h.1, hV _ _ h.2.1, RelM.mono hV h.2.2⟩
 | [], _ :: _, h => h.elim
 | _ :: _, [], h => h.elim
theorem RelM.len {V : β → Value → Prop} : ∀ {l : List (κ × Value)} {m : List (κ × β)}, RelM V l m → l.length = m.length
 | [], [], _ => rfl
 | _ :: _, _ :: _, h => by rw [List.length_cons, List.length_cons, RelM.len h.2.2]
 | [], _ :: _, h => h.elim
 | _ :: _, [], h => h.elim
theorem RelM.keys {V : β → Value → Prop} : ∀ {l : List (κ × Value)} {m : List (κ × β)}, RelM V l m → l.map (·.1) = m.map (·.1)
 | [], [], _ => rfl
 | _ :: _, _ :: _, h => by rw [List.map_cons, List.map_cons, h.1, RelM.keys h.2.2]
 | [], _ :: _, h => h.elim
 | _ :: _, [], h => h.elim
/-- Block b is the map m. -/
def MapT (enc : κ → Value) (V : β → Value → Prop) (w : World) (b : Nat) (m : List (κ × β)) : Prop := ∃ l : List (κ × Value), MapAt enc w b l ∧ RelM V l m
variable {enc : κ → Value} {V V' : β → Value → Prop} {w w' : World} {b : Nat} {m : List (κ × β)}
theorem MapT.new (enc : κ → Value) (V : β → Value → Prop) (w : World) : MapT enc V (w.alloc (.map #[] 0)) w.heap.size ([] : List (κ × β)) := ⟨[], MapAt.new enc w, trivial⟩
theorem MapT.keep (h : MapT enc V w b m) (hk : w'.heap[b]? = w.heap[b]?) : MapT enc V w' b m := by obtain ⟨l, h1, h2⟩ := h; exact ⟨l, h1.keep hk, h2⟩
theorem MapT.mono (h : MapT enc V w b m) (hV : ∀ x v, V x v → V' x v) : MapT enc V' w b m := by obtain ⟨l, h1, h2⟩ := h; exact ⟨l, h1, h2.mono hV⟩
theorem MapT.lt (h : MapT enc V w b m) : b < w.heap.size := by obtain ⟨l, h1, _⟩ := h; exact h1.lt
theorem MapT.below (h : MapT enc V w b m) (hb : Below w.heap.size w w') : MapT enc V w' b m := h.keep (hb.block b h.lt)
theorem MapT.alloc (h : MapT enc V w b m) (o : Obj) : MapT enc V (w.alloc o) b m := h.keep (Below.heap_alloc w o b h.lt)
theorem MapT.drewN (h : MapT enc V w b m) (n : Nat) : MapT enc V (w.drewN n) b m := h.keep (by simp)
theorem MapT.grown {row : Option Nat} (h : MapT enc V w b m) (hg : w.grownBy w' row) (hne : some b ≠ row) : MapT enc V w' b m := h.keep (hg.block b h.lt hne)
theorem MapT.kept {S : Nat → Prop} (h : MapT enc V w b m) (hg : Kept w w' S) (hne : ¬ S b) : MapT enc V w' b m := h.keep (hg.2 b h.lt hne)
theorem MapT.set (h : MapT enc V w b m) {p : Addr} (hne : b ≠ p.block) (u : Value) : MapT enc V (w.setCell p u) b m := h.keep (Below.heap_setCell w p u b hne)
theorem MapT.ne_row {α : Type} {d : Kd α} {e base : Nat} {ok : Nat → Prop} {v : Value} {xs : List α} (h : MapT enc V w b m) (hR : d.R e w base ok v xs) : some b ≠ v.ownBlock := fun he => by
 obtain ⟨l, ⟨es, c, h3, _⟩, _⟩ := h
 obtain ⟨cells, hc⟩ := Kd.R_typed hR b he.symm
 rw [h3] at hc
 cases hc
theorem MapT.row {α : Type} {d : Kd α} {e base : Nat} {ok : Nat → Prop} {v : Value} {xs : List α} (h : MapT enc V w b m) (hR : d.R e w base ok v xs) (hg : w.grownBy w' v.ownBlock) : MapT enc V w' b m := h.grown hg (h.ne_row hR)
theorem R_mapT {α : Type} {d : Kd α} {e base : Nat} {ok : Nat → Prop} {v : Value} {xs : List α} (hR : d.R e w base ok v xs) (h : MapT enc V w b m) (hg : w.grownBy w' (some b)) : d.R e w' base ok v xs := by
 refine Kd.R_mono (Kd.R_grown (Kd.R_bound hR) hg (fun k hk he => ?_)) (fun k hk => hk.1)
 injection he with he
 subst he
 obtain ⟨_, _, _, q, _, cells, hc⟩ := hk
 obtain ⟨l, ⟨es, c, h3, _⟩, _⟩ := h
 rw [h3] at hc
 cases hc
theorem blk_mapT {g : Nat} {cs : Array Value} {t : TypeId} {fr : Nat × Nat} (hB : w.heap[g]? = some (.cells cs t fr)) (h : MapT enc V w b m) : g ≠ b := by
 rintro rfl
 obtain ⟨l, ⟨es, c, h3, _⟩, _⟩ := h
 rw [h3] at hB
 cases hB
theorem wpList_lookT [DecidableEq κ] {P : Program} {ops : Array Oper} {rest : List Oper} {o : Oper} {a : Act} {Q : Exit → Act → World → Prop} {T K E : TypeId} {c : Bool}
  (hg : o.guard = none) (mo x : Operand) (hop : o.op = Op.lookup T mo x c) (hk : KeyOk P K enc) (hT : P.underlying T = some (.map K E)) {z : Value} (hz : (zeroValue E).run P w = .ok z w)
  (hm : a.eval mo = .map (some b)) (h : MapT enc V w b m) (k : κ) (hx : a.eval x = enc k)
  (hN : glook m k = none → wpList P ops Q rest (a.put o.dst (if c then .tuple #[z, .bool false] else z)) w)
  (hS : ∀ y v, glook m k = some y → V y v → wpList P ops Q rest (a.put o.dst (if c then .tuple #[v, .bool true] else v)) w) : wpList P ops Q (o :: rest) a w := by
 obtain ⟨l, h1, h2⟩ := h
 refine wpList_lookup hg mo x hop hk hT hz hm h1 k hx ?_
 rcases h2.look k with ⟨e1, e2⟩ | ⟨v, y, e1, e2, e3⟩
 ·rw [e1]
  exact hN e2
 ·rw [e1]
  exact hS y v e2 e3
theorem wpList_putT [DecidableEq κ] {P : Program} {ops : Array Oper} {rest : List Oper} {o : Oper} {a : Act} {Q : Exit → Act → World → Prop} {T K E : TypeId}
  (hg : o.guard = none) (mo x v : Operand) (hop : o.op = Op.mapUpdate T mo x v) (hk : KeyOk P K enc) (hT : P.underlying T = some (.map K E))
  (hm : a.eval mo = .map (some b)) (h : MapT enc V w b m) (k : κ) (hx : a.eval x = enc k) (val : Value) (y : β) (hv : a.eval v = val) (hy : V y val)
  (hK : ∀ w', MapT enc V w' b (gput m k y) → w.grownBy w' (some b) → wpList P ops Q rest (a.put o.dst undef) w') : wpList P ops Q (o :: rest) a w := by
 obtain ⟨l, h1, h2⟩ := h
 exact wpList_mapUpdate hg mo x v hop hk hT hm h1 k hx val hv (fun w' h3 h4 => hK w' ⟨_, h3, h2.put k hy⟩ h4)
end
theorem glook_put {κ β : Type} [DecidableEq κ] (k k' : κ) (v : β) : ∀ l : List (κ × β), glook (gput l k v) k' = if k' = k then some v else glook l k'
 | [] => by simp [gput, glook]
 | p :: l => by
  simp only [gput]
  by_cases h : k = p.1
  ·rw [if_pos h]
   simp only [glook]
   by_cases h2 : k' = k
   ·rw [if_pos h2, if_pos h2]
   ·rw [if_neg h2, if_neg h2, if_neg (fun e => h2 (e.trans h.symm))]
  ·rw [if_neg h]
   simp only [glook]
   rw [glook_put k k' v l]
   by_cases h2 : k' = p.1
   ·rw [if_pos h2, if_pos h2, if_neg (fun e => h (e.symm.trans h2))]
   ·rw [if_neg h2, if_neg h2]
theorem gput_keys {κ β : Type} [DecidableEq κ] : ∀ (l : List (κ × β)) (k : κ) (v : β), (gput l k v).map (fun p => p.1) = if k ∈ l.map (fun p => p.1) then l.map (fun p => p.1) else l.map (fun p => p.1) ++ [k]
 | [], k, v => by simp [gput]
 | p :: l, k, v => by
  rw [gput]
  by_cases h : k = p.1
  ·rw [if_pos h, if_pos (by rw [h]; simp)]
   simp [h]
  ·rw [if_neg h, List.map_cons, gput_keys l k v, List.map_cons]
   by_cases q : k ∈ l.map (fun p => p.1)
   ·rw [if_pos q, if_pos (List.mem_cons_of_mem _ q)]
   ·rw [if_neg q, if_neg (by rw [List.mem_cons]; exact fun e => e.elim h q)]
    rfl
theorem glook_none {κ β : Type} [DecidableEq κ] (k : κ) : ∀ l : List (κ × β), glook l k = none ↔ k ∉ l.map (fun p => p.1)
 | [] => by simp [glook]
 | p :: l => by
  rw [glook, List.map_cons, List.mem_cons]
  by_cases e : k = p.1
  ·rw [if_pos e]; simp [e]
  ·rw [if_neg e, glook_none k l]; simp [e]
section
variable {κ β : Type} [DecidableEq κ] {enc : κ → Value} {V : β → Value → Prop} {w : World} {b : Nat} {m : List (κ × β)}
theorem wpList_lookT_none {P : Program} {ops : Array Oper} {rest : List Oper} {o : Oper} {a : Act} {Q : Exit → Act → World → Prop} {T K E : TypeId} {c : Bool}
  (hg : o.guard = none) (mo x : Operand) (hop : o.op = Op.lookup T mo x c) (hk : KeyOk P K enc) (hT : P.underlying T = some (.map K E)) {z : Value} (hz : (zeroValue E).run P w = .ok z w)
  (hm : a.eval mo = .map (some b)) (h : MapT enc V w b m) (k : κ) (hx : a.eval x = enc k) (hn : glook m k = none)
  (hK : wpList P ops Q rest (a.put o.dst (if c then .tuple #[z, .bool false] else z)) w) : wpList P ops Q (o :: rest) a w :=
 wpList_lookT hg mo x hop hk hT hz hm h k hx (fun _ => hK) (fun y v e _ => by rw [hn] at e; cases e)
theorem wpList_lookT_some {P : Program} {ops : Array Oper} {rest : List Oper} {o : Oper} {a : Act} {Q : Exit → Act → World → Prop} {T K E : TypeId} {c : Bool}
  (hg : o.guard = none) (mo x : Operand) (hop : o.op = Op.lookup T mo x c) (hk : KeyOk P K enc) (hT : P.underlying T = some (.map K E)) {z : Value} (hz : (zeroValue E).run P w = .ok z w)
  (hm : a.eval mo = .map (some b)) (h : MapT enc V w b m) (k : κ) (hx : a.eval x = enc k) (y : β) (hn : glook m k = some y)
  (hK : ∀ v, V y v → wpList P ops Q rest (a.put o.dst (if c then .tuple #[v, .bool true] else v)) w) : wpList P ops Q (o :: rest) a w :=
 wpList_lookT hg mo x hop hk hT hz hm h k hx (fun e => by rw [hn] at e; cases e) (fun y' v e hv => by rw [hn] at e; obtain rfl := Option.some.inj e; exact hK v hv)
/-- Elements that are values. -/
abbrev VE (e : β → Value) : β → Value → Prop := fun x v => v = e x
theorem wpList_lookE {e : β → Value} {P : Program} {ops : Array Oper} {rest : List Oper} {o : Oper} {a : Act} {Q : Exit → Act → World → Prop} {T K E : TypeId} {c : Bool}
  (hg : o.guard = none) (mo x : Operand) (hop : o.op = Op.lookup T mo x c) (hk : KeyOk P K enc) (hT : P.underlying T = some (.map K E)) (z : β) (hz : (zeroValue E).run P w = .ok (e z) w)
  (hm : a.eval mo = .map (some b)) (h : MapT enc (VE e) w b m) (k : κ) (hx : a.eval x = enc k)
  (hK : wpList P ops Q rest (a.put o.dst (if c then .tuple #[e ((glook m k).getD z), .bool (glook m k).isSome] else e ((glook m k).getD z))) w) : wpList P ops Q (o :: rest) a w :=
 wpList_lookT hg mo x hop hk hT hz hm h k hx (fun e => by rw [e] at hK; exact hK) (fun y v e1 e2 => by rw [e1] at hK; rw [e2]; exact hK)
end

-- 27_settle.lean
/-! ### A block of one's own that was stored into, cell by cell: the world by one letter -/
theorem grown_set (W : World) (g i : Nat) (u : Value) : W.grownBy (W.setCell ⟨g, i, none⟩ u) (some g) := ⟨rfl, rfl, rfl, by simp [World.setCell], fun k _ hk => Below.heap_setCell W ⟨g, i, none⟩ u k (fun e => hk (by rw [e]))⟩
theorem grown_set2 {W W' : World} {g : Nat} (h : W.grownBy W' (some g)) (i : Nat) (u : Value) : W.grownBy (W'.setCell ⟨g, i, none⟩ u) (some g) := by
 obtain ⟨h1, h2, h3, h4, h5⟩ := h
 exact ⟨h1, h2, h3, by simpa [World.setCell] using h4, fun k hk hn => (Below.heap_setCell W' ⟨g, i, none⟩ u k (fun e => hn (by rw [e]))).trans (h5 k hk hn)⟩
section
variable {P : Program} {ops : Array Oper} {rest : List Oper} {a : Act} {Q : Exit → Act → World → Prop} {W : World} {g : Nat} {T : TypeId}
theorem settle1 {c0 v0 : Value} (hb : W.heap[g]? = some (.cells #[c0] T (0, 0))) (K : ∀ w', w'.heap[g]? = some (.cells #[v0] T (0, 0)) → W.grownBy w' (some g) → wpList P ops Q rest a w') : wpList P ops Q rest a (W.setCell ⟨g, 0, none⟩ v0) :=
 K _ (blk_put hb 0 v0 rfl) (grown_set W g 0 v0)
theorem settle2 {c0 c1 v0 v1 : Value} (hb : W.heap[g]? = some (.cells #[c0, c1] T (0, 0))) (K : ∀ w', w'.heap[g]? = some (.cells #[v0, v1] T (0, 0)) → W.grownBy w' (some g) → wpList P ops Q rest a w') : wpList P ops Q rest a ((W.setCell ⟨g, 0, none⟩ v0).setCell ⟨g, 1, none⟩ v1) :=
 K _ (blk_put (blk_put (cs' := #[v0, c1]) hb 0 v0 rfl) 1 v1 rfl) (grown_set2 (grown_set W g 0 v0) 1 v1)
theorem settle4 {c0 c1 c2 c3 v0 v1 v2 v3 : Value} (hb : W.heap[g]? = some (.cells #[c0, c1, c2, c3] T (0, 0))) (K : ∀ w', w'.heap[g]? = some (.cells #[v0, v1, v2, v3] T (0, 0)) → W.grownBy w' (some g) → wpList P ops Q rest a w') : wpList P ops Q rest a ((((W.setCell ⟨g, 0, none⟩ v0).setCell ⟨g, 1, none⟩ v1).setCell ⟨g, 2, none⟩ v2).setCell ⟨g, 3, none⟩ v3) :=
 K _ (blk_put (blk_put (cs' := #[v0, v1, v2, c3]) (blk_put (cs' := #[v0, v1, c2, c3]) (blk_put (cs' := #[v0, c1, c2, c3]) hb 0 v0 rfl) 1 v1 rfl) 2 v2 rfl) 3 v3 rfl) (grown_set2 (grown_set2 (grown_set2 (grown_set W g 0 v0) 1 v1) 2 v2) 3 v3)
theorem settle5 {c0 c1 c2 c3 c4 v0 v1 v2 v3 v4 : Value} (hb : W.heap[g]? = some (.cells #[c0, c1, c2, c3, c4] T (0, 0))) (K : ∀ w', w'.heap[g]? = some (.cells #[v0, v1, v2, v3, v4] T (0, 0)) → W.grownBy w' (some g) → wpList P ops Q rest a w') : wpList P ops Q rest a (((((W.setCell ⟨g, 0, none⟩ v0).setCell ⟨g, 1, none⟩ v1).setCell ⟨g, 2, none⟩ v2).setCell ⟨g, 3, none⟩ v3).setCell ⟨g, 4, none⟩ v4) :=
 K _ (blk_put (blk_put (cs' := #[v0, v1, v2, v3, c4]) (blk_put (cs' := #[v0, v1, v2, c3, c4]) (blk_put (cs' := #[v0, v1, c2, c3, c4]) (blk_put (cs' := #[v0, c1, c2, c3, c4]) hb 0 v0 rfl) 1 v1 rfl) 2 v2 rfl) 3 v3 rfl) 4 v4 rfl) (grown_set2 (grown_set2 (grown_set2 (grown_set2 (grown_set W g 0 v0) 1 v1) 2 v2) 3 v3) 4 v4)
end
theorem below_own {base : Nat} {w W w' : World} {g : Nat} (h : Below base w W) (hg : W.grownBy w' (some g)) (hb : base ≤ g) (hs : base ≤ W.heap.size) : Below base w w' := h.grown hg hs (fun j hj => by cases hj; exact hb)
abbrev keyI (a : Int) : Value := .int .i64 a
theorem settleF {P : Program} {ops : Array Oper} {rest : List Oper} {a : Act} {Q : Exit → Act → World → Prop} {W : World} {g : Nat} {T : TypeId} {cs : Array Value} (i : Nat) {u : Value} (cs' : Array Value) (hb : W.heap[g]? = some (.cells cs T (0, 0))) (e : cs.setIfInBounds i u = cs') (K : ∀ w', w'.heap[g]? = some (.cells cs' T (0, 0)) → W.grownBy w' (some g) → wpList P ops Q rest a w') : wpList P ops Q rest a (W.setCell ⟨g, i, none⟩ u) :=
 K _ (blk_put hb i u e) (grown_set W g i u)
theorem run_len_mapT {κ β : Type} {enc : κ → Value} {V : β → Value → Prop} {P : Program} {w : World} {b : Nat} {m : List (κ × β)} {t K E : TypeId} (ht : P.underlying t = some (.map K E)) (h : MapT enc V w b m) (ty : TypeId) : (Builtin.len_ #[t] ty #[.map (some b)]).run P w = .ok (.int .i64 (m.length : Int)) w := by
 obtain ⟨l, ⟨es, c, h1, h2⟩, h3⟩ := h
 have hgo : (getObj b).run P w = .ok (.map es c) w := by simp [getObj, Sem.run, h1]
 have hl : es.size = m.length := by rw [← Array.length_toList, h2.length, h3.len]
 unfold Builtin.len_
 simp [Sem.run_bind, run_underlying ht w, hgo, goInt, hl]
theorem wpList_lenT {κ β : Type} {enc : κ → Value} {V : β → Value → Prop} {P : Program} {ops : Array Oper} {rest : List Oper} {o : Oper} {a : Act} {Q : Exit → Act → World → Prop} {w : World} {b : Nat} {m : List (κ × β)} {t K E : TypeId}
  (hg : o.guard = none) (mo : Operand) (hop : o.op = Op.call { callee := Callee.builtin Builtin.len, args := #[mo], argTypes := #[t] }) (ht : P.underlying t = some (.map K E)) (hm : a.eval mo = .map (some b)) (h : MapT enc V w b m)
  (hK : wpList P ops Q rest (a.put o.dst (.int .i64 (m.length : Int))) w) : wpList P ops Q (o :: rest) a w := by
 refine wpList_plain hg fun K' hK' => ?_
 have hrun := run_len_mapT (P := P) ht h o.type
 unfold Oper.wp
 simp [execOp, hop, resolve, invoke, builtin, hm, hrun, Result.andThen]
 exact hK' _ _ hK
section
variable {P : Program} {c : Code} {a : Act} {Q : Exit → Act → World → Prop} {W : World} {g : Nat} {T : TypeId}
theorem settleC1 {c0 v0 : Value} (hb : W.heap[g]? = some (.cells #[c0] T (0, 0))) (K : ∀ w', w'.heap[g]? = some (.cells #[v0] T (0, 0)) → W.grownBy w' (some g) → Code.wp P c Q a w') : Code.wp P c Q a (W.setCell ⟨g, 0, none⟩ v0) :=
 K _ (blk_put hb 0 v0 rfl) (grown_set W g 0 v0)
theorem settleC2 {c0 c1 v0 v1 : Value} (hb : W.heap[g]? = some (.cells #[c0, c1] T (0, 0))) (K : ∀ w', w'.heap[g]? = some (.cells #[v0, v1] T (0, 0)) → W.grownBy w' (some g) → Code.wp P c Q a w') : Code.wp P c Q a ((W.setCell ⟨g, 0, none⟩ v0).setCell ⟨g, 1, none⟩ v1) :=
 K _ (blk_put (blk_put (cs' := #[v0, c1]) hb 0 v0 rfl) 1 v1 rfl) (grown_set2 (grown_set W g 0 v0) 1 v1)
theorem settleC4 {c0 c1 c2 c3 v0 v1 v2 v3 : Value} (hb : W.heap[g]? = some (.cells #[c0, c1, c2, c3] T (0, 0))) (K : ∀ w', w'.heap[g]? = some (.cells #[v0, v1, v2, v3] T (0, 0)) → W.grownBy w' (some g) → Code.wp P c Q a w') : Code.wp P c Q a ((((W.setCell ⟨g, 0, none⟩ v0).setCell ⟨g, 1, none⟩ v1).setCell ⟨g, 2, none⟩ v2).setCell ⟨g, 3, none⟩ v3) :=
 K _ (blk_put (blk_put (cs' := #[v0, v1, v2, c3]) (blk_put (cs' := #[v0, v1, c2, c3]) (blk_put (cs' := #[v0, c1, c2, c3]) hb 0 v0 rfl) 1 v1 rfl) 2 v2 rfl) 3 v3 rfl) (grown_set2 (grown_set2 (grown_set2 (grown_set W g 0 v0) 1 v1) 2 v2) 3 v3)
end

/-! ### treemergeref06_left: function 76 -/
mutual
def treemergeref06_left.j0 : Nat → Int → Int → Bool → Int → ByteArray → List ByteArray → List (S25) → Option (Int)
 | 0, _, _, _, _, _, _, _ => none
 | k + 1, x1, x2, x21, x102000, x102001, x102002, x102003 => if x21 = true then (some (-1)) else (treemergeref06_left.l0 k x2 (wrap64 (x1 - 1)) 0 x102000 x102001 x102002 x102003)
def treemergeref06_left.l0 : Nat → Int → Int → Int → Int → ByteArray → List ByteArray → List (S25) → Option (Int)
 | 0, _, _, _, _, _, _, _ => none
 | k + 1, x2, x7, x8, x102000, x102001, x102002, x102003 => if x8 < (x102003.length : Int) then (if 0 ≤ x8 then ((treemergeref06_left.f k ((rd_T25 x102003 x8).f0) ((rd_T25 x102003 x8).f1) ((rd_T25 x102003 x8).f2) ((rd_T25 x102003 x8).f3) x7 (wrap64 (x2 - 1))).bind fun t103 => (if t103 < 0 then (some (-1)) else (treemergeref06_left.l0 k x2 t103 (wrap64 (x8 + 1)) x102000 x102001 x102002 x102003))) else (none)) else (some x7)
def treemergeref06_left.f : Nat → Int → ByteArray → List ByteArray → List (S25) → Int → Int → Option (Int)
 | 0, _, _, _, _, _, _ => none
 | k + 1, a0_0, a0_1, l0_2, l0_3, a1, a2 => if a1 < 1 then (treemergeref06_left.j0 k a1 a2 true a0_0 a0_1 l0_2 l0_3) else (if a2 < 1 then (treemergeref06_left.j0 k a1 a2 true a0_0 a0_1 l0_2 l0_3) else (treemergeref06_left.j0 k a1 a2 (decide ((l0_3.length : Int) > a1)) a0_0 a0_1 l0_2 l0_3))
end
theorem treemergeref06_left.mono_l : ∀ k, (∀ y0 y1 y2 y3 y4 y5, LeO (treemergeref06_left.f k y0 y1 y2 y3 y4 y5) (treemergeref06_left.f (k + 1) y0 y1 y2 y3 y4 y5)) ∧ (∀ y0 y1 y2 y3 y4 y5 y6, LeO (treemergeref06_left.j0 k y0 y1 y2 y3 y4 y5 y6) (treemergeref06_left.j0 (k + 1) y0 y1 y2 y3 y4 y5 y6)) ∧ (∀ y0 y1 y2 y3 y4 y5 y6, LeO (treemergeref06_left.l0 k y0 y1 y2 y3 y4 y5 y6) (treemergeref06_left.l0 (k + 1) y0 y1 y2 y3 y4 y5 y6))
 | 0 => ⟨fun _ _ _ _ _ _ r h => by simp [treemergeref06_left.f] at h, fun _ _ _ _ _ _ _ r h => by simp [treemergeref06_left.j0] at h, fun _ _ _ _ _ _ _ r h => by simp [treemergeref06_left.l0] at h⟩
 | k + 1 => by
  obtain ⟨ih0, ih1, ih2⟩ := treemergeref06_left.mono_l k
  refine ⟨?_, ?_, ?_⟩
  ·intro y0 y1 y2 y3 y4 y5
   unfold treemergeref06_left.f
   repeat' first
   | (with_reducible exact ih0 _ _ _ _ _ _)
   | (with_reducible exact ih1 _ _ _ _ _ _ _)
   | (with_reducible exact ih2 _ _ _ _ _ _ _)
   | (with_reducible exact LeO.refl _)
   | (with_reducible exact LeO.none _)
   | (with_reducible refine LeO.ite ?_ ?_)
   | (with_reducible refine LeO.bind ?_ (fun _ => ?_))
  ·intro y0 y1 y2 y3 y4 y5 y6
   unfold treemergeref06_left.j0
   repeat' first
   | (with_reducible exact ih0 _ _ _ _ _ _)
   | (with_reducible exact ih1 _ _ _ _ _ _ _)
   | (with_reducible exact ih2 _ _ _ _ _ _ _)
   | (with_reducible exact LeO.refl _)
   | (with_reducible exact LeO.none _)
   | (with_reducible refine LeO.ite ?_ ?_)
   | (with_reducible refine LeO.bind ?_ (fun _ => ?_))
  ·intro y0 y1 y2 y3 y4 y5 y6
   unfold treemergeref06_left.l0
   repeat' first
   | (with_reducible exact ih0 _ _ _ _ _ _)
   | (with_reducible exact ih1 _ _ _ _ _ _ _)
   | (with_reducible exact ih2 _ _ _ _ _ _ _)
   | (with_reducible exact LeO.refl _)
   | (with_reducible exact LeO.none _)
   | (with_reducible refine LeO.ite ?_ ?_)
   | (with_reducible refine LeO.bind ?_ (fun _ => ?_))
theorem treemergeref06_left.mono : ∀ a0 a1 a2 a3 a4 a5 k, LeO (treemergeref06_left.f k a0 a1 a2 a3 a4 a5) (treemergeref06_left.f (k + 1) a0 a1 a2 a3 a4 a5) := by
 intro a0 a1 a2 a3 a4 a5 k
 obtain ⟨ih0, ih1, ih2⟩ := treemergeref06_left.mono_l k
 exact ih0 a0 a1 a2 a3 a4 a5
set_option maxHeartbeats 8000000 in
set_option maxRecDepth 100000 in
theorem treemergeref06_left.calls (k : Nat) : ∀ (a0_0 : Int) (a0_1 : ByteArray) (A0_2 : Option Addr) (c0_2 : Nat) (l0_2 : List ByteArray) (A0_3 : Option Addr) (c0_3 : Nat) (l0_3 : List (S25)) (a1 : Int) (a2 : Int) (r : Int) (w : World) (hr0_2 : Kd.C Kd.string w A0_2 l0_2.length l0_2) (hc0_2 : l0_2.length ≤ c0_2) (hr0_3 : Kd.C k25 w A0_3 l0_3.length l0_3) (hc0_3 : l0_3.length ≤ c0_3) (h : treemergeref06_left.f k a0_0 a0_1 l0_2 l0_3 a1 a2 = some r),
  Calls Try.prog 76 #[.agg #[.int .i64 a0_0, .string a0_1, .slice A0_2 l0_2.length c0_2, .slice A0_3 l0_3.length c0_3], .int .i64 a1, .int .i64 a2] w fun e w' => e = .returned (.int .i64 r) ∧ Below w.heap.size w w' := by
 induction k using Nat.strongRecOn with
 | _ k ih =>
 intro a0_0 a0_1 A0_2 c0_2 l0_2 A0_3 c0_3 l0_3 a1 a2 r w hr0_2 hc0_2 hr0_3 hc0_3 h
 cases k with
 | zero => exact absurd h (by simp [treemergeref06_left.f])
 | succ k =>
 simp only [treemergeref06_left.f] at h
 have hu25 := Try.underlying25
 have HR0_2 := Aside0.mk hr0_2
 have HC0_2 := Aside0.mk hc0_2
 clear hr0_2 hc0_2
 have HR0_3 := Aside0.mk hr0_3
 have HC0_3 := Aside0.mk hc0_3
 clear hr0_3 hc0_3
 have HB := Aside0.mk (Below.refl w.heap.size w)
 have H : (if a1 < 1 then (treemergeref06_left.j0 k a1 a2 true a0_0 a0_1 l0_2 l0_3) else (if a2 < 1 then (treemergeref06_left.j0 k a1 a2 true a0_0 a0_1 l0_2 l0_3) else (treemergeref06_left.j0 k a1 a2 (decide ((l0_3.length : Int) > a1)) a0_0 a0_1 l0_2 l0_3))) = some r := h
 clear h
 have HC4 := Aside0.mk H
 clear H
 go_enter Try.func76, Try.ntmps76
 go_upto_region 1 with (first | ((with_reducible refine gate_dst (N := 3) rfl ?_); (try (refine gate_guard (by rfl) ?_; dsimp only)); refine box_event ?hg (N := 3) ?hd (cs := #[.int .i64 a0_0, .string a0_1, .slice A0_2 l0_2.length c0_2, .slice A0_3 l0_3.length c0_3]) (t := 25) ?hr ?_; (case hd => rfl); (case hg => rfl); (case hr => first | (go_simp; done) | (go_simp; rfl) | (obtain ⟨_, _, rfl⟩ := Kd.R_slice (Aside0.out (by assumption : Aside0 (Kd.R _ _ _ _ _ _ _))); go_simp; done)); intro gb101 hg w5 hbox hb; have n0_ := Aside0.mk (below_step (BX HB.out) hb); have n1_ := Aside0.mk (hbox); have n2_ := Aside0.mk ((by rw [hg]; exact (below_size (BX HB.out)) : w.heap.size ≤ gb101)); have n3_ := Aside0.mk ((by rw [hg]; exact (below_size (BX HB.out)) : w.heap.size ≤ gb101)); clear HB; have HB := n0_; have BK101 := n1_; have GW101 := n2_; have GE101 := n3_; clear n0_ n1_ n2_ n3_; clear hb hbox hg))
 (try simp only [Act.put, List.setIfInBounds_toArray, List.set_cons_zero, List.set_cons_succ])
 go_cut [21] (fun v21 wc => ∃ (kq : Nat) (x21_3 : Bool), v21 = .bool x21_3 ∧ Aside0 (treemergeref06_left.j0 kq a1 a2 x21_3 a0_0 a0_1 l0_2 l0_3 = some r) ∧ Aside0 (kq ≤ k) ∧ Aside0 (wc.heap[gb101]? = some (.cells #[.int .i64 a0_0, .string a0_1, (.slice A0_2 l0_2.length c0_2), (.slice A0_3 l0_3.length c0_3)] 25 (0, 0))) ∧ Aside0 (Below w.heap.size w wc))
 case first =>
  have H := HC4.out
  clear HC4
  by_cases c6 : a1 < 1
  ·rw [if_pos c6] at H
   have c6b0 : decide (a1 < 1) = true := decide_eq_true c6
   clear c6
   (first | rw [c6b0] | (simp only [i64_w, i32_w]; rw [c6b0]) | skip)
   have H' := Aside0.mk H
   clear H
   go_wp2
   go_meet
   case rel => exact ⟨_, (true), SX, H', ⟨by first | omega | exact Nat.le_refl _⟩, ⟨by (with_reducible repeat (first | refine blk_drewN ?_ _ | refine blk_drew ?_ | refine blk_alloc ?_ _)); exact BK101.out⟩, ⟨by repeat (first | (with_reducible first | exact HB.out | apply below_alloc | apply pw_below_drewN | apply below_drew1 | refine below_set ?_ GE101.out) | exact HB.out)⟩⟩
  ·rw [if_neg c6] at H
   have c6b0 : decide (a1 < 1) = false := decide_eq_false c6
   clear c6
   (first | rw [c6b0] | (simp only [i64_w, i32_w]; rw [c6b0]) | skip)
   by_cases c7 : a2 < 1
   ·rw [if_pos c7] at H
    have c7b0 : decide (a2 < 1) = true := decide_eq_true c7
    clear c7
    have H' := Aside0.mk H
    clear H
    go_wp2
    go_meet
    case rel => exact ⟨_, (true), SX, H', ⟨by first | omega | exact Nat.le_refl _⟩, ⟨by (with_reducible repeat (first | refine blk_drewN ?_ _ | refine blk_drew ?_ | refine blk_alloc ?_ _)); exact BK101.out⟩, ⟨by repeat (first | (with_reducible first | exact HB.out | apply below_alloc | apply pw_below_drewN | apply below_drew1 | refine below_set ?_ GE101.out) | exact HB.out)⟩⟩
   ·rw [if_neg c7] at H
    have c7b0 : decide (a2 < 1) = false := decide_eq_false c7
    clear c7
    have H' := Aside0.mk H
    clear H
    have hcz8_0 : w5.cell? ⟨gb101, 0, none⟩ = some (.int .i64 a0_0) := (blk_cell BK101.out 0).trans rfl
    have hcz8_1 : w5.cell? ⟨gb101, 1, none⟩ = some (.string a0_1) := (blk_cell BK101.out 1).trans rfl
    have hcz8_2 : w5.cell? ⟨gb101, 2, none⟩ = some (.slice A0_2 l0_2.length c0_2) := (blk_cell BK101.out 2).trans rfl
    have hcz8_3 : w5.cell? ⟨gb101, 3, none⟩ = some (.slice A0_3 l0_3.length c0_3) := (blk_cell BK101.out 3).trans rfl
    have hfz8_0 := blk_frozen BK101.out 0
    have hfz8_1 := blk_frozen BK101.out 1
    have hfz8_2 := blk_frozen BK101.out 2
    have hfz8_3 := blk_frozen BK101.out 3
    go_wp2
    go_meet
    case rel => exact ⟨_, (decide ((l0_3.length : Int) > a1)), SX, H', ⟨by first | omega | exact Nat.le_refl _⟩, ⟨by (with_reducible repeat (first | refine blk_drewN ?_ _ | refine blk_drew ?_ | refine blk_alloc ?_ _)); exact BK101.out⟩, ⟨by repeat (first | (with_reducible first | exact HB.out | apply below_alloc | apply pw_below_drewN | apply below_drew1 | refine below_set ?_ GE101.out) | exact HB.out)⟩⟩
 case rest =>
  clear HC4
  try clear p2
  try clear c6
  try clear c6b0
  try clear c7
  try clear c7b0
  try clear hcz8_0
  try clear hcz8_1
  try clear hcz8_2
  try clear hcz8_3
  try clear hfz8_0
  try clear hfz8_1
  try clear hfz8_2
  try clear hfz8_3
  obtain ⟨kq, x21_3, rfl, HA, HJ3, BK101, HB⟩ := hcut
  cases kq with
  | zero => exact absurd HA.out (by simp [treemergeref06_left.j0])
  | succ kj3 =>
   have H := HA.out
   clear HA
   simp only [treemergeref06_left.j0] at H
   by_cases c9 : x21_3 = true
   ·subst c9
    have H1 : (some (-1)) = some r := by rw [if_pos rfl] at H; exact H
    clear H
    have H := H1
    clear H1
    obtain rfl := Option.some.inj H
    go_wp2
    go_ret
    exact ⟨by first | rfl | (simp [errW_none, errW_some] <;> rfl) | (simp [*, errW_none, errW_some] <;> rfl), by repeat (first | (with_reducible first | exact HB.out | apply below_alloc | apply pw_below_drewN | apply below_drew1 | refine below_set ?_ GE101.out) | exact HB.out)⟩
   ·replace c9 := Bool.eq_false_iff.mpr c9
    subst c9
    have H1 : (treemergeref06_left.l0 kj3 a2 (wrap64 (a1 - 1)) 0 a0_0 a0_1 l0_2 l0_3) = some r := by rw [if_neg (show ¬ (false = true) by decide)] at H; exact H
    clear H
    have H := H1
    clear H1
    have H' := Aside0.mk H
    clear H
    go_wp2
    go_loopg [7, 8] kj3 (fun kq v7 v8 w' => ∃ (x7_2 : Int) (x8_2 : Int), v7 = .int .i64 x7_2 ∧ v8 = .int .i64 x8_2 ∧ Aside0 (treemergeref06_left.l0 kq a2 x7_2 x8_2 a0_0 a0_1 l0_2 l0_3 = some r) ∧ Aside0 (kq ≤ kj3) ∧ Aside0 (w'.heap[gb101]? = some (.cells #[.int .i64 a0_0, .string a0_1, (.slice A0_2 l0_2.length c0_2), (.slice A0_3 l0_3.length c0_3)] 25 (0, 0))) ∧ Aside0 (Below w.heap.size w w'))
    case atStart => exact ⟨(wrap64 (a1 - 1)), (0), SX, SX, H', ⟨Nat.le_refl _⟩, ⟨by (with_reducible repeat (first | refine blk_drewN ?_ _ | refine blk_drew ?_ | refine blk_alloc ?_ _)); exact BK101.out⟩, ⟨by repeat (first | (with_reducible first | exact HB.out | apply below_alloc | apply pw_below_drewN | apply below_drew1 | refine below_set ?_ GE101.out) | exact HB.out)⟩⟩
    case round =>
     clear H'
     try clear p2
     try clear c6
     try clear c6b0
     try clear p6
     try clear c7
     try clear c7b0
     try clear c9
     try clear hcz8_0
     try clear hcz8_1
     try clear hcz8_2
     try clear hcz8_3
     try clear hfz8_0
     try clear hfz8_1
     try clear hfz8_2
     try clear hfz8_3
     try clear p2
     obtain ⟨x7_2, x8_2, rfl, rfl, HA, HK2, BK101, HB⟩ := hrel
     cases gk with
     | zero => exact absurd HA.out (by simp [treemergeref06_left.l0])
     | succ k2 =>
      have H := HA.out
      clear HA
      simp only [treemergeref06_left.l0] at H
      by_cases c10 : x8_2 < (l0_3.length : Int)
      ·rw [if_pos c10] at H
       have c10b0 : decide (x8_2 < (l0_3.length : Int)) = true := decide_eq_true c10
       clear c10
       by_cases c11 : 0 ≤ x8_2
       ·rw [if_pos c11] at H
        have c11b0 : decide (0 ≤ x8_2) = true := decide_eq_true c11
        clear c11
        replace H := Option.bind_eq_some_iff.mp H
        obtain ⟨t103, A120, H⟩ := H
        have A12 := Aside0.mk A120
        clear A120
        by_cases c13 : t103 < 0
        ·rw [if_pos c13] at H
         have c13b0 : decide (t103 < 0) = true := decide_eq_true c13
         clear c13
         obtain rfl := Option.some.inj H
         have hcz14_0 : wr.cell? ⟨gb101, 0, none⟩ = some (.int .i64 a0_0) := (blk_cell BK101.out 0).trans rfl
         have hcz14_1 : wr.cell? ⟨gb101, 1, none⟩ = some (.string a0_1) := (blk_cell BK101.out 1).trans rfl
         have hcz14_2 : wr.cell? ⟨gb101, 2, none⟩ = some (.slice A0_2 l0_2.length c0_2) := (blk_cell BK101.out 2).trans rfl
         have hcz14_3 : wr.cell? ⟨gb101, 3, none⟩ = some (.slice A0_3 l0_3.length c0_3) := (blk_cell BK101.out 3).trans rfl
         have hfz14_0 := blk_frozen BK101.out 0
         have hfz14_1 := blk_frozen BK101.out 1
         have hfz14_2 := blk_frozen BK101.out 2
         have hfz14_3 := blk_frozen BK101.out 3
         have p102 : 0 ≤ (x8_2 : Int) := of_decide_eq_true AX
         have q102 : x8_2 < (l0_3.length : Int) := of_decide_eq_true AX
         obtain ⟨ad102, A102_2, c102_2, A102_3, c102_3, e102, hx102_0, hx102_1, hx102_2, hx102_3, hl102_2, hi102_2, hl102_3, hi102_3⟩ := at_T25 HR0_3.out x8_2 p102 q102
         cases e102
         replace hx102_0 := (HB.out.cell (World.block_lt_of_cell? w _ hx102_0)).trans hx102_0
         replace hx102_1 := (HB.out.cell (World.block_lt_of_cell? w _ hx102_1)).trans hx102_1
         replace hx102_2 := (HB.out.cell (World.block_lt_of_cell? w _ hx102_2)).trans hx102_2
         replace hx102_3 := (HB.out.cell (World.block_lt_of_cell? w _ hx102_3)).trans hx102_3
         have HR102_2 := Aside0.mk hi102_2
         have HC102_2 := Aside0.mk hl102_2
         clear hi102_2 hl102_2
         have HR102_3 := Aside0.mk hi102_3
         have HC102_3 := Aside0.mk hl102_3
         clear hi102_3 hl102_3
         replace p102 := eq_true p102
         replace q102 := eq_true q102
         go_wp2_with (first | ((with_reducible refine gate_callee (f := 76) rfl ?_); refine goesL_ (some 39) rfl rfl Try.func76 (by kernel_rfl) rfl #[.agg #[.int .i64 ((rd_T25 l0_3 x8_2).f0), .string ((rd_T25 l0_3 x8_2).f1), .slice A102_2 ((rd_T25 l0_3 x8_2).f2).length c102_2, .slice A102_3 ((rd_T25 l0_3 x8_2).f3).length c102_3], .int .i64 x7_2, .int .i64 (wrap64 (a2 - 1))] rfl MX ?_; (with_reducible refine (ih k2 (by have := HJ3.out; have := HK2.out; omega) ((rd_T25 l0_3 x8_2).f0) ((rd_T25 l0_3 x8_2).f1) _ _ ((rd_T25 l0_3 x8_2).f2) _ _ ((rd_T25 l0_3 x8_2).f3) x7_2 (wrap64 (a2 - 1)) t103 _ ?side1 ?side2 ?side3 ?side4 A12.out).mono ?_); (case side1 => exact CX (Kd.C_below HR102_2.out HB.out)); (case side2 => exact HC102_2.out); (case side3 => exact CX (Kd.C_below HR102_3.out HB.out)); (case side4 => exact HC102_3.out); rintro e w15 ⟨rfl, hb⟩; refine ⟨_, rfl, ?_⟩; have n0_ := Aside0.mk (blk_below (g := gb101) (o := .cells #[.int .i64 a0_0, .string a0_1, .slice A0_2 l0_2.length c0_2, .slice (some ad102) l0_3.length c0_3] 25 (0, 0)) (by (with_reducible repeat (first | refine blk_drewN ?_ _ | refine blk_drew ?_ | refine blk_alloc ?_ _)); exact BK101.out) hb); have n1_ := Aside0.mk (below_step (by repeat (first | (with_reducible first | exact HB.out | apply below_alloc | apply pw_below_drewN | apply below_drew1 | refine below_set ?_ GE101.out) | exact HB.out)) hb); clear BK101; clear HB; have BK101 := n0_; have HB := n1_; clear n0_ n1_; (try clear hb); (try clear hb2); (try clear hk); (try clear hi)))
         go_ret
         exact ⟨by first | rfl | (simp [errW_none, errW_some] <;> rfl) | (simp [*, errW_none, errW_some] <;> rfl), by repeat (first | (with_reducible first | exact HB.out | apply below_alloc | apply pw_below_drewN | apply below_drew1 | refine below_set ?_ GE101.out) | exact HB.out)⟩
        ·rw [if_neg c13] at H
         have c13b0 : decide (t103 < 0) = false := decide_eq_false c13
         clear c13
         have H' := Aside0.mk H
         clear H
         have hcz16_0 : wr.cell? ⟨gb101, 0, none⟩ = some (.int .i64 a0_0) := (blk_cell BK101.out 0).trans rfl
         have hcz16_1 : wr.cell? ⟨gb101, 1, none⟩ = some (.string a0_1) := (blk_cell BK101.out 1).trans rfl
         have hcz16_2 : wr.cell? ⟨gb101, 2, none⟩ = some (.slice A0_2 l0_2.length c0_2) := (blk_cell BK101.out 2).trans rfl
         have hcz16_3 : wr.cell? ⟨gb101, 3, none⟩ = some (.slice A0_3 l0_3.length c0_3) := (blk_cell BK101.out 3).trans rfl
         have hfz16_0 := blk_frozen BK101.out 0
         have hfz16_1 := blk_frozen BK101.out 1
         have hfz16_2 := blk_frozen BK101.out 2
         have hfz16_3 := blk_frozen BK101.out 3
         have p102 : 0 ≤ (x8_2 : Int) := of_decide_eq_true AX
         have q102 : x8_2 < (l0_3.length : Int) := of_decide_eq_true AX
         obtain ⟨ad102, A102_2, c102_2, A102_3, c102_3, e102, hx102_0, hx102_1, hx102_2, hx102_3, hl102_2, hi102_2, hl102_3, hi102_3⟩ := at_T25 HR0_3.out x8_2 p102 q102
         cases e102
         replace hx102_0 := (HB.out.cell (World.block_lt_of_cell? w _ hx102_0)).trans hx102_0
         replace hx102_1 := (HB.out.cell (World.block_lt_of_cell? w _ hx102_1)).trans hx102_1
         replace hx102_2 := (HB.out.cell (World.block_lt_of_cell? w _ hx102_2)).trans hx102_2
         replace hx102_3 := (HB.out.cell (World.block_lt_of_cell? w _ hx102_3)).trans hx102_3
         have HR102_2 := Aside0.mk hi102_2
         have HC102_2 := Aside0.mk hl102_2
         clear hi102_2 hl102_2
         have HR102_3 := Aside0.mk hi102_3
         have HC102_3 := Aside0.mk hl102_3
         clear hi102_3 hl102_3
         replace p102 := eq_true p102
         replace q102 := eq_true q102
         go_wp2_with (first | ((with_reducible refine gate_callee (f := 76) rfl ?_); refine goesL_ (some 39) rfl rfl Try.func76 (by kernel_rfl) rfl #[.agg #[.int .i64 ((rd_T25 l0_3 x8_2).f0), .string ((rd_T25 l0_3 x8_2).f1), .slice A102_2 ((rd_T25 l0_3 x8_2).f2).length c102_2, .slice A102_3 ((rd_T25 l0_3 x8_2).f3).length c102_3], .int .i64 x7_2, .int .i64 (wrap64 (a2 - 1))] rfl MX ?_; (with_reducible refine (ih k2 (by have := HJ3.out; have := HK2.out; omega) ((rd_T25 l0_3 x8_2).f0) ((rd_T25 l0_3 x8_2).f1) _ _ ((rd_T25 l0_3 x8_2).f2) _ _ ((rd_T25 l0_3 x8_2).f3) x7_2 (wrap64 (a2 - 1)) t103 _ ?side1 ?side2 ?side3 ?side4 A12.out).mono ?_); (case side1 => exact CX (Kd.C_below HR102_2.out HB.out)); (case side2 => exact HC102_2.out); (case side3 => exact CX (Kd.C_below HR102_3.out HB.out)); (case side4 => exact HC102_3.out); rintro e w17 ⟨rfl, hb⟩; refine ⟨_, rfl, ?_⟩; have n0_ := Aside0.mk (blk_below (g := gb101) (o := .cells #[.int .i64 a0_0, .string a0_1, .slice A0_2 l0_2.length c0_2, .slice (some ad102) l0_3.length c0_3] 25 (0, 0)) (by (with_reducible repeat (first | refine blk_drewN ?_ _ | refine blk_drew ?_ | refine blk_alloc ?_ _)); exact BK101.out) hb); have n1_ := Aside0.mk (below_step (by repeat (first | (with_reducible first | exact HB.out | apply below_alloc | apply pw_below_drewN | apply below_drew1 | refine below_set ?_ GE101.out) | exact HB.out)) hb); clear BK101; clear HB; have BK101 := n0_; have HB := n1_; clear n0_ n1_; (try clear hb); (try clear hb2); (try clear hk); (try clear hi)))
         go_roundg k2
         case measure => have := HJ3.out; have := HK2.out; omega
         case rel => exact ⟨(t103), (wrap64 (x8_2 + 1)), SX, SX, H', ⟨by have := HJ3.out; have := HK2.out; omega⟩, ⟨by (with_reducible repeat (first | refine blk_drewN ?_ _ | refine blk_drew ?_ | refine blk_alloc ?_ _)); exact BK101.out⟩, ⟨by repeat (first | (with_reducible first | exact HB.out | apply below_alloc | apply pw_below_drewN | apply below_drew1 | refine below_set ?_ GE101.out) | exact HB.out)⟩⟩
       ·rw [if_neg c11] at H
        exact absurd H (by simp)
      ·rw [if_neg c10] at H
       have c10b0 : decide (x8_2 < (l0_3.length : Int)) = false := decide_eq_false c10
       clear c10
       obtain rfl := Option.some.inj H
       have hcz18_0 : wr.cell? ⟨gb101, 0, none⟩ = some (.int .i64 a0_0) := (blk_cell BK101.out 0).trans rfl
       have hcz18_1 : wr.cell? ⟨gb101, 1, none⟩ = some (.string a0_1) := (blk_cell BK101.out 1).trans rfl
       have hcz18_2 : wr.cell? ⟨gb101, 2, none⟩ = some (.slice A0_2 l0_2.length c0_2) := (blk_cell BK101.out 2).trans rfl
       have hcz18_3 : wr.cell? ⟨gb101, 3, none⟩ = some (.slice A0_3 l0_3.length c0_3) := (blk_cell BK101.out 3).trans rfl
       have hfz18_0 := blk_frozen BK101.out 0
       have hfz18_1 := blk_frozen BK101.out 1
       have hfz18_2 := blk_frozen BK101.out 2
       have hfz18_3 := blk_frozen BK101.out 3
       go_wp2
       go_ret
       exact ⟨by first | rfl | (simp [errW_none, errW_some] <;> rfl) | (simp [*, errW_none, errW_some] <;> rfl), by repeat (first | (with_reducible first | exact HB.out | apply below_alloc | apply pw_below_drewN | apply below_drew1 | refine below_set ?_ GE101.out) | exact HB.out)⟩

/-! ### treemergeref06_Fits: function 61 -/
def treemergeref06_Fits.f (k : Nat) (a0_0 : Int) (a0_1 : ByteArray) (l0_2 : List ByteArray) (l0_3 : List (S25)) (a1 : Int) (a2 : Int) : Option (Bool) := (treemergeref06_left.f k a0_0 a0_1 l0_2 l0_3 a1 a2).bind fun t105 => (some (decide (t105 ≥ 0)))
theorem treemergeref06_Fits.mono : ∀ a0 a1 a2 a3 a4 a5 k, LeO (treemergeref06_Fits.f k a0 a1 a2 a3 a4 a5) (treemergeref06_Fits.f (k + 1) a0 a1 a2 a3 a4 a5) := by
 intro a0 a1 a2 a3 a4 a5 k
 unfold treemergeref06_Fits.f
 repeat' first
   | (with_reducible exact treemergeref06_left.mono _ _ _ _ _ _ _)
   | (with_reducible exact LeO.refl _)
   | (with_reducible exact LeO.none _)
   | (with_reducible refine LeO.ite ?_ ?_)
   | (with_reducible refine LeO.bind ?_ (fun _ => ?_))
set_option maxHeartbeats 8000000 in
set_option maxRecDepth 100000 in
theorem treemergeref06_Fits.calls (k : Nat) (a0_0 : Int) (a0_1 : ByteArray) (A0_2 : Option Addr) (c0_2 : Nat) (l0_2 : List ByteArray) (A0_3 : Option Addr) (c0_3 : Nat) (l0_3 : List (S25)) (a1 : Int) (a2 : Int) (r : Bool) (w : World) (hr0_2 : Kd.C Kd.string w A0_2 l0_2.length l0_2) (hc0_2 : l0_2.length ≤ c0_2) (hr0_3 : Kd.C k25 w A0_3 l0_3.length l0_3) (hc0_3 : l0_3.length ≤ c0_3) (h : treemergeref06_Fits.f k a0_0 a0_1 l0_2 l0_3 a1 a2 = some r) :
  Calls Try.prog 61 #[.agg #[.int .i64 a0_0, .string a0_1, .slice A0_2 l0_2.length c0_2, .slice A0_3 l0_3.length c0_3], .int .i64 a1, .int .i64 a2] w fun e w' => e = .returned (.bool r) ∧ Below w.heap.size w w' := by
 have hu25 := Try.underlying25
 have HR0_2 := Aside0.mk hr0_2
 have HC0_2 := Aside0.mk hc0_2
 clear hr0_2 hc0_2
 have HR0_3 := Aside0.mk hr0_3
 have HC0_3 := Aside0.mk hc0_3
 clear hr0_3 hc0_3
 have HB := Aside0.mk (Below.refl w.heap.size w)
 have H : ((treemergeref06_left.f k a0_0 a0_1 l0_2 l0_3 a1 a2).bind fun t105 => (some (decide (t105 ≥ 0)))) = some r := h
 clear h
 replace H := Option.bind_eq_some_iff.mp H
 obtain ⟨t105, A40, H⟩ := H
 have A4 := Aside0.mk A40
 clear A40
 obtain rfl := Option.some.inj H
 go_enter Try.func61, Try.ntmps61
 go_wp2_with (first | ((with_reducible refine gate_dst (N := 3) rfl ?_); refine box_event ?hg (N := 3) ?hd (cs := #[.int .i64 a0_0, .string a0_1, .slice A0_2 l0_2.length c0_2, .slice A0_3 l0_3.length c0_3]) (t := 25) ?hr ?_; (case hd => rfl); (case hg => rfl); (case hr => first | (go_simp; done) | (go_simp; rfl) | (obtain ⟨_, _, rfl⟩ := Kd.R_slice (Aside0.out (by assumption : Aside0 (Kd.R _ _ _ _ _ _ _))); go_simp; done)); intro gb104 hg w5 hbox hb; have n0_ := Aside0.mk (below_step (BX HB.out) hb); have n1_ := Aside0.mk (hbox); have n2_ := Aside0.mk ((by rw [hg]; exact (below_size (BX HB.out)) : w.heap.size ≤ gb104)); have n3_ := Aside0.mk ((by rw [hg]; exact (below_size (BX HB.out)) : w.heap.size ≤ gb104)); clear HB; have HB := n0_; have BK104 := n1_; have GW104 := n2_; have GE104 := n3_; clear n0_ n1_ n2_ n3_; clear hb hbox hg; have hcz6_0 : w5.cell? ⟨gb104, 0, none⟩ = some (.int .i64 a0_0) := (blk_cell BK104.out 0).trans rfl; have hcz6_1 : w5.cell? ⟨gb104, 1, none⟩ = some (.string a0_1) := (blk_cell BK104.out 1).trans rfl; have hcz6_2 : w5.cell? ⟨gb104, 2, none⟩ = some (.slice A0_2 l0_2.length c0_2) := (blk_cell BK104.out 2).trans rfl; have hcz6_3 : w5.cell? ⟨gb104, 3, none⟩ = some (.slice A0_3 l0_3.length c0_3) := (blk_cell BK104.out 3).trans rfl; have hfz6_0 := blk_frozen BK104.out 0; have hfz6_1 := blk_frozen BK104.out 1; have hfz6_2 := blk_frozen BK104.out 2; have hfz6_3 := blk_frozen BK104.out 3) | ((with_reducible refine gate_callee (f := 76) rfl ?_); refine goesL_ (some 10) rfl rfl Try.func76 (by kernel_rfl) rfl #[.agg #[.int .i64 a0_0, .string a0_1, .slice A0_2 l0_2.length c0_2, .slice A0_3 l0_3.length c0_3], .int .i64 a1, .int .i64 a2] rfl MX ?_; (with_reducible refine (treemergeref06_left.calls k a0_0 a0_1 _ _ l0_2 _ _ l0_3 a1 a2 t105 _ ?side1 ?side2 ?side3 ?side4 A4.out).mono ?_); (case side1 => exact CX (Kd.C_below HR0_2.out HB.out)); (case side2 => exact HC0_2.out); (case side3 => exact CX (Kd.C_below HR0_3.out HB.out)); (case side4 => exact HC0_3.out); rintro e w7 ⟨rfl, hb⟩; refine ⟨_, rfl, ?_⟩; have n0_ := Aside0.mk (blk_below (g := gb104) (o := .cells #[.int .i64 a0_0, .string a0_1, .slice A0_2 l0_2.length c0_2, .slice A0_3 l0_3.length c0_3] 25 (0, 0)) (by (with_reducible repeat (first | refine blk_drewN ?_ _ | refine blk_drew ?_ | refine blk_alloc ?_ _)); exact BK104.out) hb); have n1_ := Aside0.mk (below_step (by repeat (first | (with_reducible first | exact HB.out | apply below_alloc | apply pw_below_drewN | apply below_drew1 | refine below_set ?_ GE104.out) | exact HB.out)) hb); clear BK104; clear HB; have BK104 := n0_; have HB := n1_; clear n0_ n1_; (try clear hb); (try clear hb2); (try clear hk); (try clear hi)))
 go_ret
 exact ⟨by first | rfl | (simp [errW_none, errW_some] <;> rfl) | (simp [*, errW_none, errW_some] <;> rfl), by repeat (first | (with_reducible first | exact HB.out | apply below_alloc | apply pw_below_drewN | apply below_drew1 | refine below_set ?_ GE104.out) | exact HB.out)⟩

end Go.Proofs.Ytcfjdehpbckomaa.Q
