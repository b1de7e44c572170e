-- Written by a program of this session (mk.py) out of the translation; Lean checks it.
import Derived.Test.YtcfjdehpbckomaaQ0
namespace Go.Proofs.Ytcfjdehpbckomaa.Q
open Go.RowKit Go.Proofs.YtcfjdehpbckomaaW.PrintWords Go.Proofs.YtcfjdehpbckomaaW.PrintLast Go.Proofs.YtcfjdehpbckomaaW.PrintMore
attribute [local go_sem] max2_int min2_int max_two min_two max_three min_three max_four min_four   -- for this text's walks alone
set_option linter.unusedVariables false
set_option linter.unusedSimpArgs false

-- 00_globat.lean
def GlobAt (w : World) (g : Nat) (cs : Array Value) : Prop := ∃ t fr, w.heap[g]? = some (.cells cs t fr)
theorem GlobAt.lt {w : World} {g : Nat} {cs : Array Value} (h : GlobAt w g cs) : g < w.heap.size := by
  obtain ⟨t, fr, h⟩ := h
  exact (Array.getElem?_eq_some_iff.mp h).1
theorem GlobAt.below {w w' : World} {g : Nat} {cs : Array Value} (hb : Below w.heap.size w w') (h : GlobAt w g cs) : GlobAt w' g cs := by
  have hl := h.lt
  obtain ⟨t, fr, h⟩ := h
  exact ⟨t, fr, (hb.block g hl).trans h⟩
theorem GlobAt.drawn {w w' : World} {g : Nat} {cs : Array Value} (hb : Drawn0 w w') (h : GlobAt w g cs) : GlobAt w' g cs := by
  obtain ⟨n, rfl⟩ := hb.out
  obtain ⟨t, fr, h⟩ := h
  exact ⟨t, fr, by simpa using h⟩

-- 05_also.lean

-- 20_mapwords.lean
/-! ### Maps: a block that is a map, as a list of keys and values -/
/-- The entries that stand for a list of keys (each by 'enc') and values. -/
def EsIs {κ : Type} (enc : κ → Value) (es : List MapEntry) (l : List (κ × Value)) : Prop := es.map (fun e => (e.key, e.val)) = l.map (fun p => (enc p.1, p.2))
/-- Block b is the map l. -/
def MapAt {κ : Type} (enc : κ → Value) (w : World) (b : Nat) (l : List (κ × Value)) : Prop := ∃ es clock, w.heap[b]? = some (.map es clock) ∧ EsIs enc es.toList l
def mlook {κ : Type} [DecidableEq κ] : List (κ × Value) → κ → Option Value
  | [], _ => none
  | p :: l, k => if k = p.1 then some p.2 else mlook l k
def mput {κ : Type} [DecidableEq κ] : List (κ × Value) → κ → Value → List (κ × Value)
  | [], k, v => [(k, v)]
  | p :: l, k, v => if k = p.1 then (k, v) :: l else p :: mput l k v
def mdel {κ : Type} [DecidableEq κ] : List (κ × Value) → κ → List (κ × Value)
  | [], _ => []
  | p :: l, k => if k = p.1 then l else p :: mdel l k
def mfind {κ : Type} [DecidableEq κ] : List (κ × Value) → κ → Nat → Option (Nat × Value)
  | [], _, _ => none
  | p :: l, k, i => if k = p.1 then some (i, p.2) else mfind l k (i + 1)
/-- Keys that the machine tells apart as Lean does. -/
structure KeyOk {κ : Type} [DecidableEq κ] (P : Program) (K : TypeId) (enc : κ → Value) : Prop where
  check : ∀ (b : Bool) (k : κ) (w : World), (Instr.checkKey b 10000 K (enc k)).run P w = .ok () w
  find : ∀ (k : κ) (es : List MapEntry) (l : List (κ × Value)) (w : World), EsIs enc es l → (Instr.findKey K (enc k) es).run P w = .ok (mfind l k 0) w
  same : ∀ k : κ, Instr.sameBits 10000 (enc k) (enc k) = true
theorem EsIs.nil {κ : Type} (enc : κ → Value) : EsIs enc [] ([] : List (κ × Value)) := rfl
theorem EsIs.cons_inv {κ : Type} {enc : κ → Value} {es : List MapEntry} {p : κ × Value} {l : List (κ × Value)} (h : EsIs enc es (p :: l)) : ∃ e r, es = e :: r ∧ e.key = enc p.1 ∧ e.val = p.2 ∧ EsIs enc r l := by
  cases es with
  | nil => simp [EsIs] at h
  | cons e r =>
    simp only [EsIs, List.map_cons, List.cons.injEq, Prod.mk.injEq] at h
    exact ⟨e, r, rfl, h.1.1, h.1.2, h.2⟩
theorem EsIs.nil_inv {κ : Type} {enc : κ → Value} {es : List MapEntry} (h : EsIs enc es ([] : List (κ × Value))) : es = [] := by
  simpa [EsIs] using h
theorem EsIs.length {κ : Type} {enc : κ → Value} {es : List MapEntry} {l : List (κ × Value)} (h : EsIs enc es l) : es.length = l.length := by
  have := congrArg List.length h
  simpa using this
theorem mfind_look {κ : Type} [DecidableEq κ] (k : κ) : ∀ (l : List (κ × Value)) (i : Nat), (mfind l k i).map (·.2) = mlook l k
  | [], _ => rfl
  | p :: l, i => by
    simp only [mfind, mlook]
    split
    · rfl
    · exact mfind_look k l (i + 1)
theorem findNow_is {κ : Type} [DecidableEq κ] {enc : κ → Value} {d : TypeDesc} (hs : ∀ a b : κ, Instr.sameNow d (enc a) (enc b) = some (decide (a = b))) (k : κ) : ∀ (l : List (κ × Value)) (es : List MapEntry) (i : Nat), EsIs enc es l → Instr.findNow d (enc k) es i = some (mfind l k i)
  | [], es, i, h => by
    rw [h.nil_inv]
    rfl
  | p :: l, es, i, h => by
    obtain ⟨e, r, rfl, h1, h2, h3⟩ := h.cons_inv
    simp only [Instr.findNow, mfind, h1, hs]
    by_cases hk : k = p.1
    · rw [if_pos hk, decide_eq_true hk, h2]
    · rw [if_neg hk, decide_eq_false hk]
      exact findNow_is hs k l r (i + 1) h3
theorem checkKey_plain {P : Program} {K : TypeId} {d : TypeDesc} {v : Value} (hK : P.underlying K = some d) (hd : (match d with | .int _ | .string | .bool => true | _ => false) = true) (b : Bool) (w : World) : (Instr.checkKey b 10000 K v).run P w = .ok () w := by
  unfold Instr.checkKey
  rw [Sem.run_bind, run_underlying hK w]
  cases d <;> simp_all
theorem findKey_now {P : Program} {K : TypeId} {d : TypeDesc} {v : Value} {es : List MapEntry} {r : Option (Nat × Value)} (hK : P.underlying K = some d) (h : Instr.findNow d v es 0 = some r) (w : World) : (Instr.findKey K v es).run P w = .ok r w := by
  unfold Instr.findKey
  rw [Sem.run_bind, run_underlying hK w]
  simp [h]
theorem KeyOk.int {P : Program} {K : TypeId} {q : IntKind} (hK : P.underlying K = some (.int q)) : KeyOk P K (fun a : Int => .int q a) :=
  ⟨fun b k w => checkKey_plain hK rfl b w, fun k es l w h => findKey_now hK (findNow_is (fun a b => by simp only [Instr.sameNow, if_true]; rfl) k l es 0 h) w, fun k => by simp [Instr.sameBits]⟩
theorem bytes_beq (a b : ByteArray) : (a == b) = decide (a = b) := by
  have h : (a == b) = (a.data == b.data) := rfl
  rw [h, Bool.eq_iff_iff, beq_iff_eq, decide_eq_true_iff]
  exact ⟨fun h => by cases a; cases b; simp_all, fun h => by rw [h]⟩
theorem KeyOk.string {P : Program} {K : TypeId} (hK : P.underlying K = some .string) : KeyOk P K (fun s : ByteArray => .string s) :=
  ⟨fun b k w => checkKey_plain hK rfl b w, fun k es l w h => findKey_now hK (findNow_is (fun a b => by simp only [Instr.sameNow, bytes_beq]) k l es 0 h) w, fun k => by simp [Instr.sameBits, bytes_beq]⟩
theorem MapAt.new {κ : Type} (enc : κ → Value) (w : World) : MapAt enc (w.alloc (.map #[] 0)) w.heap.size ([] : List (κ × Value)) := ⟨#[], 0, heap_alloc_new w _, rfl⟩
theorem MapAt.keep {κ : Type} {enc : κ → Value} {w w' : World} {b : Nat} {l : List (κ × Value)} (h : MapAt enc w b l) (hk : w'.heap[b]? = w.heap[b]?) : MapAt enc w' b l := by
  obtain ⟨es, c, h1, h2⟩ := h
  exact ⟨es, c, hk.trans h1, h2⟩
theorem MapAt.lt {κ : Type} {enc : κ → Value} {w : World} {b : Nat} {l : List (κ × Value)} (h : MapAt enc w b l) : b < w.heap.size := by
  obtain ⟨es, c, h1, h2⟩ := h
  exact (Array.getElem?_eq_some_iff.1 h1).1
theorem MapAt.below {κ : Type} {enc : κ → Value} {w w' : World} {b : Nat} {l : List (κ × Value)} (h : MapAt enc w b l) (hb : Below w.heap.size w w') : MapAt enc w' b l := h.keep (hb.block b h.lt)
theorem MapAt.alloc {κ : Type} {enc : κ → Value} {w : World} {b : Nat} {l : List (κ × Value)} (h : MapAt enc w b l) (o : Obj) : MapAt enc (w.alloc o) b l := h.keep (Below.heap_alloc w o b h.lt)
theorem MapAt.drewN {κ : Type} {enc : κ → Value} {w : World} {b : Nat} {l : List (κ × Value)} (h : MapAt enc w b l) (n : Nat) : MapAt enc (w.drewN n) b l := h.keep (by simp)
theorem MapAt.grown {κ : Type} {enc : κ → Value} {w w' : World} {b : Nat} {l : List (κ × Value)} {row : Option Nat} (h : MapAt enc w b l) (hg : w.grownBy w' row) (hne : some b ≠ row) : MapAt enc w' b l := h.keep (hg.block b h.lt hne)
theorem run_lookup_ok {κ : Type} [DecidableEq κ] {P : Program} {T K E : TypeId} {enc : κ → Value} (hk : KeyOk P K enc) (hT : P.underlying T = some (.map K E)) {w : World} {z : Value} (hz : (zeroValue E).run P w = .ok z w) {b : Nat} {l : List (κ × Value)} (h : MapAt enc w b l) (k : κ) (c : Bool) :
    (Instr.lookup T (.map (some b)) (enc k) c).run P w = .ok (if c then .tuple #[(mlook l k).getD z, .bool (mlook l k).isSome] else (mlook l k).getD z) w := by
  obtain ⟨es, clock, h1, h2⟩ := h
  have hgo : (getObj b).run P w = .ok (.map es clock) w := by simp [getObj, Sem.run, h1]
  unfold Instr.lookup
  rw [Sem.run_bind, run_underlying hT w]
  simp only [Result.andThen_ok, Sem.run_bind, hgo, hk.check, Sem.run_pure]
  rw [hk.find k es.toList l w h2, ← mfind_look k l 0]
  cases mfind l k 0 with
  | none => simp [hz]
  | some p => simp
theorem wpList_lookup {κ : Type} [DecidableEq κ] {P : Program} {w : World} {ops : Array Oper} {rest : List Oper} {o : Oper} {a : Act} {Q : Exit → Act → World → Prop} {enc : κ → Value} {T K E : TypeId} {c : Bool}
    (hg : o.guard = none) (m x : Operand) (hop : o.op = Op.lookup T m x c) (hk : KeyOk P K enc) (hT : P.underlying T = some (.map K E)) {z : Value} (hz : (zeroValue E).run P w = .ok z w) {b : Nat} {l : List (κ × Value)}
    (hm : a.eval m = .map (some b)) (h : MapAt enc w b l) (k : κ) (hx : a.eval x = enc k)
    (hK : wpList P ops Q rest (a.put o.dst (if c then .tuple #[(mlook l k).getD z, .bool (mlook l k).isSome] else (mlook l k).getD z)) w) : wpList P ops Q (o :: rest) a w := by
  refine wpList_plain hg fun K' hK' => ?_
  have hrun := run_lookup_ok hk hT hz h k c
  unfold Oper.wp
  simp only [execOp, hop, hm, hx, hrun, Result.andThen, Sem.run_bind, Sem.run_pure]
  exact hK' _ _ hK
theorem modify_is {κ : Type} [DecidableEq κ] {enc : κ → Value} (k : κ) (v : Value) : ∀ (l : List (κ × Value)) (es : List MapEntry) (i : Nat) (r : Nat × Value), EsIs enc es l → mfind l k i = some r → i ≤ r.1 ∧ (∃ e, es[r.1 - i]? = some e ∧ e.key = enc k) ∧ EsIs enc (es.modify (r.1 - i) fun e => { e with key := enc k, val := v }) (mput l k v)
  | [], _, _, _, _, h => by simp [mfind] at h
  | p :: l, es, i, r, h, hf => by
    obtain ⟨e, s, rfl, h1, h2, h3⟩ := h.cons_inv
    simp only [mfind] at hf
    by_cases hk : k = p.1
    · rw [if_pos hk] at hf
      obtain rfl := Option.some.inj hf
      refine ⟨Nat.le_refl _, ⟨e, by simp, by rw [h1, hk]⟩, ?_⟩
      simp only [Nat.sub_self, List.modify_zero_cons, mput, if_pos hk]
      simp only [EsIs, List.map_cons] at h3 ⊢
      rw [h3]
    · rw [if_neg hk] at hf
      obtain ⟨q1, ⟨e', q2, q3⟩, q4⟩ := modify_is k v l s (i + 1) r h3 hf
      obtain ⟨m, hm⟩ : ∃ m, r.1 - i = m + 1 := ⟨r.1 - (i + 1), by omega⟩
      have hm' : r.1 - (i + 1) = m := by omega
      rw [hm'] at q2 q4
      refine ⟨by omega, ⟨e', by rw [hm]; simpa using q2, q3⟩, ?_⟩
      rw [hm]
      simp only [List.modify_succ_cons, mput, if_neg hk]
      simp only [EsIs, List.map_cons] at q4 ⊢
      rw [q4, h1, h2]
theorem push_is {κ : Type} [DecidableEq κ] {enc : κ → Value} (k : κ) (v : Value) (n : Nat) : ∀ (l : List (κ × Value)) (es : List MapEntry) (i : Nat), EsIs enc es l → mfind l k i = none → EsIs enc (es ++ [{ key := enc k, val := v, born := n }]) (mput l k v)
  | [], es, _, h, _ => by
    rw [h.nil_inv]
    rfl
  | p :: l, es, i, h, hf => by
    obtain ⟨e, s, rfl, h1, h2, h3⟩ := h.cons_inv
    simp only [mfind] at hf
    by_cases hk : k = p.1
    · rw [if_pos hk] at hf
      exact absurd hf (by simp)
    · rw [if_neg hk] at hf
      have := push_is k v n l s (i + 1) h3 hf
      simp only [EsIs, List.map_cons, List.cons_append, mput, if_neg hk] at this ⊢
      rw [this, h1, h2]
theorem run_mapUpdate {κ : Type} [DecidableEq κ] {P : Program} {T K E : TypeId} {enc : κ → Value} (hk : KeyOk P K enc) (hT : P.underlying T = some (.map K E)) {w : World} {b : Nat} {l : List (κ × Value)} (h : MapAt enc w b l) (k : κ) (v : Value) :
    ∃ w', (Instr.mapUpdate T (.map (some b)) (enc k) v).run P w = .ok () w' ∧ MapAt enc w' b (mput l k v) ∧ w.grownBy w' (some b) := by
  obtain ⟨es, clock, h1, h2⟩ := h
  have hgo : (getObj b).run P w = .ok (.map es clock) w := by simp [getObj, Sem.run, h1]
  have hset : ∀ o : Obj, (setObj b o).run P w = .ok () (ChangeMaps.setBlock w b o) := fun o => MapKept.run_setObj_map o h1
  have hgr : ∀ o : Obj, w.grownBy (ChangeMaps.setBlock w b o) (some b) := fun o => ⟨rfl, rfl, rfl, by simp [ChangeMaps.setBlock], fun i _ hi => ChangeMaps.heap_setBlock_other h1 _ (fun e => hi (by rw [e]))⟩
  cases hf : mfind l k 0 with
  | none =>
    refine ⟨ChangeMaps.setBlock w b (.map (es.push { key := enc k, val := v, born := clock }) (clock + 1)), ?_, ⟨_, _, ChangeMaps.heap_setBlock_same h1 _, ?_⟩, hgr _⟩
    · unfold Instr.mapUpdate
      rw [Sem.run_bind, run_underlying hT w]
      simp only [Result.andThen_ok, Sem.run_bind, hgo, hk.check, hk.find k es.toList l w h2, hf, hset]
    · rw [Array.toList_push]
      exact push_is k v clock l es.toList 0 h2 hf
  | some r =>
    obtain ⟨_, ⟨e, q2, q3⟩, q4⟩ := modify_is k v l es.toList 0 r h2 hf
    rw [Nat.sub_zero] at q2 q4
    refine ⟨ChangeMaps.setBlock w b (.map (es.modify r.1 fun e => { e with key := enc k, val := v }) clock), ?_, ⟨_, _, ChangeMaps.heap_setBlock_same h1 _, ?_⟩, hgr _⟩
    · unfold Instr.mapUpdate
      have q2' : es[r.1]? = some e := by simpa using q2
      rw [Sem.run_bind, run_underlying hT w]
      simp only [Result.andThen_ok, Sem.run_bind, hgo, hk.check, hk.find k es.toList l w h2, hf, q2', Option.map_some, Option.getD_some, q3, Instr.keyThatStays, hk.same, if_true, Sem.run_pure, hset]
    · simpa using q4
theorem wpList_mapUpdate {κ : Type} [DecidableEq κ] {P : Program} {w : World} {ops : Array Oper} {rest : List Oper} {o : Oper} {a : Act} {Q : Exit → Act → World → Prop} {enc : κ → Value} {T K E : TypeId}
    (hg : o.guard = none) (m x v : Operand) (hop : o.op = Op.mapUpdate T m x v) (hk : KeyOk P K enc) (hT : P.underlying T = some (.map K E)) {b : Nat} {l : List (κ × Value)}
    (hm : a.eval m = .map (some b)) (h : MapAt enc w b l) (k : κ) (hx : a.eval x = enc k) (val : Value) (hv : a.eval v = val)
    (hK : ∀ w', MapAt enc w' b (mput l k val) → w.grownBy w' (some b) → wpList P ops Q rest (a.put o.dst undef) w') : wpList P ops Q (o :: rest) a w := by
  refine wpList_plain hg fun K' hK' => ?_
  obtain ⟨w', hrun, r1, r2⟩ := run_mapUpdate hk hT h k val
  unfold Oper.wp
  simp [execOp, hop, hm, hx, hv, hrun, Result.andThen]
  exact hK' _ _ (hK w' r1 r2)
theorem mlook_put {κ : Type} [DecidableEq κ] (k k' : κ) (v : Value) : ∀ l : List (κ × Value), mlook (mput l k v) k' = if k' = k then some v else mlook l k'
  | [] => by simp [mput, mlook]
  | p :: l => by
    simp only [mput]
    by_cases h : k = p.1
    · rw [if_pos h]
      simp only [mlook]
      by_cases h2 : k' = k
      · rw [if_pos h2, if_pos h2]
      · rw [if_neg h2, if_neg h2, if_neg (fun e => h2 (e.trans h.symm))]
    · rw [if_neg h]
      simp only [mlook]
      rw [mlook_put k k' v l]
      by_cases h2 : k' = p.1
      · rw [if_pos h2, if_pos h2, if_neg (fun e => h (e.symm.trans h2))]
      · rw [if_neg h2, if_neg h2]

-- 25_mapt.lean
/-! ### Maps with elements of any kind: a list of keys and elements, each element read by V -/
section
variable {κ β : Type}
def glook [DecidableEq κ] : List (κ × β) → κ → Option β
  | [], _ => none
  | p :: l, k => if k = p.1 then some p.2 else glook l k
def gput [DecidableEq κ] : List (κ × β) → κ → β → List (κ × β)
  | [], k, v => [(k, v)]
  | p :: l, k, v => if k = p.1 then (k, v) :: l else p :: gput l k v
/-- Two lists of keys have the same keys, and their elements fit. -/
def RelM (V : β → Value → Prop) : List (κ × Value) → List (κ × β) → Prop
  | [], [] => True
  | p :: l, q :: m => p.1 = q.1 ∧ V q.2 p.2 ∧ RelM V l m
  | _, _ => False
theorem RelM.look [DecidableEq κ] {V : β → Value → Prop} (k : κ) : ∀ {l : List (κ × Value)} {m : List (κ × β)}, RelM V l m → (mlook l k = none ∧ glook m k = none) ∨ ∃ v x, mlook l k = some v ∧ glook m k = some x ∧ V x v
  | [], [], _ => .inl ⟨rfl, rfl⟩
  | p :: l, q :: m, h => by
    obtain ⟨h1, h2, h3⟩ := h
    rw [mlook, glook, h1]
    by_cases e : k = q.1
    · rw [if_pos e, if_pos e]
      exact .inr ⟨_, _, rfl, rfl, h2⟩
    · rw [if_neg e, if_neg e]
      exact RelM.look k h3
  | [], _ :: _, h => h.elim
  | _ :: _, [], h => h.elim
theorem RelM.put [DecidableEq κ] {V : β → Value → Prop} (k : κ) {v : Value} {x : β} (hv : V x v) : ∀ {l : List (κ × Value)} {m : List (κ × β)}, RelM V l m → RelM V (mput l k v) (gput m k x)
  | [], [], _ => ⟨rfl, hv, trivial⟩
  | p :: l, q :: m, h => by
    obtain ⟨h1, h2, h3⟩ := h
    rw [mput, gput, h1]
    by_cases e : k = q.1
    · rw [if_pos e, if_pos e]
      exact ⟨rfl, hv, h3⟩
    · rw [if_neg e, if_neg e]
      exact ⟨h1, h2, RelM.put k hv h3⟩
  | [], _ :: _, h => h.elim
  | _ :: _, [], h => h.elim
theorem RelM.mono {V V' : β → Value → Prop} (hV : ∀ x v, V x v → V' x v) : ∀ {l : List (κ × Value)} {m : List (κ × β)}, RelM V l m → RelM V' l m
  | [], [], _ => trivial
  | _ :: _, _ :: _, h => ⟨h.1, hV _ _ h.2.1, RelM.mono hV h.2.2⟩
  | [], _ :: _, h => h.elim
  | _ :: _, [], h => h.elim
theorem RelM.len {V : β → Value → Prop} : ∀ {l : List (κ × Value)} {m : List (κ × β)}, RelM V l m → l.length = m.length
  | [], [], _ => rfl
  | _ :: _, _ :: _, h => by rw [List.length_cons, List.length_cons, RelM.len h.2.2]
  | [], _ :: _, h => h.elim
  | _ :: _, [], h => h.elim
theorem RelM.keys {V : β → Value → Prop} : ∀ {l : List (κ × Value)} {m : List (κ × β)}, RelM V l m → l.map (·.1) = m.map (·.1)
  | [], [], _ => rfl
  | _ :: _, _ :: _, h => by rw [List.map_cons, List.map_cons, h.1, RelM.keys h.2.2]
  | [], _ :: _, h => h.elim
  | _ :: _, [], h => h.elim
/-- Block b is the map m. -/
def MapT (enc : κ → Value) (V : β → Value → Prop) (w : World) (b : Nat) (m : List (κ × β)) : Prop := ∃ l : List (κ × Value), MapAt enc w b l ∧ RelM V l m
variable {enc : κ → Value} {V V' : β → Value → Prop} {w w' : World} {b : Nat} {m : List (κ × β)}
theorem MapT.new (enc : κ → Value) (V : β → Value → Prop) (w : World) : MapT enc V (w.alloc (.map #[] 0)) w.heap.size ([] : List (κ × β)) := ⟨[], MapAt.new enc w, trivial⟩
theorem MapT.keep (h : MapT enc V w b m) (hk : w'.heap[b]? = w.heap[b]?) : MapT enc V w' b m := by obtain ⟨l, h1, h2⟩ := h; exact ⟨l, h1.keep hk, h2⟩
theorem MapT.mono (h : MapT enc V w b m) (hV : ∀ x v, V x v → V' x v) : MapT enc V' w b m := by obtain ⟨l, h1, h2⟩ := h; exact ⟨l, h1, h2.mono hV⟩
theorem MapT.lt (h : MapT enc V w b m) : b < w.heap.size := by obtain ⟨l, h1, _⟩ := h; exact h1.lt
theorem MapT.below (h : MapT enc V w b m) (hb : Below w.heap.size w w') : MapT enc V w' b m := h.keep (hb.block b h.lt)
theorem MapT.alloc (h : MapT enc V w b m) (o : Obj) : MapT enc V (w.alloc o) b m := h.keep (Below.heap_alloc w o b h.lt)
theorem MapT.drewN (h : MapT enc V w b m) (n : Nat) : MapT enc V (w.drewN n) b m := h.keep (by simp)
theorem MapT.grown {row : Option Nat} (h : MapT enc V w b m) (hg : w.grownBy w' row) (hne : some b ≠ row) : MapT enc V w' b m := h.keep (hg.block b h.lt hne)
theorem MapT.kept {S : Nat → Prop} (h : MapT enc V w b m) (hg : Kept w w' S) (hne : ¬ S b) : MapT enc V w' b m := h.keep (hg.2 b h.lt hne)
theorem MapT.set (h : MapT enc V w b m) {p : Addr} (hne : b ≠ p.block) (u : Value) : MapT enc V (w.setCell p u) b m := h.keep (Below.heap_setCell w p u b hne)
theorem MapT.ne_row {α : Type} {d : Kd α} {e base : Nat} {ok : Nat → Prop} {v : Value} {xs : List α} (h : MapT enc V w b m) (hR : d.R e w base ok v xs) : some b ≠ v.ownBlock := fun he => by
  obtain ⟨l, ⟨es, c, h3, _⟩, _⟩ := h
  obtain ⟨cells, hc⟩ := Kd.R_typed hR b he.symm
  rw [h3] at hc
  cases hc
theorem MapT.row {α : Type} {d : Kd α} {e base : Nat} {ok : Nat → Prop} {v : Value} {xs : List α} (h : MapT enc V w b m) (hR : d.R e w base ok v xs) (hg : w.grownBy w' v.ownBlock) : MapT enc V w' b m := h.grown hg (h.ne_row hR)
theorem R_mapT {α : Type} {d : Kd α} {e base : Nat} {ok : Nat → Prop} {v : Value} {xs : List α} (hR : d.R e w base ok v xs) (h : MapT enc V w b m) (hg : w.grownBy w' (some b)) : d.R e w' base ok v xs := by
  refine Kd.R_mono (Kd.R_grown (Kd.R_bound hR) hg (fun k hk he => ?_)) (fun k hk => hk.1)
  injection he with he
  subst he
  obtain ⟨_, _, _, q, _, cells, hc⟩ := hk
  obtain ⟨l, ⟨es, c, h3, _⟩, _⟩ := h
  rw [h3] at hc
  cases hc
theorem blk_mapT {g : Nat} {cs : Array Value} {t : TypeId} {fr : Nat × Nat} (hB : w.heap[g]? = some (.cells cs t fr)) (h : MapT enc V w b m) : g ≠ b := by
  rintro rfl
  obtain ⟨l, ⟨es, c, h3, _⟩, _⟩ := h
  rw [h3] at hB
  cases hB
theorem wpList_lookT [DecidableEq κ] {P : Program} {ops : Array Oper} {rest : List Oper} {o : Oper} {a : Act} {Q : Exit → Act → World → Prop} {T K E : TypeId} {c : Bool}
    (hg : o.guard = none) (mo x : Operand) (hop : o.op = Op.lookup T mo x c) (hk : KeyOk P K enc) (hT : P.underlying T = some (.map K E)) {z : Value} (hz : (zeroValue E).run P w = .ok z w)
    (hm : a.eval mo = .map (some b)) (h : MapT enc V w b m) (k : κ) (hx : a.eval x = enc k)
    (hN : glook m k = none → wpList P ops Q rest (a.put o.dst (if c then .tuple #[z, .bool false] else z)) w)
    (hS : ∀ y v, glook m k = some y → V y v → wpList P ops Q rest (a.put o.dst (if c then .tuple #[v, .bool true] else v)) w) : wpList P ops Q (o :: rest) a w := by
  obtain ⟨l, h1, h2⟩ := h
  refine wpList_lookup hg mo x hop hk hT hz hm h1 k hx ?_
  rcases h2.look k with ⟨e1, e2⟩ | ⟨v, y, e1, e2, e3⟩
  · rw [e1]
    exact hN e2
  · rw [e1]
    exact hS y v e2 e3
theorem wpList_putT [DecidableEq κ] {P : Program} {ops : Array Oper} {rest : List Oper} {o : Oper} {a : Act} {Q : Exit → Act → World → Prop} {T K E : TypeId}
    (hg : o.guard = none) (mo x v : Operand) (hop : o.op = Op.mapUpdate T mo x v) (hk : KeyOk P K enc) (hT : P.underlying T = some (.map K E))
    (hm : a.eval mo = .map (some b)) (h : MapT enc V w b m) (k : κ) (hx : a.eval x = enc k) (val : Value) (y : β) (hv : a.eval v = val) (hy : V y val)
    (hK : ∀ w', MapT enc V w' b (gput m k y) → w.grownBy w' (some b) → wpList P ops Q rest (a.put o.dst undef) w') : wpList P ops Q (o :: rest) a w := by
  obtain ⟨l, h1, h2⟩ := h
  exact wpList_mapUpdate hg mo x v hop hk hT hm h1 k hx val hv (fun w' h3 h4 => hK w' ⟨_, h3, h2.put k hy⟩ h4)
end
theorem glook_put {κ β : Type} [DecidableEq κ] (k k' : κ) (v : β) : ∀ l : List (κ × β), glook (gput l k v) k' = if k' = k then some v else glook l k'
  | [] => by simp [gput, glook]
  | p :: l => by
    simp only [gput]
    by_cases h : k = p.1
    · rw [if_pos h]
      simp only [glook]
      by_cases h2 : k' = k
      · rw [if_pos h2, if_pos h2]
      · rw [if_neg h2, if_neg h2, if_neg (fun e => h2 (e.trans h.symm))]
    · rw [if_neg h]
      simp only [glook]
      rw [glook_put k k' v l]
      by_cases h2 : k' = p.1
      · rw [if_pos h2, if_pos h2, if_neg (fun e => h (e.symm.trans h2))]
      · rw [if_neg h2, if_neg h2]
theorem gput_keys {κ β : Type} [DecidableEq κ] : ∀ (l : List (κ × β)) (k : κ) (v : β), (gput l k v).map (fun p => p.1) = if k ∈ l.map (fun p => p.1) then l.map (fun p => p.1) else l.map (fun p => p.1) ++ [k]
  | [], k, v => by simp [gput]
  | p :: l, k, v => by
    rw [gput]
    by_cases h : k = p.1
    · rw [if_pos h, if_pos (by rw [h]; simp)]
      simp [h]
    · rw [if_neg h, List.map_cons, gput_keys l k v, List.map_cons]
      by_cases q : k ∈ l.map (fun p => p.1)
      · rw [if_pos q, if_pos (List.mem_cons_of_mem _ q)]
      · rw [if_neg q, if_neg (by rw [List.mem_cons]; exact fun e => e.elim h q)]
        rfl
theorem glook_none {κ β : Type} [DecidableEq κ] (k : κ) : ∀ l : List (κ × β), glook l k = none ↔ k ∉ l.map (fun p => p.1)
  | [] => by simp [glook]
  | p :: l => by
    rw [glook, List.map_cons, List.mem_cons]
    by_cases e : k = p.1
    · rw [if_pos e]; simp [e]
    · rw [if_neg e, glook_none k l]; simp [e]
section
variable {κ β : Type} [DecidableEq κ] {enc : κ → Value} {V : β → Value → Prop} {w : World} {b : Nat} {m : List (κ × β)}
theorem wpList_lookT_none {P : Program} {ops : Array Oper} {rest : List Oper} {o : Oper} {a : Act} {Q : Exit → Act → World → Prop} {T K E : TypeId} {c : Bool}
    (hg : o.guard = none) (mo x : Operand) (hop : o.op = Op.lookup T mo x c) (hk : KeyOk P K enc) (hT : P.underlying T = some (.map K E)) {z : Value} (hz : (zeroValue E).run P w = .ok z w)
    (hm : a.eval mo = .map (some b)) (h : MapT enc V w b m) (k : κ) (hx : a.eval x = enc k) (hn : glook m k = none)
    (hK : wpList P ops Q rest (a.put o.dst (if c then .tuple #[z, .bool false] else z)) w) : wpList P ops Q (o :: rest) a w :=
  wpList_lookT hg mo x hop hk hT hz hm h k hx (fun _ => hK) (fun y v e _ => by rw [hn] at e; cases e)
theorem wpList_lookT_some {P : Program} {ops : Array Oper} {rest : List Oper} {o : Oper} {a : Act} {Q : Exit → Act → World → Prop} {T K E : TypeId} {c : Bool}
    (hg : o.guard = none) (mo x : Operand) (hop : o.op = Op.lookup T mo x c) (hk : KeyOk P K enc) (hT : P.underlying T = some (.map K E)) {z : Value} (hz : (zeroValue E).run P w = .ok z w)
    (hm : a.eval mo = .map (some b)) (h : MapT enc V w b m) (k : κ) (hx : a.eval x = enc k) (y : β) (hn : glook m k = some y)
    (hK : ∀ v, V y v → wpList P ops Q rest (a.put o.dst (if c then .tuple #[v, .bool true] else v)) w) : wpList P ops Q (o :: rest) a w :=
  wpList_lookT hg mo x hop hk hT hz hm h k hx (fun e => by rw [hn] at e; cases e) (fun y' v e hv => by rw [hn] at e; obtain rfl := Option.some.inj e; exact hK v hv)
/-- Elements that are values. -/
abbrev VE (e : β → Value) : β → Value → Prop := fun x v => v = e x
theorem wpList_lookE {e : β → Value} {P : Program} {ops : Array Oper} {rest : List Oper} {o : Oper} {a : Act} {Q : Exit → Act → World → Prop} {T K E : TypeId} {c : Bool}
    (hg : o.guard = none) (mo x : Operand) (hop : o.op = Op.lookup T mo x c) (hk : KeyOk P K enc) (hT : P.underlying T = some (.map K E)) (z : β) (hz : (zeroValue E).run P w = .ok (e z) w)
    (hm : a.eval mo = .map (some b)) (h : MapT enc (VE e) w b m) (k : κ) (hx : a.eval x = enc k)
    (hK : wpList P ops Q rest (a.put o.dst (if c then .tuple #[e ((glook m k).getD z), .bool (glook m k).isSome] else e ((glook m k).getD z))) w) : wpList P ops Q (o :: rest) a w :=
  wpList_lookT hg mo x hop hk hT hz hm h k hx (fun e => by rw [e] at hK; exact hK) (fun y v e1 e2 => by rw [e1] at hK; rw [e2]; exact hK)
end

-- 27_settle.lean
/-! ### A block of one's own that was stored into, cell by cell: the world by one letter -/
theorem grown_set (W : World) (g i : Nat) (u : Value) : W.grownBy (W.setCell ⟨g, i, none⟩ u) (some g) := ⟨rfl, rfl, rfl, by simp [World.setCell], fun k _ hk => Below.heap_setCell W ⟨g, i, none⟩ u k (fun e => hk (by rw [e]))⟩
theorem grown_set2 {W W' : World} {g : Nat} (h : W.grownBy W' (some g)) (i : Nat) (u : Value) : W.grownBy (W'.setCell ⟨g, i, none⟩ u) (some g) := by
  obtain ⟨h1, h2, h3, h4, h5⟩ := h
  exact ⟨h1, h2, h3, by simpa [World.setCell] using h4, fun k hk hn => (Below.heap_setCell W' ⟨g, i, none⟩ u k (fun e => hn (by rw [e]))).trans (h5 k hk hn)⟩
section
variable {P : Program} {ops : Array Oper} {rest : List Oper} {a : Act} {Q : Exit → Act → World → Prop} {W : World} {g : Nat} {T : TypeId}
theorem settle1 {c0 v0 : Value} (hb : W.heap[g]? = some (.cells #[c0] T (0, 0))) (K : ∀ w', w'.heap[g]? = some (.cells #[v0] T (0, 0)) → W.grownBy w' (some g) → wpList P ops Q rest a w') : wpList P ops Q rest a (W.setCell ⟨g, 0, none⟩ v0) :=
  K _ (blk_put hb 0 v0 rfl) (grown_set W g 0 v0)
theorem settle2 {c0 c1 v0 v1 : Value} (hb : W.heap[g]? = some (.cells #[c0, c1] T (0, 0))) (K : ∀ w', w'.heap[g]? = some (.cells #[v0, v1] T (0, 0)) → W.grownBy w' (some g) → wpList P ops Q rest a w') : wpList P ops Q rest a ((W.setCell ⟨g, 0, none⟩ v0).setCell ⟨g, 1, none⟩ v1) :=
  K _ (blk_put (blk_put (cs' := #[v0, c1]) hb 0 v0 rfl) 1 v1 rfl) (grown_set2 (grown_set W g 0 v0) 1 v1)
theorem settle4 {c0 c1 c2 c3 v0 v1 v2 v3 : Value} (hb : W.heap[g]? = some (.cells #[c0, c1, c2, c3] T (0, 0))) (K : ∀ w', w'.heap[g]? = some (.cells #[v0, v1, v2, v3] T (0, 0)) → W.grownBy w' (some g) → wpList P ops Q rest a w') : wpList P ops Q rest a ((((W.setCell ⟨g, 0, none⟩ v0).setCell ⟨g, 1, none⟩ v1).setCell ⟨g, 2, none⟩ v2).setCell ⟨g, 3, none⟩ v3) :=
  K _ (blk_put (blk_put (cs' := #[v0, v1, v2, c3]) (blk_put (cs' := #[v0, v1, c2, c3]) (blk_put (cs' := #[v0, c1, c2, c3]) hb 0 v0 rfl) 1 v1 rfl) 2 v2 rfl) 3 v3 rfl) (grown_set2 (grown_set2 (grown_set2 (grown_set W g 0 v0) 1 v1) 2 v2) 3 v3)
theorem settle5 {c0 c1 c2 c3 c4 v0 v1 v2 v3 v4 : Value} (hb : W.heap[g]? = some (.cells #[c0, c1, c2, c3, c4] T (0, 0))) (K : ∀ w', w'.heap[g]? = some (.cells #[v0, v1, v2, v3, v4] T (0, 0)) → W.grownBy w' (some g) → wpList P ops Q rest a w') : wpList P ops Q rest a (((((W.setCell ⟨g, 0, none⟩ v0).setCell ⟨g, 1, none⟩ v1).setCell ⟨g, 2, none⟩ v2).setCell ⟨g, 3, none⟩ v3).setCell ⟨g, 4, none⟩ v4) :=
  K _ (blk_put (blk_put (cs' := #[v0, v1, v2, v3, c4]) (blk_put (cs' := #[v0, v1, v2, c3, c4]) (blk_put (cs' := #[v0, v1, c2, c3, c4]) (blk_put (cs' := #[v0, c1, c2, c3, c4]) hb 0 v0 rfl) 1 v1 rfl) 2 v2 rfl) 3 v3 rfl) 4 v4 rfl) (grown_set2 (grown_set2 (grown_set2 (grown_set2 (grown_set W g 0 v0) 1 v1) 2 v2) 3 v3) 4 v4)
end
theorem below_own {base : Nat} {w W w' : World} {g : Nat} (h : Below base w W) (hg : W.grownBy w' (some g)) (hb : base ≤ g) (hs : base ≤ W.heap.size) : Below base w w' := h.grown hg hs (fun j hj => by cases hj; exact hb)
abbrev keyI (a : Int) : Value := .int .i64 a
theorem settleF {P : Program} {ops : Array Oper} {rest : List Oper} {a : Act} {Q : Exit → Act → World → Prop} {W : World} {g : Nat} {T : TypeId} {cs : Array Value} (i : Nat) {u : Value} (cs' : Array Value) (hb : W.heap[g]? = some (.cells cs T (0, 0))) (e : cs.setIfInBounds i u = cs') (K : ∀ w', w'.heap[g]? = some (.cells cs' T (0, 0)) → W.grownBy w' (some g) → wpList P ops Q rest a w') : wpList P ops Q rest a (W.setCell ⟨g, i, none⟩ u) :=
  K _ (blk_put hb i u e) (grown_set W g i u)
theorem run_len_mapT {κ β : Type} {enc : κ → Value} {V : β → Value → Prop} {P : Program} {w : World} {b : Nat} {m : List (κ × β)} {t K E : TypeId} (ht : P.underlying t = some (.map K E)) (h : MapT enc V w b m) (ty : TypeId) : (Builtin.len_ #[t] ty #[.map (some b)]).run P w = .ok (.int .i64 (m.length : Int)) w := by
  obtain ⟨l, ⟨es, c, h1, h2⟩, h3⟩ := h
  have hgo : (getObj b).run P w = .ok (.map es c) w := by simp [getObj, Sem.run, h1]
  have hl : es.size = m.length := by rw [← Array.length_toList, h2.length, h3.len]
  unfold Builtin.len_
  simp [Sem.run_bind, run_underlying ht w, hgo, goInt, hl]
theorem wpList_lenT {κ β : Type} {enc : κ → Value} {V : β → Value → Prop} {P : Program} {ops : Array Oper} {rest : List Oper} {o : Oper} {a : Act} {Q : Exit → Act → World → Prop} {w : World} {b : Nat} {m : List (κ × β)} {t K E : TypeId}
    (hg : o.guard = none) (mo : Operand) (hop : o.op = Op.call { callee := Callee.builtin Builtin.len, args := #[mo], argTypes := #[t] }) (ht : P.underlying t = some (.map K E)) (hm : a.eval mo = .map (some b)) (h : MapT enc V w b m)
    (hK : wpList P ops Q rest (a.put o.dst (.int .i64 (m.length : Int))) w) : wpList P ops Q (o :: rest) a w := by
  refine wpList_plain hg fun K' hK' => ?_
  have hrun := run_len_mapT (P := P) ht h o.type
  unfold Oper.wp
  simp [execOp, hop, resolve, invoke, builtin, hm, hrun, Result.andThen]
  exact hK' _ _ hK
section
variable {P : Program} {c : Code} {a : Act} {Q : Exit → Act → World → Prop} {W : World} {g : Nat} {T : TypeId}
theorem settleC1 {c0 v0 : Value} (hb : W.heap[g]? = some (.cells #[c0] T (0, 0))) (K : ∀ w', w'.heap[g]? = some (.cells #[v0] T (0, 0)) → W.grownBy w' (some g) → Code.wp P c Q a w') : Code.wp P c Q a (W.setCell ⟨g, 0, none⟩ v0) :=
  K _ (blk_put hb 0 v0 rfl) (grown_set W g 0 v0)
theorem settleC2 {c0 c1 v0 v1 : Value} (hb : W.heap[g]? = some (.cells #[c0, c1] T (0, 0))) (K : ∀ w', w'.heap[g]? = some (.cells #[v0, v1] T (0, 0)) → W.grownBy w' (some g) → Code.wp P c Q a w') : Code.wp P c Q a ((W.setCell ⟨g, 0, none⟩ v0).setCell ⟨g, 1, none⟩ v1) :=
  K _ (blk_put (blk_put (cs' := #[v0, c1]) hb 0 v0 rfl) 1 v1 rfl) (grown_set2 (grown_set W g 0 v0) 1 v1)
theorem settleC4 {c0 c1 c2 c3 v0 v1 v2 v3 : Value} (hb : W.heap[g]? = some (.cells #[c0, c1, c2, c3] T (0, 0))) (K : ∀ w', w'.heap[g]? = some (.cells #[v0, v1, v2, v3] T (0, 0)) → W.grownBy w' (some g) → Code.wp P c Q a w') : Code.wp P c Q a ((((W.setCell ⟨g, 0, none⟩ v0).setCell ⟨g, 1, none⟩ v1).setCell ⟨g, 2, none⟩ v2).setCell ⟨g, 3, none⟩ v3) :=
  K _ (blk_put (blk_put (cs' := #[v0, v1, v2, c3]) (blk_put (cs' := #[v0, v1, c2, c3]) (blk_put (cs' := #[v0, c1, c2, c3]) hb 0 v0 rfl) 1 v1 rfl) 2 v2 rfl) 3 v3 rfl) (grown_set2 (grown_set2 (grown_set2 (grown_set W g 0 v0) 1 v1) 2 v2) 3 v3)
end

-- NOT PRINTED: function 27 (change_List_1)

/-! ### slices_Equal_string_string: function 28 -/
def slices_Equal_string_string.l0 : Nat → List ByteArray → List ByteArray → Int → Int → Option (Bool)
  | 0, _, _, _, _ => none
  | k + 1, x0, x1, x12, x13 => if x13 < x12 then (if 0 ≤ x13 then (if x13 < (x0.length : Int) then (if x13 < (x1.length : Int) then (if (rdOf ByteArray.empty x0 x13).toList = (rdOf ByteArray.empty x1 x13).toList then (slices_Equal_string_string.l0 k x0 x1 x12 (wrap64 (x13 + 1))) else (some false)) else (none)) else (none)) else (none)) else (some true)
def slices_Equal_string_string.f (k : Nat) (l0 : List ByteArray) (l1 : List ByteArray) : Option (Bool) := if (l0.length : Int) = (l1.length : Int) then (slices_Equal_string_string.l0 k l0 l1 (l0.length : Int) 0) else (some false)
theorem slices_Equal_string_string.mono_l : ∀ k, (∀ y0 y1 y2 y3, LeO (slices_Equal_string_string.l0 k y0 y1 y2 y3) (slices_Equal_string_string.l0 (k + 1) y0 y1 y2 y3))
  | 0 => fun _ _ _ _ r h => by simp [slices_Equal_string_string.l0] at h
  | k + 1 => by
    have ih0 := slices_Equal_string_string.mono_l k
    · intro y0 y1 y2 y3
      unfold slices_Equal_string_string.l0
      repeat' first
      | (with_reducible exact ih0 _ _ _ _)
      | (with_reducible exact LeO.refl _)
      | (with_reducible exact LeO.none _)
      | (with_reducible refine LeO.ite ?_ ?_)
      | (with_reducible refine LeO.bind ?_ (fun _ => ?_))
      | exact ih0 _ _ _ _
      | exact LeO.none _
      | refine LeO.ite ?_ ?_
      | refine LeO.bind ?_ (fun _ => ?_)
theorem slices_Equal_string_string.mono : ∀ a0 a1 k, LeO (slices_Equal_string_string.f k a0 a1) (slices_Equal_string_string.f (k + 1) a0 a1) := by
  intro a0 a1 k
  have ih0 := slices_Equal_string_string.mono_l k
  unfold slices_Equal_string_string.f
  repeat' first
      | (with_reducible exact ih0 _ _ _ _)
      | (with_reducible exact LeO.refl _)
      | (with_reducible exact LeO.none _)
      | (with_reducible refine LeO.ite ?_ ?_)
      | (with_reducible refine LeO.bind ?_ (fun _ => ?_))
      | exact ih0 _ _ _ _
      | exact LeO.none _
      | refine LeO.ite ?_ ?_
      | refine LeO.bind ?_ (fun _ => ?_)
set_option maxHeartbeats 8000000 in
set_option maxRecDepth 100000 in
theorem slices_Equal_string_string.calls (k : Nat) (A0 : Option Addr) (c0 : Nat) (l0 : List ByteArray) (A1 : Option Addr) (c1 : Nat) (l1 : List ByteArray) (r : Bool) (w : World) (hr0 : Kd.C Kd.string w A0 l0.length l0) (hc0 : l0.length ≤ c0) (hr1 : Kd.C Kd.string w A1 l1.length l1) (hc1 : l1.length ≤ c1) (h : slices_Equal_string_string.f k l0 l1 = some r) :
    Calls Try.prog 28 #[.slice A0 l0.length c0, .slice A1 l1.length c1] w fun e w' => e = .returned (.bool r) ∧ Drawn0 w w' := by
  have HR0 := Aside0.mk hr0
  have HC0 := Aside0.mk hc0
  clear hr0 hc0
  have HR1 := Aside0.mk hr1
  have HC1 := Aside0.mk hc1
  clear hr1 hc1
  have H : (if (l0.length : Int) = (l1.length : Int) then (slices_Equal_string_string.l0 k l0 l1 (l0.length : Int) 0) else (some false)) = some r := h
  clear h
  by_cases c3 : (l0.length : Int) = (l1.length : Int)
  · rw [if_pos c3] at H
    have c3b0 : ((l0.length : Int) == (l1.length : Int)) = true := beq_iff_eq.mpr c3
    have c3b1 : ((l0.length : Int) != (l1.length : Int)) = false := bne_eq_false_iff_eq.mpr c3
    have c3b2 : (l0.length == l1.length) = true := by first | simpa using c3 | (simp at c3 ⊢; omega)
    clear c3
    have H' := Aside0.mk H
    clear H
    go_enter Try.func28, Try.ntmps28
    go_wp2
    repeat (go_quiet (fail); try go_wp2)
    go_loopg [13] k (fun kq v13 w' => ∃ (x13_1 : Int), v13 = .int .i64 x13_1 ∧ Aside0 (slices_Equal_string_string.l0 kq l0 l1 (l0.length : Int) x13_1 = some r) ∧ Aside0 (kq ≤ k) ∧ Drawn0 w w')
    case atStart => exact ⟨(0), (by first | rfl | (simp; done) | (simp [*]; done)), H', ⟨Nat.le_refl _⟩, by repeat (first | exact Drawn0.refl _ | apply Drawn0.step)⟩
    case round =>
      clear H'
      try clear c1
      try clear c2
      try clear p2
      try clear c3
      try clear c3b0
      try clear c3b1
      try clear c3b2
      obtain ⟨x13_1, rfl, HA, HK1, ⟨m1, rfl⟩⟩ := hrel
      cases gk with
      | zero => exact absurd HA.out (by simp [slices_Equal_string_string.l0])
      | succ k1 =>
        have H := HA.out
        clear HA
        simp only [slices_Equal_string_string.l0] at H
        by_cases c4 : x13_1 < (l0.length : Int)
        · rw [if_pos c4] at H
          have c4b0 : decide (x13_1 < (l0.length : Int)) = true := decide_eq_true c4
          clear c4
          by_cases c5 : 0 ≤ x13_1
          · rw [if_pos c5] at H
            have c5b0 : decide (0 ≤ x13_1) = true := decide_eq_true c5
            clear c5
            by_cases c6 : x13_1 < (l0.length : Int)
            · rw [if_pos c6] at H
              have c6b0 : decide (x13_1 < (l0.length : Int)) = true := decide_eq_true c6
              clear c6
              by_cases c7 : x13_1 < (l1.length : Int)
              · rw [if_pos c7] at H
                have c7b0 : decide (x13_1 < (l1.length : Int)) = true := decide_eq_true c7
                clear c7
                by_cases c8 : (rdOf ByteArray.empty l0 x13_1).toList = (rdOf ByteArray.empty l1 x13_1).toList
                · rw [if_pos c8] at H
                  have c8b0 : ((rdOf ByteArray.empty l0 x13_1).toList == (rdOf ByteArray.empty l1 x13_1).toList) = true := beq_iff_eq.mpr c8
                  have c8b1 : ((rdOf ByteArray.empty l0 x13_1).toList != (rdOf ByteArray.empty l1 x13_1).toList) = false := bne_eq_false_iff_eq.mpr c8
                  clear c8
                  have H' := Aside0.mk H
                  clear H
                  have p101 : 0 ≤ (x13_1 : Int) := of_decide_eq_true (by first | (with_reducible assumption) | assumption)
                  have q101 : x13_1 < (l0.length : Int) := of_decide_eq_true (by first | (with_reducible assumption) | assumption)
                  obtain ⟨ad101, e101, hx101_0⟩ := Kd.at_string HR0.out x13_1 p101 q101
                  cases e101
                  replace p101 := eq_true p101
                  replace q101 := eq_true q101
                  have p102 : 0 ≤ (x13_1 : Int) := of_decide_eq_true (by first | (with_reducible assumption) | assumption)
                  have q102 : x13_1 < (l1.length : Int) := of_decide_eq_true (by first | (with_reducible assumption) | assumption)
                  obtain ⟨ad102, e102, hx102_0⟩ := Kd.at_string HR1.out x13_1 p102 q102
                  cases e102
                  replace p102 := eq_true p102
                  replace q102 := eq_true q102
                  go_wp2
                  repeat (go_quiet (fail); try go_wp2)
                  go_roundg k1
                  case measure => have := HK1.out; omega
                  case rel => exact ⟨(wrap64 (x13_1 + 1)), (by first | rfl | (simp; done) | (simp [*]; done)), H', ⟨by have := HK1.out; omega⟩, by repeat (first | exact Drawn0.refl _ | apply Drawn0.step)⟩
                · rw [if_neg c8] at H
                  have c8b0 : ((rdOf ByteArray.empty l0 x13_1).toList == (rdOf ByteArray.empty l1 x13_1).toList) = false := beq_eq_false_iff_ne.mpr c8
                  have c8b1 : ((rdOf ByteArray.empty l0 x13_1).toList != (rdOf ByteArray.empty l1 x13_1).toList) = true := bne_iff_ne.mpr c8
                  obtain rfl := Option.some.inj H
                  have p101 : 0 ≤ (x13_1 : Int) := of_decide_eq_true (by first | (with_reducible assumption) | assumption)
                  have q101 : x13_1 < (l0.length : Int) := of_decide_eq_true (by first | (with_reducible assumption) | assumption)
                  obtain ⟨ad101, e101, hx101_0⟩ := Kd.at_string HR0.out x13_1 p101 q101
                  cases e101
                  replace p101 := eq_true p101
                  replace q101 := eq_true q101
                  have p102 : 0 ≤ (x13_1 : Int) := of_decide_eq_true (by first | (with_reducible assumption) | assumption)
                  have q102 : x13_1 < (l1.length : Int) := of_decide_eq_true (by first | (with_reducible assumption) | assumption)
                  obtain ⟨ad102, e102, hx102_0⟩ := Kd.at_string HR1.out x13_1 p102 q102
                  cases e102
                  replace p102 := eq_true p102
                  replace q102 := eq_true q102
                  go_wp2
                  repeat (go_quiet (fail); try go_wp2)
                  go_ret
                  exact ⟨by first | rfl | (simp; done) | (simp [*]; done), by repeat (first | exact Drawn0.refl _ | apply Drawn0.step)⟩
              · rw [if_neg c7] at H
                exact absurd H (by simp)
            · rw [if_neg c6] at H
              exact absurd H (by simp)
          · rw [if_neg c5] at H
            exact absurd H (by simp)
        · rw [if_neg c4] at H
          have c4b0 : decide (x13_1 < (l0.length : Int)) = false := decide_eq_false c4
          clear c4
          obtain rfl := Option.some.inj H
          go_wp2
          repeat (go_quiet (fail); try go_wp2)
          go_ret
          exact ⟨by first | rfl | (simp; done) | (simp [*]; done), by repeat (first | exact Drawn0.refl _ | apply Drawn0.step)⟩
  · rw [if_neg c3] at H
    have c3b0 : ((l0.length : Int) == (l1.length : Int)) = false := beq_eq_false_iff_ne.mpr c3
    have c3b1 : ((l0.length : Int) != (l1.length : Int)) = true := bne_iff_ne.mpr c3
    have c3b2 : (l0.length == l1.length) = false := by first | simpa using c3 | (simp at c3 ⊢; omega)
    obtain rfl := Option.some.inj H
    go_enter Try.func28, Try.ntmps28
    go_wp2
    repeat (go_quiet (fail); try go_wp2)
    go_ret
    exact ⟨by first | rfl | (simp; done) | (simp [*]; done), by repeat (first | exact Drawn0.refl _ | apply Drawn0.step)⟩

/-! ### slices_Equal_int_int: function 29 -/
def slices_Equal_int_int.l0 : Nat → List Int → List Int → Int → Int → Option (Bool)
  | 0, _, _, _, _ => none
  | k + 1, x0, x1, x12, x13 => if x13 < x12 then (if 0 ≤ x13 then (if x13 < (x0.length : Int) then (if x13 < (x1.length : Int) then (if (rd x0 x13) = (rd x1 x13) then (slices_Equal_int_int.l0 k x0 x1 x12 (wrap64 (x13 + 1))) else (some false)) else (none)) else (none)) else (none)) else (some true)
def slices_Equal_int_int.f (k : Nat) (l0 : List Int) (l1 : List Int) : Option (Bool) := if (l0.length : Int) = (l1.length : Int) then (slices_Equal_int_int.l0 k l0 l1 (l0.length : Int) 0) else (some false)
theorem slices_Equal_int_int.mono_l : ∀ k, (∀ y0 y1 y2 y3, LeO (slices_Equal_int_int.l0 k y0 y1 y2 y3) (slices_Equal_int_int.l0 (k + 1) y0 y1 y2 y3))
  | 0 => fun _ _ _ _ r h => by simp [slices_Equal_int_int.l0] at h
  | k + 1 => by
    have ih0 := slices_Equal_int_int.mono_l k
    · intro y0 y1 y2 y3
      unfold slices_Equal_int_int.l0
      repeat' first
      | (with_reducible exact ih0 _ _ _ _)
      | (with_reducible exact LeO.refl _)
      | (with_reducible exact LeO.none _)
      | (with_reducible refine LeO.ite ?_ ?_)
      | (with_reducible refine LeO.bind ?_ (fun _ => ?_))
      | exact ih0 _ _ _ _
      | exact LeO.none _
      | refine LeO.ite ?_ ?_
      | refine LeO.bind ?_ (fun _ => ?_)
theorem slices_Equal_int_int.mono : ∀ a0 a1 k, LeO (slices_Equal_int_int.f k a0 a1) (slices_Equal_int_int.f (k + 1) a0 a1) := by
  intro a0 a1 k
  have ih0 := slices_Equal_int_int.mono_l k
  unfold slices_Equal_int_int.f
  repeat' first
      | (with_reducible exact ih0 _ _ _ _)
      | (with_reducible exact LeO.refl _)
      | (with_reducible exact LeO.none _)
      | (with_reducible refine LeO.ite ?_ ?_)
      | (with_reducible refine LeO.bind ?_ (fun _ => ?_))
      | exact ih0 _ _ _ _
      | exact LeO.none _
      | refine LeO.ite ?_ ?_
      | refine LeO.bind ?_ (fun _ => ?_)
set_option maxHeartbeats 8000000 in
set_option maxRecDepth 100000 in
theorem slices_Equal_int_int.calls (k : Nat) (A0 : Option Addr) (c0 : Nat) (l0 : List Int) (A1 : Option Addr) (c1 : Nat) (l1 : List Int) (r : Bool) (w : World) (hr0 : Kd.C (Kd.int .i64) w A0 l0.length l0) (hc0 : l0.length ≤ c0) (hr1 : Kd.C (Kd.int .i64) w A1 l1.length l1) (hc1 : l1.length ≤ c1) (h : slices_Equal_int_int.f k l0 l1 = some r) :
    Calls Try.prog 29 #[.slice A0 l0.length c0, .slice A1 l1.length c1] w fun e w' => e = .returned (.bool r) ∧ Drawn0 w w' := by
  have HR0 := Aside0.mk hr0
  have HC0 := Aside0.mk hc0
  clear hr0 hc0
  have HR1 := Aside0.mk hr1
  have HC1 := Aside0.mk hc1
  clear hr1 hc1
  have H : (if (l0.length : Int) = (l1.length : Int) then (slices_Equal_int_int.l0 k l0 l1 (l0.length : Int) 0) else (some false)) = some r := h
  clear h
  by_cases c3 : (l0.length : Int) = (l1.length : Int)
  · rw [if_pos c3] at H
    have c3b0 : ((l0.length : Int) == (l1.length : Int)) = true := beq_iff_eq.mpr c3
    have c3b1 : ((l0.length : Int) != (l1.length : Int)) = false := bne_eq_false_iff_eq.mpr c3
    have c3b2 : (l0.length == l1.length) = true := by first | simpa using c3 | (simp at c3 ⊢; omega)
    clear c3
    have H' := Aside0.mk H
    clear H
    go_enter Try.func29, Try.ntmps29
    go_wp2
    repeat (go_quiet (fail); try go_wp2)
    go_loopg [13] k (fun kq v13 w' => ∃ (x13_1 : Int), v13 = .int .i64 x13_1 ∧ Aside0 (slices_Equal_int_int.l0 kq l0 l1 (l0.length : Int) x13_1 = some r) ∧ Aside0 (kq ≤ k) ∧ Drawn0 w w')
    case atStart => exact ⟨(0), (by first | rfl | (simp; done) | (simp [*]; done)), H', ⟨Nat.le_refl _⟩, by repeat (first | exact Drawn0.refl _ | apply Drawn0.step)⟩
    case round =>
      clear H'
      try clear c1
      try clear c2
      try clear p2
      try clear c3
      try clear c3b0
      try clear c3b1
      try clear c3b2
      obtain ⟨x13_1, rfl, HA, HK1, ⟨m1, rfl⟩⟩ := hrel
      cases gk with
      | zero => exact absurd HA.out (by simp [slices_Equal_int_int.l0])
      | succ k1 =>
        have H := HA.out
        clear HA
        simp only [slices_Equal_int_int.l0] at H
        by_cases c4 : x13_1 < (l0.length : Int)
        · rw [if_pos c4] at H
          have c4b0 : decide (x13_1 < (l0.length : Int)) = true := decide_eq_true c4
          clear c4
          by_cases c5 : 0 ≤ x13_1
          · rw [if_pos c5] at H
            have c5b0 : decide (0 ≤ x13_1) = true := decide_eq_true c5
            clear c5
            by_cases c6 : x13_1 < (l0.length : Int)
            · rw [if_pos c6] at H
              have c6b0 : decide (x13_1 < (l0.length : Int)) = true := decide_eq_true c6
              clear c6
              by_cases c7 : x13_1 < (l1.length : Int)
              · rw [if_pos c7] at H
                have c7b0 : decide (x13_1 < (l1.length : Int)) = true := decide_eq_true c7
                clear c7
                by_cases c8 : (rd l0 x13_1) = (rd l1 x13_1)
                · rw [if_pos c8] at H
                  have c8b0 : ((rd l0 x13_1) == (rd l1 x13_1)) = true := beq_iff_eq.mpr c8
                  have c8b1 : ((rd l0 x13_1) != (rd l1 x13_1)) = false := bne_eq_false_iff_eq.mpr c8
                  clear c8
                  have H' := Aside0.mk H
                  clear H
                  have p103 : 0 ≤ (x13_1 : Int) := of_decide_eq_true (by first | (with_reducible assumption) | assumption)
                  have q103 : x13_1 < (l0.length : Int) := of_decide_eq_true (by first | (with_reducible assumption) | assumption)
                  obtain ⟨ad103, e103, hx103_0⟩ := Kd.at_int HR0.out x13_1 p103 q103
                  cases e103
                  replace p103 := eq_true p103
                  replace q103 := eq_true q103
                  have p104 : 0 ≤ (x13_1 : Int) := of_decide_eq_true (by first | (with_reducible assumption) | assumption)
                  have q104 : x13_1 < (l1.length : Int) := of_decide_eq_true (by first | (with_reducible assumption) | assumption)
                  obtain ⟨ad104, e104, hx104_0⟩ := Kd.at_int HR1.out x13_1 p104 q104
                  cases e104
                  replace p104 := eq_true p104
                  replace q104 := eq_true q104
                  go_wp2
                  repeat (go_quiet (fail); try go_wp2)
                  go_roundg k1
                  case measure => have := HK1.out; omega
                  case rel => exact ⟨(wrap64 (x13_1 + 1)), (by first | rfl | (simp; done) | (simp [*]; done)), H', ⟨by have := HK1.out; omega⟩, by repeat (first | exact Drawn0.refl _ | apply Drawn0.step)⟩
                · rw [if_neg c8] at H
                  have c8b0 : ((rd l0 x13_1) == (rd l1 x13_1)) = false := beq_eq_false_iff_ne.mpr c8
                  have c8b1 : ((rd l0 x13_1) != (rd l1 x13_1)) = true := bne_iff_ne.mpr c8
                  obtain rfl := Option.some.inj H
                  have p103 : 0 ≤ (x13_1 : Int) := of_decide_eq_true (by first | (with_reducible assumption) | assumption)
                  have q103 : x13_1 < (l0.length : Int) := of_decide_eq_true (by first | (with_reducible assumption) | assumption)
                  obtain ⟨ad103, e103, hx103_0⟩ := Kd.at_int HR0.out x13_1 p103 q103
                  cases e103
                  replace p103 := eq_true p103
                  replace q103 := eq_true q103
                  have p104 : 0 ≤ (x13_1 : Int) := of_decide_eq_true (by first | (with_reducible assumption) | assumption)
                  have q104 : x13_1 < (l1.length : Int) := of_decide_eq_true (by first | (with_reducible assumption) | assumption)
                  obtain ⟨ad104, e104, hx104_0⟩ := Kd.at_int HR1.out x13_1 p104 q104
                  cases e104
                  replace p104 := eq_true p104
                  replace q104 := eq_true q104
                  go_wp2
                  repeat (go_quiet (fail); try go_wp2)
                  go_ret
                  exact ⟨by first | rfl | (simp; done) | (simp [*]; done), by repeat (first | exact Drawn0.refl _ | apply Drawn0.step)⟩
              · rw [if_neg c7] at H
                exact absurd H (by simp)
            · rw [if_neg c6] at H
              exact absurd H (by simp)
          · rw [if_neg c5] at H
            exact absurd H (by simp)
        · rw [if_neg c4] at H
          have c4b0 : decide (x13_1 < (l0.length : Int)) = false := decide_eq_false c4
          clear c4
          obtain rfl := Option.some.inj H
          go_wp2
          repeat (go_quiet (fail); try go_wp2)
          go_ret
          exact ⟨by first | rfl | (simp; done) | (simp [*]; done), by repeat (first | exact Drawn0.refl _ | apply Drawn0.step)⟩
  · rw [if_neg c3] at H
    have c3b0 : ((l0.length : Int) == (l1.length : Int)) = false := beq_eq_false_iff_ne.mpr c3
    have c3b1 : ((l0.length : Int) != (l1.length : Int)) = true := bne_iff_ne.mpr c3
    have c3b2 : (l0.length == l1.length) = false := by first | simpa using c3 | (simp at c3 ⊢; omega)
    obtain rfl := Option.some.inj H
    go_enter Try.func29, Try.ntmps29
    go_wp2
    repeat (go_quiet (fail); try go_wp2)
    go_ret
    exact ⟨by first | rfl | (simp; done) | (simp [*]; done), by repeat (first | exact Drawn0.refl _ | apply Drawn0.step)⟩

/-! ### tree_texts: function 77 (by hand) -/
def tree_texts.f (l : List ByteArray) : Option (List ByteArray) := if l.length ≤ 1000000 then some l else none
set_option maxHeartbeats 4000000 in
set_option maxRecDepth 100000 in
theorem tree_texts.calls (A0 : Option Addr) (c0 : Nat) (l0 : List ByteArray) (r : List ByteArray) (w : World) (hr0 : Kd.C Kd.string w A0 l0.length l0) (hc0 : l0.length ≤ c0) (h : tree_texts.f l0 = some r) :
    Calls Try.prog 77 #[.slice A0 l0.length c0] w fun e w' => ∃ v0_ : Value, e = .returned (v0_) ∧ Kd.R Kd.string 9 w' w.heap.size (fun _ => True) v0_ r ∧ Below w.heap.size w w' := by
  unfold tree_texts.f at h
  split at h
  case isFalse => cases h
  rename_i hl
  obtain rfl := Option.some.inj h
  clear h
  by_cases c : l0.length = 0
  · have e1 : ((l0.length : Int) == 0) = true := beq_iff_eq.mpr (by omega)
    have e0 : l0 = [] := List.length_eq_zero_iff.1 c
    have HE := Aside0.mk e0
    clear e0 c
    go_enter Try.func77, Try.ntmps77
    go_wp2
    go_ret
    exact ⟨_, rfl, by rw [HE.out]; exact Kd.R_nil _ _ _ _ _, Below.refl _ _⟩
  · have e1 : ((l0.length : Int) == 0) = false := beq_eq_false_iff_ne.mpr (by omega)
    have HR0 := Aside0.mk hr0
    clear hr0 c
    go_enter Try.func77, Try.ntmps77
    go_wp2_with (first
        | ((with_reducible refine gate_dst (N := 9) rfl ?_); refine Kd.R_make Kd.string (w0 := w) w.heap.size 9 rfl (N := 9) rfl 22 _ _ rfl (l0.length : Int) rfl rfl Try.underlying22 (.string ⟨#[]⟩) 16 info9 rfl (by decide) (by omega) (⟨#[]⟩ : ByteArray) (ok := fun _ => True) (okp := fun _ => True) rfl (fun _ hk => hk) trivial (by omega) (by omega) (Below.refl _ _) (Nat.le_refl _) ?_; intro v9 w6 ho6 hb6 hg6 hn6; simp only [Int.toNat_natCast] at ho6; obtain ⟨A6, c6, rfl⟩ := Kd.R_slice ho6; rw [List.length_replicate] at ho6; rw [List.length_replicate]; have HO6 := Aside0.mk ho6; have HB6 := Aside0.mk hb6; have HR0f := Aside0.mk (Kd.C_below HR0.out hb6); clear hn6 hg6 ho6 hb6)
        | ((with_reducible refine gate_builtin (b := .copy) (xs := #[.tmp 10, .tmp 11]) rfl ?_); refine Kd.R_copy (h1 := fun _ => rfl) (⟨#[]⟩ : ByteArray) (w0 := w) w.heap.size rfl (.tmp 10) (.tmp 11) 22 22 9 rfl Try.underlying22 (by kernel_rfl) (.slice A6 l0.length c6) (List.replicate l0.length (⟨#[]⟩ : ByteArray)) l0 A0 l0.length c0 (fun _ => True) rfl rfl HO6.out HR0f.out HB6.out HB6.out.size ?_; intro w7 ho7 hb7 hg7; have HO7 := Aside0.mk ho7; have HB7 := Aside0.mk hb7; clear ho7 hb7 hg7))
    go_ret
    refine ⟨_, rfl, ?_, HB7.out⟩
    have ho := HO7.out
    rw [List.length_replicate, Nat.min_self, List.take_length, List.drop_of_length_le (by rw [List.length_replicate]; exact Nat.le_refl _), List.append_nil] at ho
    exact ho

end Go.Proofs.Ytcfjdehpbckomaa.Q
