
import Derived.Test.YtcfjdehpbckomaaQ0
namespace Go.Proofs.Ytcfjdehpbckomaa.Q
open Go.RowKit Go.Proofs.YtcfjdehpbckomaaW.dS Go.Proofs.YtcfjdehpbckomaaW.jm Go.Proofs.YtcfjdehpbckomaaW.mm
attribute [local go_sem] mU na nt mX m6 nu mP mW
set_option linter.unusedVariables false
set_option linter.unusedSimpArgs false
def uS (w : World) (g : Nat) (cs : Array Value) : Prop := ∃ t fr, w.heap[g]? = some (.cells cs t fr)
theorem uS.lt {w : World} {g : Nat} {cs : Array Value} (h : uS w g cs) : g < w.heap.size := by
 obtain ⟨t, fr, h⟩ := h
 exact (Array.getElem?_eq_some_iff.mp h).1
theorem uS.below {w w' : World} {g : Nat} {cs : Array Value} (hb : Below w.heap.size w w') (h : uS w g cs) : uS w' g cs := by
 have hl := h.lt
 obtain ⟨t, fr, h⟩ := h
 exact ⟨t, fr, (hb.block g hl).trans h⟩
theorem uS.drawn {w w' : World} {g : Nat} {cs : Array Value} (hb : bL w w') (h : uS w g cs) : uS w' g cs := by
 obtain ⟨n, rfl⟩ := hb.out
 obtain ⟨t, fr, h⟩ := h
 exact ⟨t, fr, by simpa using h⟩
/-! ### Maps: a block that is a map, as a list of keys and values -/
def k8 {κ : Type} (enc : κ → Value) (es : List MapEntry) (l : List (κ × Value)) : Prop := es.map (fun e => (e.key, e.val)) = l.map (fun p => (enc p.1, p.2))
def MapAt {κ : Type} (enc : κ → Value) (w : World) (b : Nat) (l : List (κ × Value)) : Prop := ∃ es clock, w.heap[b]? = some (.map es clock) ∧ k8 enc es.toList l
def lF {κ : Type} [DecidableEq κ] : List (κ × Value) → κ → Option Value
 | [], _ => none
 | p :: l, k => if k = p.1 then some p.2 else lF l k
def oB {κ : Type} [DecidableEq κ] : List (κ × Value) → κ → Value → List (κ × Value)
 | [], k, v => [(k, v)]
 | p :: l, k, v => if k = p.1 then (k, v) :: l else p :: oB l k v
def afY {κ : Type} [DecidableEq κ] : List (κ × Value) → κ → List (κ × Value)
 | [], _ => []
 | p :: l, k => if k = p.1 then l else p :: afY l k
def pN {κ : Type} [DecidableEq κ] : List (κ × Value) → κ → Nat → Option (Nat × Value)
 | [], _, _ => none
 | p :: l, k, i => if k = p.1 then some (i, p.2) else pN l k (i + 1)
structure ej {κ : Type} [DecidableEq κ] (P : Program) (K : TypeId) (enc : κ → Value) : Prop where
 check : ∀ (b : Bool) (k : κ) (w : World), (Instr.checkKey b 10000 K (enc k)).run P w = .ok () w
 find : ∀ (k : κ) (es : List MapEntry) (l : List (κ × Value)) (w : World), k8 enc es l → (Instr.findKey K (enc k) es).run P w = .ok (pN l k 0) w
 same : ∀ k : κ, Instr.sameBits 10000 (enc k) (enc k) = true
theorem k8.nil {κ : Type} (enc : κ → Value) : k8 enc [] ([] : List (κ × Value)) := rfl
theorem k8.cons_inv {κ : Type} {enc : κ → Value} {es : List MapEntry} {p : κ × Value} {l : List (κ × Value)} (h : k8 enc es (p :: l)) : ∃ e r, es = e :: r ∧ e.key = enc p.1 ∧ e.val = p.2 ∧ k8 enc r l := by
 cases es with
 | nil => simp [k8] at h
 | cons e r =>
  simp only [k8, List.map_cons, List.cons.injEq, Prod.mk.injEq] at h
  exact ⟨e, r, rfl, h.1.1, h.1.2, h.2⟩
theorem k8.XL {κ : Type} {enc : κ → Value} {es : List MapEntry} (h : k8 enc es ([] : List (κ × Value))) : es = [] := by
 simpa [k8] using h
theorem k8.length {κ : Type} {enc : κ → Value} {es : List MapEntry} {l : List (κ × Value)} (h : k8 enc es l) : es.length = l.length := by
 have := congrArg List.length h
 simpa using this
theorem Vf {κ : Type} [DecidableEq κ] (k : κ) : ∀ (l : List (κ × Value)) (i : Nat), (pN l k i).map (·.2) = lF l k
 | [], _ => rfl
 | p :: l, i => by
  simp only [pN, lF]
  split
  ·rfl
  ·exact Vf k l (i + 1)
theorem QV {κ : Type} [DecidableEq κ] {enc : κ → Value} {d : TypeDesc} (hs : ∀ a b : κ, Instr.sameNow d (enc a) (enc b) = some (decide (a = b))) (k : κ) : ∀ (l : List (κ × Value)) (es : List MapEntry) (i : Nat), k8 enc es l → Instr.findNow d (enc k) es i = some (pN l k i)
 | [], es, i, h => by
  rw [h.XL]
  rfl
 | p :: l, es, i, h => by
  obtain ⟨e, r, rfl, h1, h2, h3⟩ := h.cons_inv
  simp only [Instr.findNow, pN, h1, hs]
  by_cases hk : k = p.1
  ·rw [if_pos hk, decide_eq_true hk, h2]
  ·rw [if_neg hk, decide_eq_false hk]
   exact QV hs k l r (i + 1) h3
theorem VT {P : Program} {K : TypeId} {d : TypeDesc} {v : Value} (hK : P.underlying K = some d) (hd : (match d with | .int _ | .string | .bool => true | _ => false) = true) (b : Bool) (w : World) : (Instr.checkKey b 10000 K v).run P w = .ok () w := by
 unfold Instr.checkKey
 rw [Sem.run_bind, run_underlying hK w]
 cases d <;> simp_all
theorem X7 {P : Program} {K : TypeId} {d : TypeDesc} {v : Value} {es : List MapEntry} {r : Option (Nat × Value)} (hK : P.underlying K = some d) (h : Instr.findNow d v es 0 = some r) (w : World) : (Instr.findKey K v es).run P w = .ok r w := by
 unfold Instr.findKey
 rw [Sem.run_bind, run_underlying hK w]
 simp [h]
theorem ej.int {P : Program} {K : TypeId} {q : IntKind} (hK : P.underlying K = some (.int q)) : ej P K (fun a : Int => .int q a) :=
 ⟨fun b k w => VT hK rfl b w, fun k es l w h => X7 hK (QV (fun a b => by simp only [Instr.sameNow, if_true]; rfl) k l es 0 h) w, fun k => by simp [Instr.sameBits]⟩
theorem bytes_beq (a b : ByteArray) : (a == b) = decide (a = b) := by
 have h : (a == b) = (a.data == b.data) := rfl
 rw [h, Bool.eq_iff_iff, beq_iff_eq, decide_eq_true_iff]
 exact ⟨fun h => by cases a; cases b; simp_all, fun h => by rw [h]⟩
theorem ej.string {P : Program} {K : TypeId} (hK : P.underlying K = some .string) : ej P K (fun s : ByteArray => .string s) :=
 ⟨fun b k w => VT hK rfl b w, fun k es l w h => X7 hK (QV (fun a b => by simp only [Instr.sameNow, bytes_beq]) k l es 0 h) w, fun k => by simp [Instr.sameBits, bytes_beq]⟩
theorem MapAt.new {κ : Type} (enc : κ → Value) (w : World) : MapAt enc (w.alloc (.map #[] 0)) w.heap.size ([] : List (κ × Value)) := ⟨#[], 0, heap_alloc_new w _, rfl⟩
theorem MapAt.keep {κ : Type} {enc : κ → Value} {w w' : World} {b : Nat} {l : List (κ × Value)} (h : MapAt enc w b l) (hk : w'.heap[b]? = w.heap[b]?) : MapAt enc w' b l := by
 obtain ⟨es, c, h1, h2⟩ := h
 exact ⟨es, c, hk.trans h1, h2⟩
theorem MapAt.lt {κ : Type} {enc : κ → Value} {w : World} {b : Nat} {l : List (κ × Value)} (h : MapAt enc w b l) : b < w.heap.size := by
 obtain ⟨es, c, h1, h2⟩ := h
 exact (Array.getElem?_eq_some_iff.1 h1).1
theorem MapAt.below {κ : Type} {enc : κ → Value} {w w' : World} {b : Nat} {l : List (κ × Value)} (h : MapAt enc w b l) (hb : Below w.heap.size w w') : MapAt enc w' b l := h.keep (hb.block b h.lt)
theorem MapAt.alloc {κ : Type} {enc : κ → Value} {w : World} {b : Nat} {l : List (κ × Value)} (h : MapAt enc w b l) (o : Obj) : MapAt enc (w.alloc o) b l := h.keep (Below.heap_alloc w o b h.lt)
theorem MapAt.drewN {κ : Type} {enc : κ → Value} {w : World} {b : Nat} {l : List (κ × Value)} (h : MapAt enc w b l) (n : Nat) : MapAt enc (w.drewN n) b l := h.keep (by simp)
theorem MapAt.grown {κ : Type} {enc : κ → Value} {w w' : World} {b : Nat} {l : List (κ × Value)} {row : Option Nat} (h : MapAt enc w b l) (hg : w.grownBy w' row) (hne : some b ≠ row) : MapAt enc w' b l := h.keep (hg.block b h.lt hne)
theorem Wx {κ : Type} [DecidableEq κ] {P : Program} {T K E : TypeId} {enc : κ → Value} (hk : ej P K enc) (hT : P.underlying T = some (.map K E)) {w : World} {z : Value} (hz : (zeroValue E).run P w = .ok z w) {b : Nat} {l : List (κ × Value)} (h : MapAt enc w b l) (k : κ) (c : Bool) :
  (Instr.lookup T (.map (some b)) (enc k) c).run P w = .ok (if c then .tuple #[(lF l k).getD z, .bool (lF l k).isSome] else (lF l k).getD z) w := by
 obtain ⟨es, clock, h1, h2⟩ := h
 have hgo : (getObj b).run P w = .ok (.map es clock) w := by simp [getObj, Sem.run, h1]
 unfold Instr.lookup
 rw [Sem.run_bind, run_underlying hT w]
 simp only [Result.andThen_ok, Sem.run_bind, hgo, hk.check, Sem.run_pure]
 rw [hk.find k es.toList l w h2, ← Vf k l 0]
 cases pN l k 0 with
 | none => simp [hz]
 | some p => simp
theorem Z1 {κ : Type} [DecidableEq κ] {P : Program} {w : World} {ops : Array Oper} {rest : List Oper} {o : Oper} {a : Act} {Q : Exit → Act → World → Prop} {enc : κ → Value} {T K E : TypeId} {c : Bool}
  (hg : o.guard = none) (m x : Operand) (hop : o.op = Op.lookup T m x c) (hk : ej P K enc) (hT : P.underlying T = some (.map K E)) {z : Value} (hz : (zeroValue E).run P w = .ok z w) {b : Nat} {l : List (κ × Value)}
  (hm : a.eval m = .map (some b)) (h : MapAt enc w b l) (k : κ) (hx : a.eval x = enc k)
  (hK : wpList P ops Q rest (a.put o.dst (if c then .tuple #[(lF l k).getD z, .bool (lF l k).isSome] else (lF l k).getD z)) w) : wpList P ops Q (o :: rest) a w := by
 refine wpList_plain hg fun K' hK' => ?_
 have hrun := Wx hk hT hz h k c
 unfold Oper.wp
 simp only [execOp, hop, hm, hx, hrun, Result.andThen, Sem.run_bind, Sem.run_pure]
 exact hK' _ _ hK
theorem Sz {κ : Type} [DecidableEq κ] {enc : κ → Value} (k : κ) (v : Value) : ∀ (l : List (κ × Value)) (es : List MapEntry) (i : Nat) (r : Nat × Value), k8 enc es l → pN l k i = some r → i ≤ r.1 ∧ (∃ e, es[r.1 - i]? = some e ∧ e.key = enc k) ∧ k8 enc (es.modify (r.1 - i) fun e => { e with key := enc k, val := v }) (oB l k v)
 | [], _, _, _, _, h => by simp [pN] at h
 | p :: l, es, i, r, h, hf => by
  obtain ⟨e, s, rfl, h1, h2, h3⟩ := h.cons_inv
  simp only [pN] at hf
  by_cases hk : k = p.1
  ·rw [if_pos hk] at hf
   obtain rfl := Option.some.inj hf
   refine ⟨Nat.le_refl _, ⟨e, by simp, by rw [h1, hk]⟩, ?_⟩
   simp only [Nat.sub_self, List.modify_zero_cons, oB, if_pos hk]
   simp only [k8, List.map_cons] at h3 ⊢
   rw [h3]
  ·rw [if_neg hk] at hf
   obtain ⟨q1, ⟨e', q2, q3⟩, q4⟩ := Sz k v l s (i + 1) r h3 hf
   obtain ⟨m, hm⟩ : ∃ m, r.1 - i = m + 1 := ⟨r.1 - (i + 1), by omega⟩
   have hm' : r.1 - (i + 1) = m := by omega
   rw [hm'] at q2 q4
   refine ⟨by omega, ⟨e', by rw [hm]; simpa using q2, q3⟩, ?_⟩
   rw [hm]
   simp only [List.modify_succ_cons, oB, if_neg hk]
   simp only [k8, List.map_cons] at q4 ⊢
   rw [q4, h1, h2]
theorem UO {κ : Type} [DecidableEq κ] {enc : κ → Value} (k : κ) (v : Value) (n : Nat) : ∀ (l : List (κ × Value)) (es : List MapEntry) (i : Nat), k8 enc es l → pN l k i = none → k8 enc (es ++ [{ key := enc k, val := v, born := n }]) (oB l k v)
 | [], es, _, h, _ => by
  rw [h.XL]
  rfl
 | p :: l, es, i, h, hf => by
  obtain ⟨e, s, rfl, h1, h2, h3⟩ := h.cons_inv
  simp only [pN] at hf
  by_cases hk : k = p.1
  ·rw [if_pos hk] at hf
   exact absurd hf (by simp)
  ·rw [if_neg hk] at hf
   have := UO k v n l s (i + 1) h3 hf
   simp only [k8, List.map_cons, List.cons_append, oB, if_neg hk] at this ⊢
   rw [this, h1, h2]
theorem Ve {κ : Type} [DecidableEq κ] {P : Program} {T K E : TypeId} {enc : κ → Value} (hk : ej P K enc) (hT : P.underlying T = some (.map K E)) {w : World} {b : Nat} {l : List (κ × Value)} (h : MapAt enc w b l) (k : κ) (v : Value) :
  ∃ w', (Instr.mapUpdate T (.map (some b)) (enc k) v).run P w = .ok () w' ∧ MapAt enc w' b (oB l k v) ∧ w.grownBy w' (some b) := by
 obtain ⟨es, clock, h1, h2⟩ := h
 have hgo : (getObj b).run P w = .ok (.map es clock) w := by simp [getObj, Sem.run, h1]
 have hset : ∀ o : Obj, (setObj b o).run P w = .ok () (ChangeMaps.setBlock w b o) := fun o => MapKept.run_setObj_map o h1
 have hgr : ∀ o : Obj, w.grownBy (ChangeMaps.setBlock w b o) (some b) := fun o => ⟨rfl, rfl, rfl, by simp [ChangeMaps.setBlock], fun i _ hi => ChangeMaps.heap_setBlock_other h1 _ (fun e => hi (by rw [e]))⟩
 cases hf : pN l k 0 with
 | none =>
  refine ⟨ChangeMaps.setBlock w b (.map (es.push { key := enc k, val := v, born := clock }) (clock + 1)), ?_, ⟨_, _, ChangeMaps.heap_setBlock_same h1 _, ?_⟩, hgr _⟩
  ·unfold Instr.mapUpdate
   rw [Sem.run_bind, run_underlying hT w]
   simp only [Result.andThen_ok, Sem.run_bind, hgo, hk.check, hk.find k es.toList l w h2, hf, hset]
  ·rw [Array.toList_push]
   exact UO k v clock l es.toList 0 h2 hf
 | some r =>
  obtain ⟨_, ⟨e, q2, q3⟩, q4⟩ := Sz k v l es.toList 0 r h2 hf
  rw [Nat.sub_zero] at q2 q4
  refine ⟨ChangeMaps.setBlock w b (.map (es.modify r.1 fun e => { e with key := enc k, val := v }) clock), ?_, ⟨_, _, ChangeMaps.heap_setBlock_same h1 _, ?_⟩, hgr _⟩
  ·unfold Instr.mapUpdate
   have q2' : es[r.1]? = some e := by simpa using q2
   rw [Sem.run_bind, run_underlying hT w]
   simp only [Result.andThen_ok, Sem.run_bind, hgo, hk.check, hk.find k es.toList l w h2, hf, q2', Option.map_some, Option.getD_some, q3, Instr.keyThatStays, hk.same, if_true, Sem.run_pure, hset]
  ·simpa using q4
theorem acB {κ : Type} [DecidableEq κ] {P : Program} {w : World} {ops : Array Oper} {rest : List Oper} {o : Oper} {a : Act} {Q : Exit → Act → World → Prop} {enc : κ → Value} {T K E : TypeId}
  (hg : o.guard = none) (m x v : Operand) (hop : o.op = Op.mapUpdate T m x v) (hk : ej P K enc) (hT : P.underlying T = some (.map K E)) {b : Nat} {l : List (κ × Value)}
  (hm : a.eval m = .map (some b)) (h : MapAt enc w b l) (k : κ) (hx : a.eval x = enc k) (val : Value) (hv : a.eval v = val)
  (hK : ∀ w', MapAt enc w' b (oB l k val) → w.grownBy w' (some b) → wpList P ops Q rest (a.put o.dst undef) w') : wpList P ops Q (o :: rest) a w := by
 refine wpList_plain hg fun K' hK' => ?_
 obtain ⟨w', hrun, r1, r2⟩ := Ve hk hT h k val
 unfold Oper.wp
 simp [execOp, hop, hm, hx, hv, hrun, Result.andThen]
 exact hK' _ _ (hK w' r1 r2)
theorem aiQ {κ : Type} [DecidableEq κ] (k k' : κ) (v : Value) : ∀ l : List (κ × Value), lF (oB l k v) k' = if k' = k then some v else lF l k'
 | [] => by simp [oB, lF]
 | p :: l => by
  simp only [oB]
  by_cases h : k = p.1
  ·rw [if_pos h]
   simp only [lF]
   by_cases h2 : k' = k
   ·rw [if_pos h2, if_pos h2]
   ·rw [if_neg h2, if_neg h2, if_neg (fun e => h2 (e.trans h.symm))]
  ·rw [if_neg h]
   simp only [lF]
   rw [aiQ k k' v l]
   by_cases h2 : k' = p.1
   ·rw [if_pos h2, if_pos h2, if_neg (fun e => h (e.symm.trans h2))]
   ·rw [if_neg h2, if_neg h2]
section
variable {κ β : Type}
def cK [DecidableEq κ] : List (κ × β) → κ → Option β
 | [], _ => none
 | p :: l, k => if k = p.1 then some p.2 else cK l k
def fG [DecidableEq κ] : List (κ × β) → κ → β → List (κ × β)
 | [], k, v => [(k, v)]
 | p :: l, k, v => if k = p.1 then (k, v) :: l else p :: fG l k v
def mt (V : β → Value → Prop) : List (κ × Value) → List (κ × β) → Prop
 | [], [] => True
 | p :: l, q :: m => p.1 = q.1 ∧ V q.2 p.2 ∧ mt V l m
 | _, _ => False
theorem mt.look [DecidableEq κ] {V : β → Value → Prop} (k : κ) : ∀ {l : List (κ × Value)} {m : List (κ × β)}, mt V l m → (lF l k = none ∧ cK m k = none) ∨ ∃ v x, lF l k = some v ∧ cK m k = some x ∧ V x v
 | [], [], _ => .inl ⟨rfl, rfl⟩
 | p :: l, q :: m, h => by
  obtain ⟨h1, h2, h3⟩ := h
  rw [lF, cK, h1]
  by_cases e : k = q.1
  ·rw [if_pos e, if_pos e]
   exact .inr ⟨_, _, rfl, rfl, h2⟩
  ·rw [if_neg e, if_neg e]
   exact mt.look k h3
 | [], _ :: _, h => h.elim
 | _ :: _, [], h => h.elim
theorem mt.put [DecidableEq κ] {V : β → Value → Prop} (k : κ) {v : Value} {x : β} (hv : V x v) : ∀ {l : List (κ × Value)} {m : List (κ × β)}, mt V l m → mt V (oB l k v) (fG m k x)
 | [], [], _ => ⟨rfl, hv, trivial⟩
 | p :: l, q :: m, h => by
  obtain ⟨h1, h2, h3⟩ := h
  rw [oB, fG, h1]
  by_cases e : k = q.1
  ·rw [if_pos e, if_pos e]
   exact ⟨rfl, hv, h3⟩
  ·rw [if_neg e, if_neg e]
   exact ⟨h1, h2, mt.put k hv h3⟩
 | [], _ :: _, h => h.elim
 | _ :: _, [], h => h.elim
theorem mt.mono {V V' : β → Value → Prop} (hV : ∀ x v, V x v → V' x v) : ∀ {l : List (κ × Value)} {m : List (κ × β)}, mt V l m → mt V' l m
 | [], [], _ => trivial
 | _ :: _, _ :: _, h => ⟨h.1, hV _ _ h.2.1, mt.mono hV h.2.2⟩
 | [], _ :: _, h => h.elim
 | _ :: _, [], h => h.elim
theorem mt.len {V : β → Value → Prop} : ∀ {l : List (κ × Value)} {m : List (κ × β)}, mt V l m → l.length = m.length
 | [], [], _ => rfl
 | _ :: _, _ :: _, h => by rw [List.length_cons, List.length_cons, mt.len h.2.2]
 | [], _ :: _, h => h.elim
 | _ :: _, [], h => h.elim
theorem mt.keys {V : β → Value → Prop} : ∀ {l : List (κ × Value)} {m : List (κ × β)}, mt V l m → l.map (·.1) = m.map (·.1)
 | [], [], _ => rfl
 | _ :: _, _ :: _, h => by rw [List.map_cons, List.map_cons, h.1, mt.keys h.2.2]
 | [], _ :: _, h => h.elim
 | _ :: _, [], h => h.elim
def dd (enc : κ → Value) (V : β → Value → Prop) (w : World) (b : Nat) (m : List (κ × β)) : Prop := ∃ l : List (κ × Value), MapAt enc w b l ∧ mt V l m
variable {enc : κ → Value} {V V' : β → Value → Prop} {w w' : World} {b : Nat} {m : List (κ × β)}
theorem dd.new (enc : κ → Value) (V : β → Value → Prop) (w : World) : dd enc V (w.alloc (.map #[] 0)) w.heap.size ([] : List (κ × β)) := ⟨[], MapAt.new enc w, trivial⟩
theorem dd.keep (h : dd enc V w b m) (hk : w'.heap[b]? = w.heap[b]?) : dd enc V w' b m := by obtain ⟨l, h1, h2⟩ := h; exact ⟨l, h1.keep hk, h2⟩
theorem dd.mono (h : dd enc V w b m) (hV : ∀ x v, V x v → V' x v) : dd enc V' w b m := by obtain ⟨l, h1, h2⟩ := h; exact ⟨l, h1, h2.mono hV⟩
theorem dd.lt (h : dd enc V w b m) : b < w.heap.size := by obtain ⟨l, h1, _⟩ := h; exact h1.lt
theorem dd.below (h : dd enc V w b m) (hb : Below w.heap.size w w') : dd enc V w' b m := h.keep (hb.block b h.lt)
theorem dd.alloc (h : dd enc V w b m) (o : Obj) : dd enc V (w.alloc o) b m := h.keep (Below.heap_alloc w o b h.lt)
theorem dd.drewN (h : dd enc V w b m) (n : Nat) : dd enc V (w.drewN n) b m := h.keep (by simp)
theorem dd.grown {row : Option Nat} (h : dd enc V w b m) (hg : w.grownBy w' row) (hne : some b ≠ row) : dd enc V w' b m := h.keep (hg.block b h.lt hne)
theorem dd.kept {S : Nat → Prop} (h : dd enc V w b m) (hg : Kept w w' S) (hne : ¬ S b) : dd enc V w' b m := h.keep (hg.2 b h.lt hne)
theorem dd.set (h : dd enc V w b m) {p : Addr} (hne : b ≠ p.block) (u : Value) : dd enc V (w.setCell p u) b m := h.keep (Below.heap_setCell w p u b hne)
theorem dd.ahH {α : Type} {d : Kd α} {e base : Nat} {ok : Nat → Prop} {v : Value} {xs : List α} (h : dd enc V w b m) (hR : d.R e w base ok v xs) : some b ≠ v.ownBlock := fun he => by
 obtain ⟨l, ⟨es, c, h3, _⟩, _⟩ := h
 obtain ⟨cells, hc⟩ := Kd.SL hR b he.symm
 rw [h3] at hc
 cases hc
theorem dd.row {α : Type} {d : Kd α} {e base : Nat} {ok : Nat → Prop} {v : Value} {xs : List α} (h : dd enc V w b m) (hR : d.R e w base ok v xs) (hg : w.grownBy w' v.ownBlock) : dd enc V w' b m := h.grown hg (h.ahH hR)
theorem atA {α : Type} {d : Kd α} {e base : Nat} {ok : Nat → Prop} {v : Value} {xs : List α} (hR : d.R e w base ok v xs) (h : dd enc V w b m) (hg : w.grownBy w' (some b)) : d.R e w' base ok v xs := by
 refine Kd.cm (Kd.uE (Kd.jY hR) hg (fun k hk he => ?_)) (fun k hk => hk.1)
 injection he with he
 subst he
 obtain ⟨_, _, _, q, _, cells, hc⟩ := hk
 obtain ⟨l, ⟨es, c, h3, _⟩, _⟩ := h
 rw [h3] at hc
 cases hc
theorem aqU {g : Nat} {cs : Array Value} {t : TypeId} {fr : Nat × Nat} (hB : w.heap[g]? = some (.cells cs t fr)) (h : dd enc V w b m) : g ≠ b := by
 rintro rfl
 obtain ⟨l, ⟨es, c, h3, _⟩, _⟩ := h
 rw [h3] at hB
 cases hB
theorem O0 [DecidableEq κ] {P : Program} {ops : Array Oper} {rest : List Oper} {o : Oper} {a : Act} {Q : Exit → Act → World → Prop} {T K E : TypeId} {c : Bool}
  (hg : o.guard = none) (mo x : Operand) (hop : o.op = Op.lookup T mo x c) (hk : ej P K enc) (hT : P.underlying T = some (.map K E)) {z : Value} (hz : (zeroValue E).run P w = .ok z w)
  (hm : a.eval mo = .map (some b)) (h : dd enc V w b m) (k : κ) (hx : a.eval x = enc k)
  (hN : cK m k = none → wpList P ops Q rest (a.put o.dst (if c then .tuple #[z, .bool false] else z)) w)
  (hS : ∀ y v, cK m k = some y → V y v → wpList P ops Q rest (a.put o.dst (if c then .tuple #[v, .bool true] else v)) w) : wpList P ops Q (o :: rest) a w := by
 obtain ⟨l, h1, h2⟩ := h
 refine Z1 hg mo x hop hk hT hz hm h1 k hx ?_
 rcases h2.look k with ⟨e1, e2⟩ | ⟨v, y, e1, e2, e3⟩
 ·rw [e1]
  exact hN e2
 ·rw [e1]
  exact hS y v e2 e3
theorem oe [DecidableEq κ] {P : Program} {ops : Array Oper} {rest : List Oper} {o : Oper} {a : Act} {Q : Exit → Act → World → Prop} {T K E : TypeId}
  (hg : o.guard = none) (mo x v : Operand) (hop : o.op = Op.mapUpdate T mo x v) (hk : ej P K enc) (hT : P.underlying T = some (.map K E))
  (hm : a.eval mo = .map (some b)) (h : dd enc V w b m) (k : κ) (hx : a.eval x = enc k) (val : Value) (y : β) (hv : a.eval v = val) (hy : V y val)
  (hK : ∀ w', dd enc V w' b (fG m k y) → w.grownBy w' (some b) → wpList P ops Q rest (a.put o.dst undef) w') : wpList P ops Q (o :: rest) a w := by
 obtain ⟨l, h1, h2⟩ := h
 exact acB hg mo x v hop hk hT hm h1 k hx val hv (fun w' h3 h4 => hK w' ⟨_, h3, h2.put k hy⟩ h4)
end
theorem sh {κ β : Type} [DecidableEq κ] (k k' : κ) (v : β) : ∀ l : List (κ × β), cK (fG l k v) k' = if k' = k then some v else cK l k'
 | [] => by simp [fG, cK]
 | p :: l => by
  simp only [fG]
  by_cases h : k = p.1
  ·rw [if_pos h]
   simp only [cK]
   by_cases h2 : k' = k
   ·rw [if_pos h2, if_pos h2]
   ·rw [if_neg h2, if_neg h2, if_neg (fun e => h2 (e.trans h.symm))]
  ·rw [if_neg h]
   simp only [cK]
   rw [sh k k' v l]
   by_cases h2 : k' = p.1
   ·rw [if_pos h2, if_pos h2, if_neg (fun e => h (e.symm.trans h2))]
   ·rw [if_neg h2, if_neg h2]
theorem Iw {κ β : Type} [DecidableEq κ] : ∀ (l : List (κ × β)) (k : κ) (v : β), (fG l k v).map (fun p => p.1) = if k ∈ l.map (fun p => p.1) then l.map (fun p => p.1) else l.map (fun p => p.1) ++ [k]
 | [], k, v => by simp [fG]
 | p :: l, k, v => by
  rw [fG]
  by_cases h : k = p.1
  ·rw [if_pos h, if_pos (by rw [h]; simp)]
   simp [h]
  ·rw [if_neg h, List.map_cons, Iw l k v, List.map_cons]
   by_cases q : k ∈ l.map (fun p => p.1)
   ·rw [if_pos q, if_pos (List.mem_cons_of_mem _ q)]
   ·rw [if_neg q, if_neg (by rw [List.mem_cons]; exact fun e => e.elim h q)]
    rfl
theorem tq {κ β : Type} [DecidableEq κ] (k : κ) : ∀ l : List (κ × β), cK l k = none ↔ k ∉ l.map (fun p => p.1)
 | [] => by simp [cK]
 | p :: l => by
  rw [cK, List.map_cons, List.mem_cons]
  by_cases e : k = p.1
  ·rw [if_pos e]; simp [e]
  ·rw [if_neg e, tq k l]; simp [e]
section
variable {κ β : Type} [DecidableEq κ] {enc : κ → Value} {V : β → Value → Prop} {w : World} {b : Nat} {m : List (κ × β)}
theorem JB {P : Program} {ops : Array Oper} {rest : List Oper} {o : Oper} {a : Act} {Q : Exit → Act → World → Prop} {T K E : TypeId} {c : Bool}
  (hg : o.guard = none) (mo x : Operand) (hop : o.op = Op.lookup T mo x c) (hk : ej P K enc) (hT : P.underlying T = some (.map K E)) {z : Value} (hz : (zeroValue E).run P w = .ok z w)
  (hm : a.eval mo = .map (some b)) (h : dd enc V w b m) (k : κ) (hx : a.eval x = enc k) (hn : cK m k = none)
  (hK : wpList P ops Q rest (a.put o.dst (if c then .tuple #[z, .bool false] else z)) w) : wpList P ops Q (o :: rest) a w :=
 O0 hg mo x hop hk hT hz hm h k hx (fun _ => hK) (fun y v e _ => by rw [hn] at e; cases e)
theorem IE {P : Program} {ops : Array Oper} {rest : List Oper} {o : Oper} {a : Act} {Q : Exit → Act → World → Prop} {T K E : TypeId} {c : Bool}
  (hg : o.guard = none) (mo x : Operand) (hop : o.op = Op.lookup T mo x c) (hk : ej P K enc) (hT : P.underlying T = some (.map K E)) {z : Value} (hz : (zeroValue E).run P w = .ok z w)
  (hm : a.eval mo = .map (some b)) (h : dd enc V w b m) (k : κ) (hx : a.eval x = enc k) (y : β) (hn : cK m k = some y)
  (hK : ∀ v, V y v → wpList P ops Q rest (a.put o.dst (if c then .tuple #[v, .bool true] else v)) w) : wpList P ops Q (o :: rest) a w :=
 O0 hg mo x hop hk hT hz hm h k hx (fun e => by rw [hn] at e; cases e) (fun y' v e hv => by rw [hn] at e; obtain rfl := Option.some.inj e; exact hK v hv)
abbrev VE (e : β → Value) : β → Value → Prop := fun x v => v = e x
theorem oT {e : β → Value} {P : Program} {ops : Array Oper} {rest : List Oper} {o : Oper} {a : Act} {Q : Exit → Act → World → Prop} {T K E : TypeId} {c : Bool}
  (hg : o.guard = none) (mo x : Operand) (hop : o.op = Op.lookup T mo x c) (hk : ej P K enc) (hT : P.underlying T = some (.map K E)) (z : β) (hz : (zeroValue E).run P w = .ok (e z) w)
  (hm : a.eval mo = .map (some b)) (h : dd enc (VE e) w b m) (k : κ) (hx : a.eval x = enc k)
  (hK : wpList P ops Q rest (a.put o.dst (if c then .tuple #[e ((cK m k).getD z), .bool (cK m k).isSome] else e ((cK m k).getD z))) w) : wpList P ops Q (o :: rest) a w :=
 O0 hg mo x hop hk hT hz hm h k hx (fun e => by rw [e] at hK; exact hK) (fun y v e1 e2 => by rw [e1] at hK; rw [e2]; exact hK)
end
theorem u_ (W : World) (g i : Nat) (u : Value) : W.grownBy (W.setCell ⟨g, i, none⟩ u) (some g) := ⟨rfl, rfl, rfl, by simp [World.setCell], fun k _ hk => Below.heap_setCell W ⟨g, i, none⟩ u k (fun e => hk (by rw [e]))⟩
theorem qM {W W' : World} {g : Nat} (h : W.grownBy W' (some g)) (i : Nat) (u : Value) : W.grownBy (W'.setCell ⟨g, i, none⟩ u) (some g) := by
 obtain ⟨h1, h2, h3, h4, h5⟩ := h
 exact ⟨h1, h2, h3, by simpa [World.setCell] using h4, fun k hk hn => (Below.heap_setCell W' ⟨g, i, none⟩ u k (fun e => hn (by rw [e]))).trans (h5 k hk hn)⟩
section
variable {P : Program} {ops : Array Oper} {rest : List Oper} {a : Act} {Q : Exit → Act → World → Prop} {W : World} {g : Nat} {T : TypeId}
theorem J1 {c0 v0 : Value} (hb : W.heap[g]? = some (.cells #[c0] T (0, 0))) (K : ∀ w', w'.heap[g]? = some (.cells #[v0] T (0, 0)) → W.grownBy w' (some g) → wpList P ops Q rest a w') : wpList P ops Q rest a (W.setCell ⟨g, 0, none⟩ v0) :=
 K _ (ix hb 0 v0 rfl) (u_ W g 0 v0)
theorem WF {c0 c1 v0 v1 : Value} (hb : W.heap[g]? = some (.cells #[c0, c1] T (0, 0))) (K : ∀ w', w'.heap[g]? = some (.cells #[v0, v1] T (0, 0)) → W.grownBy w' (some g) → wpList P ops Q rest a w') : wpList P ops Q rest a ((W.setCell ⟨g, 0, none⟩ v0).setCell ⟨g, 1, none⟩ v1) :=
 K _ (ix (ix (cs' := #[v0, c1]) hb 0 v0 rfl) 1 v1 rfl) (qM (u_ W g 0 v0) 1 v1)
theorem sw {c0 c1 c2 c3 v0 v1 v2 v3 : Value} (hb : W.heap[g]? = some (.cells #[c0, c1, c2, c3] T (0, 0))) (K : ∀ w', w'.heap[g]? = some (.cells #[v0, v1, v2, v3] T (0, 0)) → W.grownBy w' (some g) → wpList P ops Q rest a w') : wpList P ops Q rest a ((((W.setCell ⟨g, 0, none⟩ v0).setCell ⟨g, 1, none⟩ v1).setCell ⟨g, 2, none⟩ v2).setCell ⟨g, 3, none⟩ v3) :=
 K _ (ix (ix (cs' := #[v0, v1, v2, c3]) (ix (cs' := #[v0, v1, c2, c3]) (ix (cs' := #[v0, c1, c2, c3]) hb 0 v0 rfl) 1 v1 rfl) 2 v2 rfl) 3 v3 rfl) (qM (qM (qM (u_ W g 0 v0) 1 v1) 2 v2) 3 v3)
theorem PQ {c0 c1 c2 c3 c4 v0 v1 v2 v3 v4 : Value} (hb : W.heap[g]? = some (.cells #[c0, c1, c2, c3, c4] T (0, 0))) (K : ∀ w', w'.heap[g]? = some (.cells #[v0, v1, v2, v3, v4] T (0, 0)) → W.grownBy w' (some g) → wpList P ops Q rest a w') : wpList P ops Q rest a (((((W.setCell ⟨g, 0, none⟩ v0).setCell ⟨g, 1, none⟩ v1).setCell ⟨g, 2, none⟩ v2).setCell ⟨g, 3, none⟩ v3).setCell ⟨g, 4, none⟩ v4) :=
 K _ (ix (ix (cs' := #[v0, v1, v2, v3, c4]) (ix (cs' := #[v0, v1, v2, c3, c4]) (ix (cs' := #[v0, v1, c2, c3, c4]) (ix (cs' := #[v0, c1, c2, c3, c4]) hb 0 v0 rfl) 1 v1 rfl) 2 v2 rfl) 3 v3 rfl) 4 v4 rfl) (qM (qM (qM (qM (u_ W g 0 v0) 1 v1) 2 v2) 3 v3) 4 v4)
end
theorem jc {base : Nat} {w W w' : World} {g : Nat} (h : Below base w W) (hg : W.grownBy w' (some g)) (hb : base ≤ g) (hs : base ≤ W.heap.size) : Below base w w' := h.grown hg hs (fun j hj => by cases hj; exact hb)
abbrev ld (a : Int) : Value := .int .i64 a
theorem agV {P : Program} {ops : Array Oper} {rest : List Oper} {a : Act} {Q : Exit → Act → World → Prop} {W : World} {g : Nat} {T : TypeId} {cs : Array Value} (i : Nat) {u : Value} (cs' : Array Value) (hb : W.heap[g]? = some (.cells cs T (0, 0))) (e : cs.setIfInBounds i u = cs') (K : ∀ w', w'.heap[g]? = some (.cells cs' T (0, 0)) → W.grownBy w' (some g) → wpList P ops Q rest a w') : wpList P ops Q rest a (W.setCell ⟨g, i, none⟩ u) :=
 K _ (ix hb i u e) (u_ W g i u)
theorem abM {κ β : Type} {enc : κ → Value} {V : β → Value → Prop} {P : Program} {w : World} {b : Nat} {m : List (κ × β)} {t K E : TypeId} (ht : P.underlying t = some (.map K E)) (h : dd enc V w b m) (ty : TypeId) : (Builtin.len_ #[t] ty #[.map (some b)]).run P w = .ok (.int .i64 (m.length : Int)) w := by
 obtain ⟨l, ⟨es, c, h1, h2⟩, h3⟩ := h
 have hgo : (getObj b).run P w = .ok (.map es c) w := by simp [getObj, Sem.run, h1]
 have hl : es.size = m.length := by rw [← Array.length_toList, h2.length, h3.len]
 unfold Builtin.len_
 simp [Sem.run_bind, run_underlying ht w, hgo, goInt, hl]
theorem LX {κ β : Type} {enc : κ → Value} {V : β → Value → Prop} {P : Program} {ops : Array Oper} {rest : List Oper} {o : Oper} {a : Act} {Q : Exit → Act → World → Prop} {w : World} {b : Nat} {m : List (κ × β)} {t K E : TypeId}
  (hg : o.guard = none) (mo : Operand) (hop : o.op = Op.call { callee := Callee.builtin Builtin.len, args := #[mo], argTypes := #[t] }) (ht : P.underlying t = some (.map K E)) (hm : a.eval mo = .map (some b)) (h : dd enc V w b m)
  (hK : wpList P ops Q rest (a.put o.dst (.int .i64 (m.length : Int))) w) : wpList P ops Q (o :: rest) a w := by
 refine wpList_plain hg fun K' hK' => ?_
 have hrun := abM (P := P) ht h o.type
 unfold Oper.wp
 simp [execOp, hop, resolve, invoke, builtin, hm, hrun, Result.andThen]
 exact hK' _ _ hK
section
variable {P : Program} {c : Code} {a : Act} {Q : Exit → Act → World → Prop} {W : World} {g : Nat} {T : TypeId}
theorem apt {c0 v0 : Value} (hb : W.heap[g]? = some (.cells #[c0] T (0, 0))) (K : ∀ w', w'.heap[g]? = some (.cells #[v0] T (0, 0)) → W.grownBy w' (some g) → Code.wp P c Q a w') : Code.wp P c Q a (W.setCell ⟨g, 0, none⟩ v0) :=
 K _ (ix hb 0 v0 rfl) (u_ W g 0 v0)
theorem abz {c0 c1 v0 v1 : Value} (hb : W.heap[g]? = some (.cells #[c0, c1] T (0, 0))) (K : ∀ w', w'.heap[g]? = some (.cells #[v0, v1] T (0, 0)) → W.grownBy w' (some g) → Code.wp P c Q a w') : Code.wp P c Q a ((W.setCell ⟨g, 0, none⟩ v0).setCell ⟨g, 1, none⟩ v1) :=
 K _ (ix (ix (cs' := #[v0, c1]) hb 0 v0 rfl) 1 v1 rfl) (qM (u_ W g 0 v0) 1 v1)
theorem akL {c0 c1 c2 c3 v0 v1 v2 v3 : Value} (hb : W.heap[g]? = some (.cells #[c0, c1, c2, c3] T (0, 0))) (K : ∀ w', w'.heap[g]? = some (.cells #[v0, v1, v2, v3] T (0, 0)) → W.grownBy w' (some g) → Code.wp P c Q a w') : Code.wp P c Q a ((((W.setCell ⟨g, 0, none⟩ v0).setCell ⟨g, 1, none⟩ v1).setCell ⟨g, 2, none⟩ v2).setCell ⟨g, 3, none⟩ v3) :=
 K _ (ix (ix (cs' := #[v0, v1, v2, c3]) (ix (cs' := #[v0, v1, c2, c3]) (ix (cs' := #[v0, c1, c2, c3]) hb 0 v0 rfl) 1 v1 rfl) 2 v2 rfl) 3 v3 rfl) (qM (qM (qM (u_ W g 0 v0) 1 v1) 2 v2) 3 v3)
end
def jv.l0 : Nat → List ByteArray → List ByteArray → Int → Int → Option (Bool)
 | 0, _, _, _, _ => none
 | k + 1, x0, x1, gR, dA => if dA < gR then (if 0 ≤ dA then (if dA < (x0.length : Int) then (if dA < (x1.length : Int) then (if (eY ByteArray.empty x0 dA).toList = (eY ByteArray.empty x1 dA).toList then (jv.l0 k x0 x1 gR (wrap64 (dA + 1))) else (some false)) else (none)) else (none)) else (none)) else (some true)
def jv.f (k : Nat) (l0 : List ByteArray) (l1 : List ByteArray) : Option (Bool) := if (l0.length : Int) = (l1.length : Int) then (jv.l0 k l0 l1 (l0.length : Int) 0) else (some false)
theorem jv.fp : ∀ k, (∀ y0 y1 y2 y3, aI (jv.l0 k y0 y1 y2 y3) (jv.l0 (k + 1) y0 y1 y2 y3))
 | 0 => fun _ _ _ _ r h => by simp [jv.l0] at h
 | k + 1 => by
  have dq := jv.fp k
  ·intro y0 y1 y2 y3
   unfold jv.l0
   repeat' first
   | (with_reducible exact dq _ _ _ _)
   | (with_reducible exact aI.refl _)
   | (with_reducible exact aI.none _)
   | (with_reducible refine aI.ite ?_ ?_)
   | (with_reducible refine aI.bind ?_ (fun _ => ?_))
theorem jv.mono : ∀ a0 a1 k, aI (jv.f k a0 a1) (jv.f (k + 1) a0 a1) := by
 intro a0 a1 k
 have dq := jv.fp k
 unfold jv.f
 repeat' first
   | (with_reducible exact dq _ _ _ _)
   | (with_reducible exact aI.refl _)
   | (with_reducible exact aI.none _)
   | (with_reducible refine aI.ite ?_ ?_)
   | (with_reducible refine aI.bind ?_ (fun _ => ?_))
set_option maxHeartbeats 8000000 in
set_option maxRecDepth 100000 in
theorem jv.calls (k : Nat) (A0 : Option Addr) (c0 : Nat) (l0 : List ByteArray) (A1 : Option Addr) (c1 : Nat) (l1 : List ByteArray) (r : Bool) (w : World) (hr0 : Kd.C Kd.string w A0 l0.length l0) (hc0 : l0.length ≤ c0) (hr1 : Kd.C Kd.string w A1 l1.length l1) (hc1 : l1.length ≤ c1) (h : jv.f k l0 l1 = some r) :
  Calls Try.prog 28 #[.slice A0 l0.length c0, .slice A1 l1.length c1] w fun e w' => e = .returned (.bool r) ∧ bL w w' := by
 have dr := ae.mk hr0
 have qg := ae.mk hc0
 clear hr0 hc0
 have lg := ae.mk hr1
 have sH := ae.mk hc1
 clear hr1 hc1
 have H : (if (l0.length : Int) = (l1.length : Int) then (jv.l0 k l0 l1 (l0.length : Int) 0) else (some false)) = some r := h
 clear h
 by_cases c3 : (l0.length : Int) = (l1.length : Int)
 ·rw [if_pos c3] at H
  have kC : ((l0.length : Int) == (l1.length : Int)) = true := beq_iff_eq.mpr c3
  have p8 : ((l0.length : Int) != (l1.length : Int)) = false := bne_eq_false_iff_eq.mpr c3
  have vB : (l0.length == l1.length) = true := by first | simpa using c3 | (simp at c3 ⊢; omega)
  clear c3
  have H' := ae.mk H
  clear H
  go_enter Try.func28, Try.ntmps28
  go_wp2
  repeat (go_quiet (fail); try go_wp2)
  go_loopg [13] k (fun kq yW w' => ∃ (c_ : Int), yW = .int .i64 c_ ∧ ae (jv.l0 kq l0 l1 (l0.length : Int) c_ = some r) ∧ ae (kq ≤ k) ∧ bL w w')
  case atStart => exact ⟨(0), SX, H', ⟨Nat.le_refl _⟩, by repeat (first | exact bL.refl _ | apply bL.step)⟩
  case round =>
   clear H'
   try clear c1
   try clear c2
   try clear p2
   try clear c3
   try clear kC
   try clear p8
   try clear vB
   obtain ⟨c_, rfl, HA, d1, ⟨m1, rfl⟩⟩ := hrel
   cases gk with
   | zero => exact absurd HA.out (by simp [jv.l0])
   | succ k1 =>
    have H := HA.out
    clear HA
    simp only [jv.l0] at H
    by_cases c4 : c_ < (l0.length : Int)
    ·rw [if_pos c4] at H
     have nN : decide (c_ < (l0.length : Int)) = true := decide_eq_true c4
     clear c4
     by_cases c5 : 0 ≤ c_
     ·rw [if_pos c5] at H
      have jn : decide (0 ≤ c_) = true := decide_eq_true c5
      clear c5
      by_cases c6 : c_ < (l0.length : Int)
      ·rw [if_pos c6] at H
       have gJ : decide (c_ < (l0.length : Int)) = true := decide_eq_true c6
       clear c6
       by_cases c7 : c_ < (l1.length : Int)
       ·rw [if_pos c7] at H
        have q' : decide (c_ < (l1.length : Int)) = true := decide_eq_true c7
        clear c7
        by_cases c8 : (eY ByteArray.empty l0 c_).toList = (eY ByteArray.empty l1 c_).toList
        ·rw [if_pos c8] at H
         have kc : ((eY ByteArray.empty l0 c_).toList == (eY ByteArray.empty l1 c_).toList) = true := beq_iff_eq.mpr c8
         have mz : ((eY ByteArray.empty l0 c_).toList != (eY ByteArray.empty l1 c_).toList) = false := bne_eq_false_iff_eq.mpr c8
         clear c8
         have H' := ae.mk H
         clear H
         have zD : 0 ≤ (c_ : Int) := of_decide_eq_true AX
         have xP : c_ < (l0.length : Int) := of_decide_eq_true AX
         obtain ⟨ajs, Pm, abh⟩ := Kd.rh dr.out c_ zD xP
         cases Pm
         replace zD := eq_true zD
         replace xP := eq_true xP
         have yq : 0 ≤ (c_ : Int) := of_decide_eq_true AX
         have yN : c_ < (l1.length : Int) := of_decide_eq_true AX
         obtain ⟨ahx, N6, aib⟩ := Kd.rh lg.out c_ yq yN
         cases N6
         replace yq := eq_true yq
         replace yN := eq_true yN
         go_wp2
         repeat (go_quiet (fail); try go_wp2)
         go_roundg k1
         case measure => have := d1.out; omega
         case rel => exact ⟨(wrap64 (c_ + 1)), SX, H', ⟨by have := d1.out; omega⟩, by repeat (first | exact bL.refl _ | apply bL.step)⟩
        ·rw [if_neg c8] at H
         have kc : ((eY ByteArray.empty l0 c_).toList == (eY ByteArray.empty l1 c_).toList) = false := beq_eq_false_iff_ne.mpr c8
         have mz : ((eY ByteArray.empty l0 c_).toList != (eY ByteArray.empty l1 c_).toList) = true := bne_iff_ne.mpr c8
         obtain rfl := Option.some.inj H
         have zD : 0 ≤ (c_ : Int) := of_decide_eq_true AX
         have xP : c_ < (l0.length : Int) := of_decide_eq_true AX
         obtain ⟨ajs, Pm, abh⟩ := Kd.rh dr.out c_ zD xP
         cases Pm
         replace zD := eq_true zD
         replace xP := eq_true xP
         have yq : 0 ≤ (c_ : Int) := of_decide_eq_true AX
         have yN : c_ < (l1.length : Int) := of_decide_eq_true AX
         obtain ⟨ahx, N6, aib⟩ := Kd.rh lg.out c_ yq yN
         cases N6
         replace yq := eq_true yq
         replace yN := eq_true yN
         go_wp2
         repeat (go_quiet (fail); try go_wp2)
         go_ret
         exact ⟨SX, by repeat (first | exact bL.refl _ | apply bL.step)⟩
       ·rw [if_neg c7] at H
        exact absurd H (by simp)
      ·rw [if_neg c6] at H
       exact absurd H (by simp)
     ·rw [if_neg c5] at H
      exact absurd H (by simp)
    ·rw [if_neg c4] at H
     have nN : decide (c_ < (l0.length : Int)) = false := decide_eq_false c4
     clear c4
     obtain rfl := Option.some.inj H
     go_wp2
     repeat (go_quiet (fail); try go_wp2)
     go_ret
     exact ⟨SX, by repeat (first | exact bL.refl _ | apply bL.step)⟩
 ·rw [if_neg c3] at H
  have kC : ((l0.length : Int) == (l1.length : Int)) = false := beq_eq_false_iff_ne.mpr c3
  have p8 : ((l0.length : Int) != (l1.length : Int)) = true := bne_iff_ne.mpr c3
  have vB : (l0.length == l1.length) = false := by first | simpa using c3 | (simp at c3 ⊢; omega)
  obtain rfl := Option.some.inj H
  go_enter Try.func28, Try.ntmps28
  go_wp2
  repeat (go_quiet (fail); try go_wp2)
  go_ret
  exact ⟨SX, by repeat (first | exact bL.refl _ | apply bL.step)⟩
def jE.l0 : Nat → List Int → List Int → Int → Int → Option (Bool)
 | 0, _, _, _, _ => none
 | k + 1, x0, x1, gR, dA => if dA < gR then (if 0 ≤ dA then (if dA < (x0.length : Int) then (if dA < (x1.length : Int) then (if (rd x0 dA) = (rd x1 dA) then (jE.l0 k x0 x1 gR (wrap64 (dA + 1))) else (some false)) else (none)) else (none)) else (none)) else (some true)
def jE.f (k : Nat) (l0 : List Int) (l1 : List Int) : Option (Bool) := if (l0.length : Int) = (l1.length : Int) then (jE.l0 k l0 l1 (l0.length : Int) 0) else (some false)
theorem jE.fp : ∀ k, (∀ y0 y1 y2 y3, aI (jE.l0 k y0 y1 y2 y3) (jE.l0 (k + 1) y0 y1 y2 y3))
 | 0 => fun _ _ _ _ r h => by simp [jE.l0] at h
 | k + 1 => by
  have dq := jE.fp k
  ·intro y0 y1 y2 y3
   unfold jE.l0
   repeat' first
   | (with_reducible exact dq _ _ _ _)
   | (with_reducible exact aI.refl _)
   | (with_reducible exact aI.none _)
   | (with_reducible refine aI.ite ?_ ?_)
   | (with_reducible refine aI.bind ?_ (fun _ => ?_))
theorem jE.mono : ∀ a0 a1 k, aI (jE.f k a0 a1) (jE.f (k + 1) a0 a1) := by
 intro a0 a1 k
 have dq := jE.fp k
 unfold jE.f
 repeat' first
   | (with_reducible exact dq _ _ _ _)
   | (with_reducible exact aI.refl _)
   | (with_reducible exact aI.none _)
   | (with_reducible refine aI.ite ?_ ?_)
   | (with_reducible refine aI.bind ?_ (fun _ => ?_))
set_option maxHeartbeats 8000000 in
set_option maxRecDepth 100000 in
theorem jE.calls (k : Nat) (A0 : Option Addr) (c0 : Nat) (l0 : List Int) (A1 : Option Addr) (c1 : Nat) (l1 : List Int) (r : Bool) (w : World) (hr0 : Kd.C (Kd.int .i64) w A0 l0.length l0) (hc0 : l0.length ≤ c0) (hr1 : Kd.C (Kd.int .i64) w A1 l1.length l1) (hc1 : l1.length ≤ c1) (h : jE.f k l0 l1 = some r) :
  Calls Try.prog 29 #[.slice A0 l0.length c0, .slice A1 l1.length c1] w fun e w' => e = .returned (.bool r) ∧ bL w w' := by
 have dr := ae.mk hr0
 have qg := ae.mk hc0
 clear hr0 hc0
 have lg := ae.mk hr1
 have sH := ae.mk hc1
 clear hr1 hc1
 have H : (if (l0.length : Int) = (l1.length : Int) then (jE.l0 k l0 l1 (l0.length : Int) 0) else (some false)) = some r := h
 clear h
 by_cases c3 : (l0.length : Int) = (l1.length : Int)
 ·rw [if_pos c3] at H
  have kC : ((l0.length : Int) == (l1.length : Int)) = true := beq_iff_eq.mpr c3
  have p8 : ((l0.length : Int) != (l1.length : Int)) = false := bne_eq_false_iff_eq.mpr c3
  have vB : (l0.length == l1.length) = true := by first | simpa using c3 | (simp at c3 ⊢; omega)
  clear c3
  have H' := ae.mk H
  clear H
  go_enter Try.func29, Try.ntmps29
  go_wp2
  repeat (go_quiet (fail); try go_wp2)
  go_loopg [13] k (fun kq yW w' => ∃ (c_ : Int), yW = .int .i64 c_ ∧ ae (jE.l0 kq l0 l1 (l0.length : Int) c_ = some r) ∧ ae (kq ≤ k) ∧ bL w w')
  case atStart => exact ⟨(0), SX, H', ⟨Nat.le_refl _⟩, by repeat (first | exact bL.refl _ | apply bL.step)⟩
  case round =>
   clear H'
   try clear c1
   try clear c2
   try clear p2
   try clear c3
   try clear kC
   try clear p8
   try clear vB
   obtain ⟨c_, rfl, HA, d1, ⟨m1, rfl⟩⟩ := hrel
   cases gk with
   | zero => exact absurd HA.out (by simp [jE.l0])
   | succ k1 =>
    have H := HA.out
    clear HA
    simp only [jE.l0] at H
    by_cases c4 : c_ < (l0.length : Int)
    ·rw [if_pos c4] at H
     have nN : decide (c_ < (l0.length : Int)) = true := decide_eq_true c4
     clear c4
     by_cases c5 : 0 ≤ c_
     ·rw [if_pos c5] at H
      have jn : decide (0 ≤ c_) = true := decide_eq_true c5
      clear c5
      by_cases c6 : c_ < (l0.length : Int)
      ·rw [if_pos c6] at H
       have gJ : decide (c_ < (l0.length : Int)) = true := decide_eq_true c6
       clear c6
       by_cases c7 : c_ < (l1.length : Int)
       ·rw [if_pos c7] at H
        have q' : decide (c_ < (l1.length : Int)) = true := decide_eq_true c7
        clear c7
        by_cases c8 : (rd l0 c_) = (rd l1 c_)
        ·rw [if_pos c8] at H
         have kc : ((rd l0 c_) == (rd l1 c_)) = true := beq_iff_eq.mpr c8
         have mz : ((rd l0 c_) != (rd l1 c_)) = false := bne_eq_false_iff_eq.mpr c8
         clear c8
         have H' := ae.mk H
         clear H
         have zh : 0 ≤ (c_ : Int) := of_decide_eq_true AX
         have zu : c_ < (l0.length : Int) := of_decide_eq_true AX
         obtain ⟨agW, LR, adS⟩ := Kd.dB dr.out c_ zh zu
         cases LR
         replace zh := eq_true zh
         replace zu := eq_true zu
         have yZ : 0 ≤ (c_ : Int) := of_decide_eq_true AX
         have yV : c_ < (l1.length : Int) := of_decide_eq_true AX
         obtain ⟨aiT, Mn, akq⟩ := Kd.dB lg.out c_ yZ yV
         cases Mn
         replace yZ := eq_true yZ
         replace yV := eq_true yV
         go_wp2
         repeat (go_quiet (fail); try go_wp2)
         go_roundg k1
         case measure => have := d1.out; omega
         case rel => exact ⟨(wrap64 (c_ + 1)), SX, H', ⟨by have := d1.out; omega⟩, by repeat (first | exact bL.refl _ | apply bL.step)⟩
        ·rw [if_neg c8] at H
         have kc : ((rd l0 c_) == (rd l1 c_)) = false := beq_eq_false_iff_ne.mpr c8
         have mz : ((rd l0 c_) != (rd l1 c_)) = true := bne_iff_ne.mpr c8
         obtain rfl := Option.some.inj H
         have zh : 0 ≤ (c_ : Int) := of_decide_eq_true AX
         have zu : c_ < (l0.length : Int) := of_decide_eq_true AX
         obtain ⟨agW, LR, adS⟩ := Kd.dB dr.out c_ zh zu
         cases LR
         replace zh := eq_true zh
         replace zu := eq_true zu
         have yZ : 0 ≤ (c_ : Int) := of_decide_eq_true AX
         have yV : c_ < (l1.length : Int) := of_decide_eq_true AX
         obtain ⟨aiT, Mn, akq⟩ := Kd.dB lg.out c_ yZ yV
         cases Mn
         replace yZ := eq_true yZ
         replace yV := eq_true yV
         go_wp2
         repeat (go_quiet (fail); try go_wp2)
         go_ret
         exact ⟨SX, by repeat (first | exact bL.refl _ | apply bL.step)⟩
       ·rw [if_neg c7] at H
        exact absurd H (by simp)
      ·rw [if_neg c6] at H
       exact absurd H (by simp)
     ·rw [if_neg c5] at H
      exact absurd H (by simp)
    ·rw [if_neg c4] at H
     have nN : decide (c_ < (l0.length : Int)) = false := decide_eq_false c4
     clear c4
     obtain rfl := Option.some.inj H
     go_wp2
     repeat (go_quiet (fail); try go_wp2)
     go_ret
     exact ⟨SX, by repeat (first | exact bL.refl _ | apply bL.step)⟩
 ·rw [if_neg c3] at H
  have kC : ((l0.length : Int) == (l1.length : Int)) = false := beq_eq_false_iff_ne.mpr c3
  have p8 : ((l0.length : Int) != (l1.length : Int)) = true := bne_iff_ne.mpr c3
  have vB : (l0.length == l1.length) = false := by first | simpa using c3 | (simp at c3 ⊢; omega)
  obtain rfl := Option.some.inj H
  go_enter Try.func29, Try.ntmps29
  go_wp2
  repeat (go_quiet (fail); try go_wp2)
  go_ret
  exact ⟨SX, by repeat (first | exact bL.refl _ | apply bL.step)⟩
def Az.f (l : List ByteArray) : Option (List ByteArray) := if l.length ≤ 1000000 then some l else none
set_option maxHeartbeats 4000000 in
set_option maxRecDepth 100000 in
theorem Az.calls (A0 : Option Addr) (c0 : Nat) (l0 : List ByteArray) (r : List ByteArray) (w : World) (hr0 : Kd.C Kd.string w A0 l0.length l0) (hc0 : l0.length ≤ c0) (h : Az.f l0 = some r) :
  Calls Try.prog 77 #[.slice A0 l0.length c0] w fun e w' => ∃ jC : Value, e = .returned (jC) ∧ Kd.R Kd.string 9 w' w.heap.size (fun _ => True) jC r ∧ Below w.heap.size w w' := by
 unfold Az.f at h
 split at h
 case isFalse => cases h
 rename_i hl
 obtain rfl := Option.some.inj h
 clear h
 by_cases c : l0.length = 0
 ·have e1 : ((l0.length : Int) == 0) = true := beq_iff_eq.mpr (by omega)
  have e0 : l0 = [] := List.length_eq_zero_iff.1 c
  have HE := ae.mk e0
  clear e0 c
  go_enter Try.func77, Try.ntmps77
  go_wp2
  go_ret
  exact ⟨_, rfl, by rw [HE.out]; exact Kd.lS _ _ _ _ _, Below.refl _ _⟩
 ·have e1 : ((l0.length : Int) == 0) = false := beq_eq_false_iff_ne.mpr (by omega)
  have dr := ae.mk hr0
  clear hr0 c
  go_enter Try.func77, Try.ntmps77
  go_wp2_with (first
    | ((with_reducible refine bz (N := 9) rfl ?_); refine Kd.TP Kd.string (w0 := w) w.heap.size 9 rfl (N := 9) rfl 22 _ _ rfl (l0.length : Int) rfl rfl Try.underlying22 (.string ⟨#[]⟩) 16 aj1 rfl (by decide) (by omega) (⟨#[]⟩ : ByteArray) (ok := fun _ => True) (fh := fun _ => True) rfl (fun _ hk => hk) trivial (by omega) (by omega) (Below.refl _ _) (Nat.le_refl _) ?_; intro v9 w6 Gu kb E6 hn6; simp only [Int.toNat_natCast] at Gu; obtain ⟨A6, c6, rfl⟩ := Kd.bm Gu; rw [List.length_replicate] at Gu; rw [List.length_replicate]; have HO6 := ae.mk Gu; have q_ := ae.mk kb; have aap := ae.mk (Kd.aC dr.out kb); clear hn6 E6 Gu kb)
    | ((with_reducible refine gP (b := .copy) (xs := #[.tmp 10, .tmp 11]) rfl ?_); refine Kd.ai2 (h1 := fun _ => rfl) (⟨#[]⟩ : ByteArray) (w0 := w) w.heap.size rfl (.tmp 10) (.tmp 11) 22 22 9 rfl Try.underlying22 (by kernel_rfl) (.slice A6 l0.length c6) (List.replicate l0.length (⟨#[]⟩ : ByteArray)) l0 A0 l0.length c0 (fun _ => True) rfl rfl HO6.out aap.out q_.out q_.out.size ?_; intro w7 SA Wd hg7; have HO7 := ae.mk SA; have pX := ae.mk Wd; clear SA Wd hg7))
  go_ret
  refine ⟨_, rfl, ?_, pX.out⟩
  have ho := HO7.out
  rw [List.length_replicate, Nat.min_self, List.take_length, List.drop_of_length_le (by rw [List.length_replicate]; exact Nat.le_refl _), List.append_nil] at ho
  exact ho
end Go.Proofs.Ytcfjdehpbckomaa.Q
