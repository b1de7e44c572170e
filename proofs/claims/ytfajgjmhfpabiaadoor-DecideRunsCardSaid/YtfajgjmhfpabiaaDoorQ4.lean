-- Written by a program of this session (mk.py) out of the translation; Lean checks it.
import Derived.Test.YtfajgjmhfpabiaaDoorQ0
namespace Go.Proofs.YtfajgjmhfpabiaaDoor.Q
open Go.RowKit Go.Proofs.YtfajgjmhfpabiaaDoorW.PrintWords Go.Proofs.YtfajgjmhfpabiaaDoorW.PrintLast Go.Proofs.YtfajgjmhfpabiaaDoorW.PrintMore
attribute [local go_sem] max2_int min2_int max_two min_two max_three min_three max_four min_four   -- for this text's walks alone
set_option linter.unusedVariables false
set_option linter.unusedSimpArgs false

-- 00_globat.lean
def GlobAt (w : World) (g : Nat) (cs : Array Value) : Prop := ∃ t fr, w.heap[g]? = some (.cells cs t fr)
theorem GlobAt.lt {w : World} {g : Nat} {cs : Array Value} (h : GlobAt w g cs) : g < w.heap.size := by
  obtain ⟨t, fr, h⟩ := h
  exact (Array.getElem?_eq_some_iff.mp h).1
theorem GlobAt.below {w w' : World} {g : Nat} {cs : Array Value} (hb : Below w.heap.size w w') (h : GlobAt w g cs) : GlobAt w' g cs := by
  have hl := h.lt
  obtain ⟨t, fr, h⟩ := h
  exact ⟨t, fr, (hb.block g hl).trans h⟩
theorem GlobAt.drawn {w w' : World} {g : Nat} {cs : Array Value} (hb : Drawn0 w w') (h : GlobAt w g cs) : GlobAt w' g cs := by
  obtain ⟨n, rfl⟩ := hb.out
  obtain ⟨t, fr, h⟩ := h
  exact ⟨t, fr, by simpa using h⟩

-- 02_digs.lean
def digs : List Int := [48, 49, 50, 51, 52, 53, 54, 55, 56, 57, 97, 98, 99, 100, 101, 102]
def digsA : Array Value := #[.int .u8 48, .int .u8 49, .int .u8 50, .int .u8 51, .int .u8 52, .int .u8 53, .int .u8 54, .int .u8 55, .int .u8 56, .int .u8 57, .int .u8 97, .int .u8 98, .int .u8 99, .int .u8 100, .int .u8 101, .int .u8 102]
def digv (v : Nat) : Int := digs.getD v 0
def upto (c : Int) : Nat → Int
  | 0 => -1
  | v + 1 => if digv v = c then v else upto c v

-- 05_glob.lean
def powA : Array Value := (Lib.pow10Tab.map fun z => Value.int .u64 z).toArray
def Glob (w : World) : Prop := GlobAt w 0 digsA ∧ GlobAt w 2 powA
theorem Glob.below {w w' : World} (hb : Below w.heap.size w w') (h : Glob w) : Glob w' := ⟨GlobAt.below hb h.1, GlobAt.below hb h.2⟩
theorem Glob.drawn {w w' : World} (hb : Drawn0 w w') (h : Glob w) : Glob w' := ⟨GlobAt.drawn hb h.1, GlobAt.drawn hb h.2⟩
theorem Glob.digs {w : World} (h : Glob w) : GlobAt w 0 digsA := h.1
theorem Glob.tab {w : World} (h : Glob w) : Lib.TabIs Tryd.prog w "internal/strconv.uint64pow10" .u64 Lib.pow10Tab := by
  obtain ⟨t, fr, hg⟩ := h.2
  have hn : Tryd.prog.globalNamed "internal/strconv.uint64pow10" = some 2 := by kernel_rfl
  unfold Lib.TabIs World.var?
  rw [hn]
  simp only [Option.bind_some, hg]
  rfl

-- 20_mapwords.lean
/-! ### Maps: a block that is a map, as a list of keys and values -/
/-- The entries that stand for a list of keys (each by 'enc') and values. -/
def EsIs {κ : Type} (enc : κ → Value) (es : List MapEntry) (l : List (κ × Value)) : Prop := es.map (fun e => (e.key, e.val)) = l.map (fun p => (enc p.1, p.2))
/-- Block b is the map l. -/
def MapAt {κ : Type} (enc : κ → Value) (w : World) (b : Nat) (l : List (κ × Value)) : Prop := ∃ es clock, w.heap[b]? = some (.map es clock) ∧ EsIs enc es.toList l
def mlook {κ : Type} [DecidableEq κ] : List (κ × Value) → κ → Option Value
  | [], _ => none
  | p :: l, k => if k = p.1 then some p.2 else mlook l k
def mput {κ : Type} [DecidableEq κ] : List (κ × Value) → κ → Value → List (κ × Value)
  | [], k, v => [(k, v)]
  | p :: l, k, v => if k = p.1 then (k, v) :: l else p :: mput l k v
def mdel {κ : Type} [DecidableEq κ] : List (κ × Value) → κ → List (κ × Value)
  | [], _ => []
  | p :: l, k => if k = p.1 then l else p :: mdel l k
def mfind {κ : Type} [DecidableEq κ] : List (κ × Value) → κ → Nat → Option (Nat × Value)
  | [], _, _ => none
  | p :: l, k, i => if k = p.1 then some (i, p.2) else mfind l k (i + 1)
/-- Keys that the machine tells apart as Lean does. -/
structure KeyOk {κ : Type} [DecidableEq κ] (P : Program) (K : TypeId) (enc : κ → Value) : Prop where
  check : ∀ (b : Bool) (k : κ) (w : World), (Instr.checkKey b 10000 K (enc k)).run P w = .ok () w
  find : ∀ (k : κ) (es : List MapEntry) (l : List (κ × Value)) (w : World), EsIs enc es l → (Instr.findKey K (enc k) es).run P w = .ok (mfind l k 0) w
  same : ∀ k : κ, Instr.sameBits 10000 (enc k) (enc k) = true
theorem EsIs.nil {κ : Type} (enc : κ → Value) : EsIs enc [] ([] : List (κ × Value)) := rfl
theorem EsIs.cons_inv {κ : Type} {enc : κ → Value} {es : List MapEntry} {p : κ × Value} {l : List (κ × Value)} (h : EsIs enc es (p :: l)) : ∃ e r, es = e :: r ∧ e.key = enc p.1 ∧ e.val = p.2 ∧ EsIs enc r l := by
  cases es with
  | nil => simp [EsIs] at h
  | cons e r =>
    simp only [EsIs, List.map_cons, List.cons.injEq, Prod.mk.injEq] at h
    exact ⟨e, r, rfl, h.1.1, h.1.2, h.2⟩
theorem EsIs.nil_inv {κ : Type} {enc : κ → Value} {es : List MapEntry} (h : EsIs enc es ([] : List (κ × Value))) : es = [] := by
  simpa [EsIs] using h
theorem EsIs.length {κ : Type} {enc : κ → Value} {es : List MapEntry} {l : List (κ × Value)} (h : EsIs enc es l) : es.length = l.length := by
  have := congrArg List.length h
  simpa using this
theorem mfind_look {κ : Type} [DecidableEq κ] (k : κ) : ∀ (l : List (κ × Value)) (i : Nat), (mfind l k i).map (·.2) = mlook l k
  | [], _ => rfl
  | p :: l, i => by
    simp only [mfind, mlook]
    split
    · rfl
    · exact mfind_look k l (i + 1)
theorem findNow_is {κ : Type} [DecidableEq κ] {enc : κ → Value} {d : TypeDesc} (hs : ∀ a b : κ, Instr.sameNow d (enc a) (enc b) = some (decide (a = b))) (k : κ) : ∀ (l : List (κ × Value)) (es : List MapEntry) (i : Nat), EsIs enc es l → Instr.findNow d (enc k) es i = some (mfind l k i)
  | [], es, i, h => by
    rw [h.nil_inv]
    rfl
  | p :: l, es, i, h => by
    obtain ⟨e, r, rfl, h1, h2, h3⟩ := h.cons_inv
    simp only [Instr.findNow, mfind, h1, hs]
    by_cases hk : k = p.1
    · rw [if_pos hk, decide_eq_true hk, h2]
    · rw [if_neg hk, decide_eq_false hk]
      exact findNow_is hs k l r (i + 1) h3
theorem checkKey_plain {P : Program} {K : TypeId} {d : TypeDesc} {v : Value} (hK : P.underlying K = some d) (hd : (match d with | .int _ | .string | .bool => true | _ => false) = true) (b : Bool) (w : World) : (Instr.checkKey b 10000 K v).run P w = .ok () w := by
  unfold Instr.checkKey
  rw [Sem.run_bind, run_underlying hK w]
  cases d <;> simp_all
theorem findKey_now {P : Program} {K : TypeId} {d : TypeDesc} {v : Value} {es : List MapEntry} {r : Option (Nat × Value)} (hK : P.underlying K = some d) (h : Instr.findNow d v es 0 = some r) (w : World) : (Instr.findKey K v es).run P w = .ok r w := by
  unfold Instr.findKey
  rw [Sem.run_bind, run_underlying hK w]
  simp [h]
theorem KeyOk.int {P : Program} {K : TypeId} {q : IntKind} (hK : P.underlying K = some (.int q)) : KeyOk P K (fun a : Int => .int q a) :=
  ⟨fun b k w => checkKey_plain hK rfl b w, fun k es l w h => findKey_now hK (findNow_is (fun a b => by simp only [Instr.sameNow, if_true]; rfl) k l es 0 h) w, fun k => by simp [Instr.sameBits]⟩
theorem bytes_beq (a b : ByteArray) : (a == b) = decide (a = b) := by
  have h : (a == b) = (a.data == b.data) := rfl
  rw [h, Bool.eq_iff_iff, beq_iff_eq, decide_eq_true_iff]
  exact ⟨fun h => by cases a; cases b; simp_all, fun h => by rw [h]⟩
theorem KeyOk.string {P : Program} {K : TypeId} (hK : P.underlying K = some .string) : KeyOk P K (fun s : ByteArray => .string s) :=
  ⟨fun b k w => checkKey_plain hK rfl b w, fun k es l w h => findKey_now hK (findNow_is (fun a b => by simp only [Instr.sameNow, bytes_beq]) k l es 0 h) w, fun k => by simp [Instr.sameBits, bytes_beq]⟩
theorem MapAt.new {κ : Type} (enc : κ → Value) (w : World) : MapAt enc (w.alloc (.map #[] 0)) w.heap.size ([] : List (κ × Value)) := ⟨#[], 0, heap_alloc_new w _, rfl⟩
theorem MapAt.keep {κ : Type} {enc : κ → Value} {w w' : World} {b : Nat} {l : List (κ × Value)} (h : MapAt enc w b l) (hk : w'.heap[b]? = w.heap[b]?) : MapAt enc w' b l := by
  obtain ⟨es, c, h1, h2⟩ := h
  exact ⟨es, c, hk.trans h1, h2⟩
theorem MapAt.lt {κ : Type} {enc : κ → Value} {w : World} {b : Nat} {l : List (κ × Value)} (h : MapAt enc w b l) : b < w.heap.size := by
  obtain ⟨es, c, h1, h2⟩ := h
  exact (Array.getElem?_eq_some_iff.1 h1).1
theorem MapAt.below {κ : Type} {enc : κ → Value} {w w' : World} {b : Nat} {l : List (κ × Value)} (h : MapAt enc w b l) (hb : Below w.heap.size w w') : MapAt enc w' b l := h.keep (hb.block b h.lt)
theorem MapAt.alloc {κ : Type} {enc : κ → Value} {w : World} {b : Nat} {l : List (κ × Value)} (h : MapAt enc w b l) (o : Obj) : MapAt enc (w.alloc o) b l := h.keep (Below.heap_alloc w o b h.lt)
theorem MapAt.drewN {κ : Type} {enc : κ → Value} {w : World} {b : Nat} {l : List (κ × Value)} (h : MapAt enc w b l) (n : Nat) : MapAt enc (w.drewN n) b l := h.keep (by simp)
theorem MapAt.grown {κ : Type} {enc : κ → Value} {w w' : World} {b : Nat} {l : List (κ × Value)} {row : Option Nat} (h : MapAt enc w b l) (hg : w.grownBy w' row) (hne : some b ≠ row) : MapAt enc w' b l := h.keep (hg.block b h.lt hne)
theorem run_lookup_ok {κ : Type} [DecidableEq κ] {P : Program} {T K E : TypeId} {enc : κ → Value} (hk : KeyOk P K enc) (hT : P.underlying T = some (.map K E)) {w : World} {z : Value} (hz : (zeroValue E).run P w = .ok z w) {b : Nat} {l : List (κ × Value)} (h : MapAt enc w b l) (k : κ) (c : Bool) :
    (Instr.lookup T (.map (some b)) (enc k) c).run P w = .ok (if c then .tuple #[(mlook l k).getD z, .bool (mlook l k).isSome] else (mlook l k).getD z) w := by
  obtain ⟨es, clock, h1, h2⟩ := h
  have hgo : (getObj b).run P w = .ok (.map es clock) w := by simp [getObj, Sem.run, h1]
  unfold Instr.lookup
  rw [Sem.run_bind, run_underlying hT w]
  simp only [Result.andThen_ok, Sem.run_bind, hgo, hk.check, Sem.run_pure]
  rw [hk.find k es.toList l w h2, ← mfind_look k l 0]
  cases mfind l k 0 with
  | none => simp [hz]
  | some p => simp
theorem wpList_lookup {κ : Type} [DecidableEq κ] {P : Program} {w : World} {ops : Array Oper} {rest : List Oper} {o : Oper} {a : Act} {Q : Exit → Act → World → Prop} {enc : κ → Value} {T K E : TypeId} {c : Bool}
    (hg : o.guard = none) (m x : Operand) (hop : o.op = Op.lookup T m x c) (hk : KeyOk P K enc) (hT : P.underlying T = some (.map K E)) {z : Value} (hz : (zeroValue E).run P w = .ok z w) {b : Nat} {l : List (κ × Value)}
    (hm : a.eval m = .map (some b)) (h : MapAt enc w b l) (k : κ) (hx : a.eval x = enc k)
    (hK : wpList P ops Q rest (a.put o.dst (if c then .tuple #[(mlook l k).getD z, .bool (mlook l k).isSome] else (mlook l k).getD z)) w) : wpList P ops Q (o :: rest) a w := by
  refine wpList_plain hg fun K' hK' => ?_
  have hrun := run_lookup_ok hk hT hz h k c
  unfold Oper.wp
  simp only [execOp, hop, hm, hx, hrun, Result.andThen, Sem.run_bind, Sem.run_pure]
  exact hK' _ _ hK
theorem modify_is {κ : Type} [DecidableEq κ] {enc : κ → Value} (k : κ) (v : Value) : ∀ (l : List (κ × Value)) (es : List MapEntry) (i : Nat) (r : Nat × Value), EsIs enc es l → mfind l k i = some r → i ≤ r.1 ∧ (∃ e, es[r.1 - i]? = some e ∧ e.key = enc k) ∧ EsIs enc (es.modify (r.1 - i) fun e => { e with key := enc k, val := v }) (mput l k v)
  | [], _, _, _, _, h => by simp [mfind] at h
  | p :: l, es, i, r, h, hf => by
    obtain ⟨e, s, rfl, h1, h2, h3⟩ := h.cons_inv
    simp only [mfind] at hf
    by_cases hk : k = p.1
    · rw [if_pos hk] at hf
      obtain rfl := Option.some.inj hf
      refine ⟨Nat.le_refl _, ⟨e, by simp, by rw [h1, hk]⟩, ?_⟩
      simp only [Nat.sub_self, List.modify_zero_cons, mput, if_pos hk]
      simp only [EsIs, List.map_cons] at h3 ⊢
      rw [h3]
    · rw [if_neg hk] at hf
      obtain ⟨q1, ⟨e', q2, q3⟩, q4⟩ := modify_is k v l s (i + 1) r h3 hf
      obtain ⟨m, hm⟩ : ∃ m, r.1 - i = m + 1 := ⟨r.1 - (i + 1), by omega⟩
      have hm' : r.1 - (i + 1) = m := by omega
      rw [hm'] at q2 q4
      refine ⟨by omega, ⟨e', by rw [hm]; simpa using q2, q3⟩, ?_⟩
      rw [hm]
      simp only [List.modify_succ_cons, mput, if_neg hk]
      simp only [EsIs, List.map_cons] at q4 ⊢
      rw [q4, h1, h2]
theorem push_is {κ : Type} [DecidableEq κ] {enc : κ → Value} (k : κ) (v : Value) (n : Nat) : ∀ (l : List (κ × Value)) (es : List MapEntry) (i : Nat), EsIs enc es l → mfind l k i = none → EsIs enc (es ++ [{ key := enc k, val := v, born := n }]) (mput l k v)
  | [], es, _, h, _ => by
    rw [h.nil_inv]
    rfl
  | p :: l, es, i, h, hf => by
    obtain ⟨e, s, rfl, h1, h2, h3⟩ := h.cons_inv
    simp only [mfind] at hf
    by_cases hk : k = p.1
    · rw [if_pos hk] at hf
      exact absurd hf (by simp)
    · rw [if_neg hk] at hf
      have := push_is k v n l s (i + 1) h3 hf
      simp only [EsIs, List.map_cons, List.cons_append, mput, if_neg hk] at this ⊢
      rw [this, h1, h2]
theorem run_mapUpdate {κ : Type} [DecidableEq κ] {P : Program} {T K E : TypeId} {enc : κ → Value} (hk : KeyOk P K enc) (hT : P.underlying T = some (.map K E)) {w : World} {b : Nat} {l : List (κ × Value)} (h : MapAt enc w b l) (k : κ) (v : Value) :
    ∃ w', (Instr.mapUpdate T (.map (some b)) (enc k) v).run P w = .ok () w' ∧ MapAt enc w' b (mput l k v) ∧ w.grownBy w' (some b) := by
  obtain ⟨es, clock, h1, h2⟩ := h
  have hgo : (getObj b).run P w = .ok (.map es clock) w := by simp [getObj, Sem.run, h1]
  have hset : ∀ o : Obj, (setObj b o).run P w = .ok () (ChangeMaps.setBlock w b o) := fun o => MapKept.run_setObj_map o h1
  have hgr : ∀ o : Obj, w.grownBy (ChangeMaps.setBlock w b o) (some b) := fun o => ⟨rfl, rfl, rfl, by simp [ChangeMaps.setBlock], fun i _ hi => ChangeMaps.heap_setBlock_other h1 _ (fun e => hi (by rw [e]))⟩
  cases hf : mfind l k 0 with
  | none =>
    refine ⟨ChangeMaps.setBlock w b (.map (es.push { key := enc k, val := v, born := clock }) (clock + 1)), ?_, ⟨_, _, ChangeMaps.heap_setBlock_same h1 _, ?_⟩, hgr _⟩
    · unfold Instr.mapUpdate
      rw [Sem.run_bind, run_underlying hT w]
      simp only [Result.andThen_ok, Sem.run_bind, hgo, hk.check, hk.find k es.toList l w h2, hf, hset]
    · rw [Array.toList_push]
      exact push_is k v clock l es.toList 0 h2 hf
  | some r =>
    obtain ⟨_, ⟨e, q2, q3⟩, q4⟩ := modify_is k v l es.toList 0 r h2 hf
    rw [Nat.sub_zero] at q2 q4
    refine ⟨ChangeMaps.setBlock w b (.map (es.modify r.1 fun e => { e with key := enc k, val := v }) clock), ?_, ⟨_, _, ChangeMaps.heap_setBlock_same h1 _, ?_⟩, hgr _⟩
    · unfold Instr.mapUpdate
      have q2' : es[r.1]? = some e := by simpa using q2
      rw [Sem.run_bind, run_underlying hT w]
      simp only [Result.andThen_ok, Sem.run_bind, hgo, hk.check, hk.find k es.toList l w h2, hf, q2', Option.map_some, Option.getD_some, q3, Instr.keyThatStays, hk.same, if_true, Sem.run_pure, hset]
    · simpa using q4
theorem wpList_mapUpdate {κ : Type} [DecidableEq κ] {P : Program} {w : World} {ops : Array Oper} {rest : List Oper} {o : Oper} {a : Act} {Q : Exit → Act → World → Prop} {enc : κ → Value} {T K E : TypeId}
    (hg : o.guard = none) (m x v : Operand) (hop : o.op = Op.mapUpdate T m x v) (hk : KeyOk P K enc) (hT : P.underlying T = some (.map K E)) {b : Nat} {l : List (κ × Value)}
    (hm : a.eval m = .map (some b)) (h : MapAt enc w b l) (k : κ) (hx : a.eval x = enc k) (val : Value) (hv : a.eval v = val)
    (hK : ∀ w', MapAt enc w' b (mput l k val) → w.grownBy w' (some b) → wpList P ops Q rest (a.put o.dst undef) w') : wpList P ops Q (o :: rest) a w := by
  refine wpList_plain hg fun K' hK' => ?_
  obtain ⟨w', hrun, r1, r2⟩ := run_mapUpdate hk hT h k val
  unfold Oper.wp
  simp [execOp, hop, hm, hx, hv, hrun, Result.andThen]
  exact hK' _ _ (hK w' r1 r2)
theorem mlook_put {κ : Type} [DecidableEq κ] (k k' : κ) (v : Value) : ∀ l : List (κ × Value), mlook (mput l k v) k' = if k' = k then some v else mlook l k'
  | [] => by simp [mput, mlook]
  | p :: l => by
    simp only [mput]
    by_cases h : k = p.1
    · rw [if_pos h]
      simp only [mlook]
      by_cases h2 : k' = k
      · rw [if_pos h2, if_pos h2]
      · rw [if_neg h2, if_neg h2, if_neg (fun e => h2 (e.trans h.symm))]
    · rw [if_neg h]
      simp only [mlook]
      rw [mlook_put k k' v l]
      by_cases h2 : k' = p.1
      · rw [if_pos h2, if_pos h2, if_neg (fun e => h (e.symm.trans h2))]
      · rw [if_neg h2, if_neg h2]

-- NOT PRINTED: function 16 (decide_New)

/-! ### decide_printable: function 56 -/
def decide_printable.l0 : Nat → ByteArray → Int → Int → Option (Bool)
  | 0, _, _, _ => none
  | k + 1, x0, x1, x5 => if x5 < (x0.size : Int) then (if 0 ≤ x5 then (if (bt x0 x5) < x1 then (some false) else (if (bt x0 x5) > 126 then (some false) else (decide_printable.l0 k x0 x1 (wrap64 (x5 + 1))))) else (none)) else (some true)
def decide_printable.f (k : Nat) (a0 : ByteArray) (a1 : Int) : Option (Bool) := decide_printable.l0 k a0 a1 0
theorem decide_printable.mono_l : ∀ k, (∀ y0 y1 y2, LeO (decide_printable.l0 k y0 y1 y2) (decide_printable.l0 (k + 1) y0 y1 y2))
  | 0 => fun _ _ _ r h => by simp [decide_printable.l0] at h
  | k + 1 => by
    have ih0 := decide_printable.mono_l k
    · intro y0 y1 y2
      unfold decide_printable.l0
      repeat' first
      | (with_reducible exact ih0 _ _ _)
      | (with_reducible exact LeO.refl _)
      | (with_reducible exact LeO.none _)
      | (with_reducible refine LeO.ite ?_ ?_)
      | (with_reducible refine LeO.bind ?_ (fun _ => ?_))
      | exact ih0 _ _ _
      | exact LeO.none _
      | refine LeO.ite ?_ ?_
      | refine LeO.bind ?_ (fun _ => ?_)
theorem decide_printable.mono : ∀ a0 a1 k, LeO (decide_printable.f k a0 a1) (decide_printable.f (k + 1) a0 a1) := by
  intro a0 a1 k
  have ih0 := decide_printable.mono_l k
  unfold decide_printable.f
  repeat' first
      | (with_reducible exact ih0 _ _ _)
      | (with_reducible exact LeO.refl _)
      | (with_reducible exact LeO.none _)
      | (with_reducible refine LeO.ite ?_ ?_)
      | (with_reducible refine LeO.bind ?_ (fun _ => ?_))
      | exact ih0 _ _ _
      | exact LeO.none _
      | refine LeO.ite ?_ ?_
      | refine LeO.bind ?_ (fun _ => ?_)
set_option maxHeartbeats 8000000 in
set_option maxRecDepth 100000 in
theorem decide_printable.calls (k : Nat) (a0 : ByteArray) (a1 : Int) (r : Bool) (w : World) (h : decide_printable.f k a0 a1 = some r) :
    Calls Tryd.prog 56 #[.string a0, .int .u8 a1] w fun e w' => e = .returned (.bool r) ∧ Drawn0 w w' := by
  have H : (decide_printable.l0 k a0 a1 0) = some r := h
  clear h
  have H' := Aside0.mk H
  clear H
  go_enter Tryd.func56, Tryd.ntmps56
  go_wp2
  go_loopg [5] k (fun kq v5 w' => ∃ (x5_1 : Int), v5 = .int .i64 x5_1 ∧ Aside0 (decide_printable.l0 kq a0 a1 x5_1 = some r) ∧ Aside0 (kq ≤ k) ∧ Drawn0 w w')
  case atStart => exact ⟨(0), (by first | rfl | (simp; done) | (simp [*]; done)), H', ⟨Nat.le_refl _⟩, by repeat (first | exact Drawn0.refl _ | apply Drawn0.step)⟩
  case round =>
    clear H'
    try clear p2
    obtain ⟨x5_1, rfl, HA, HK1, ⟨m1, rfl⟩⟩ := hrel
    cases gk with
    | zero => exact absurd HA.out (by simp [decide_printable.l0])
    | succ k1 =>
      have H := HA.out
      clear HA
      simp only [decide_printable.l0] at H
      by_cases c3 : x5_1 < (a0.size : Int)
      · rw [if_pos c3] at H
        have c3b0 : decide (x5_1 < (a0.size : Int)) = true := decide_eq_true c3
        clear c3
        by_cases c4 : 0 ≤ x5_1
        · rw [if_pos c4] at H
          have c4b0 : decide (0 ≤ x5_1) = true := decide_eq_true c4
          clear c4
          by_cases c6 : (bt a0 x5_1) < a1
          · rw [if_pos c6] at H
            have c6b0 : decide ((bt a0 x5_1) < a1) = true := decide_eq_true c6
            clear c6
            obtain rfl := Option.some.inj H
            have p5 : 0 ≤ (x5_1 : Int) := of_decide_eq_true (by first | (with_reducible assumption) | assumption)
            have q5 : x5_1 < (a0.size : Int) := of_decide_eq_true (by first | (with_reducible assumption) | assumption)
            have hx5 := bt_at a0 x5_1
            replace p5 := eq_true p5
            replace q5 := eq_true q5
            go_wp2
            go_ret
            exact ⟨by first | rfl | (simp; done) | (simp [*]; done), by repeat (first | exact Drawn0.refl _ | apply Drawn0.step)⟩
          · rw [if_neg c6] at H
            have c6b0 : decide ((bt a0 x5_1) < a1) = false := decide_eq_false c6
            clear c6
            by_cases c8 : (bt a0 x5_1) > 126
            · rw [if_pos c8] at H
              have c8b0 : decide (126 < (bt a0 x5_1)) = true := decide_eq_true c8
              clear c8
              obtain rfl := Option.some.inj H
              have p5 : 0 ≤ (x5_1 : Int) := of_decide_eq_true (by first | (with_reducible assumption) | assumption)
              have q5 : x5_1 < (a0.size : Int) := of_decide_eq_true (by first | (with_reducible assumption) | assumption)
              have hx5 := bt_at a0 x5_1
              replace p5 := eq_true p5
              replace q5 := eq_true q5
              have p7 : 0 ≤ (x5_1 : Int) := of_decide_eq_true (by first | (with_reducible assumption) | assumption)
              have q7 : x5_1 < (a0.size : Int) := of_decide_eq_true (by first | (with_reducible assumption) | assumption)
              have hx7 := bt_at a0 x5_1
              replace p7 := eq_true p7
              replace q7 := eq_true q7
              go_wp2
              go_ret
              exact ⟨by first | rfl | (simp; done) | (simp [*]; done), by repeat (first | exact Drawn0.refl _ | apply Drawn0.step)⟩
            · rw [if_neg c8] at H
              have c8b0 : decide (126 < (bt a0 x5_1)) = false := decide_eq_false c8
              clear c8
              have H' := Aside0.mk H
              clear H
              have p5 : 0 ≤ (x5_1 : Int) := of_decide_eq_true (by first | (with_reducible assumption) | assumption)
              have q5 : x5_1 < (a0.size : Int) := of_decide_eq_true (by first | (with_reducible assumption) | assumption)
              have hx5 := bt_at a0 x5_1
              replace p5 := eq_true p5
              replace q5 := eq_true q5
              have p7 : 0 ≤ (x5_1 : Int) := of_decide_eq_true (by first | (with_reducible assumption) | assumption)
              have q7 : x5_1 < (a0.size : Int) := of_decide_eq_true (by first | (with_reducible assumption) | assumption)
              have hx7 := bt_at a0 x5_1
              replace p7 := eq_true p7
              replace q7 := eq_true q7
              go_wp2
              go_roundg k1
              case measure => have := HK1.out; omega
              case rel => exact ⟨(wrap64 (x5_1 + 1)), (by first | rfl | (simp; done) | (simp [*]; done)), H', ⟨by have := HK1.out; omega⟩, by repeat (first | exact Drawn0.refl _ | apply Drawn0.step)⟩
        · rw [if_neg c4] at H
          exact absurd H (by simp)
      · rw [if_neg c3] at H
        have c3b0 : decide (x5_1 < (a0.size : Int)) = false := decide_eq_false c3
        clear c3
        obtain rfl := Option.some.inj H
        go_wp2
        go_ret
        exact ⟨by first | rfl | (simp; done) | (simp [*]; done), by repeat (first | exact Drawn0.refl _ | apply Drawn0.step)⟩

/-! ### decide_fault: function 33 -/
def decide_fault.j0 : Nat → Bool → Int → Int → ByteArray → ByteArray → Option (Int)
  | 0, _, _, _, _, _ => none
  | k + 1, x10, x102000, x102001, x102002, x102003 => if x10 = true then (some 2) else (if x102002.toList = ([] : List UInt8) then (some 1) else (if (x102002.size : Int) > 32 then (some 1) else ((decide_printable.f k x102002 33).bind fun t102 => (if t102 = true then (if (x102003.size : Int) > 200 then (some 1) else ((decide_printable.f k x102003 32).bind fun t103 => (if t103 = true then (some 0) else (some 1)))) else (some 1)))))
def decide_fault.f (k : Nat) (a0_0 : Int) (a0_1 : Int) (a0_2 : ByteArray) (a0_3 : ByteArray) : Option (Int) := if a0_1 = 1 then (decide_fault.j0 k false a0_0 a0_1 a0_2 a0_3) else (decide_fault.j0 k (a0_1 != 2) a0_0 a0_1 a0_2 a0_3)
theorem decide_fault.mono_l : ∀ k, (∀ y0 y1 y2 y3 y4, LeO (decide_fault.j0 k y0 y1 y2 y3 y4) (decide_fault.j0 (k + 1) y0 y1 y2 y3 y4))
  | 0 => fun _ _ _ _ _ r h => by simp [decide_fault.j0] at h
  | k + 1 => by
    have ih0 := decide_fault.mono_l k
    · intro y0 y1 y2 y3 y4
      unfold decide_fault.j0
      repeat' first
      | (with_reducible exact ih0 _ _ _ _ _)
      | (with_reducible exact decide_printable.mono _ _ _)
      | (with_reducible exact LeO.refl _)
      | (with_reducible exact LeO.none _)
      | (with_reducible refine LeO.ite ?_ ?_)
      | (with_reducible refine LeO.bind ?_ (fun _ => ?_))
      | exact ih0 _ _ _ _ _
      | exact decide_printable.mono _ _ _
      | exact LeO.none _
      | refine LeO.ite ?_ ?_
      | refine LeO.bind ?_ (fun _ => ?_)
theorem decide_fault.mono : ∀ a0 a1 a2 a3 k, LeO (decide_fault.f k a0 a1 a2 a3) (decide_fault.f (k + 1) a0 a1 a2 a3) := by
  intro a0 a1 a2 a3 k
  have ih0 := decide_fault.mono_l k
  unfold decide_fault.f
  repeat' first
      | (with_reducible exact ih0 _ _ _ _ _)
      | (with_reducible exact decide_printable.mono _ _ _)
      | (with_reducible exact LeO.refl _)
      | (with_reducible exact LeO.none _)
      | (with_reducible refine LeO.ite ?_ ?_)
      | (with_reducible refine LeO.bind ?_ (fun _ => ?_))
      | exact ih0 _ _ _ _ _
      | exact decide_printable.mono _ _ _
      | exact LeO.none _
      | refine LeO.ite ?_ ?_
      | refine LeO.bind ?_ (fun _ => ?_)
set_option maxHeartbeats 8000000 in
set_option maxRecDepth 100000 in
theorem decide_fault.calls (k : Nat) (a0_0 : Int) (a0_1 : Int) (a0_2 : ByteArray) (a0_3 : ByteArray) (r : Int) (w : World) (h : decide_fault.f k a0_0 a0_1 a0_2 a0_3 = some r) :
    Calls Tryd.prog 33 #[.agg #[.int .u64 a0_0, .int .i64 a0_1, .string a0_2, .string a0_3]] w fun e w' => e = .returned (.int .i64 r) ∧ Below w.heap.size w w' := by
  have hu35 := Tryd.underlying35
  have HB := Aside0.mk (Below.refl w.heap.size w)
  have H : (if a0_1 = 1 then (decide_fault.j0 k false a0_0 a0_1 a0_2 a0_3) else (decide_fault.j0 k (a0_1 != 2) a0_0 a0_1 a0_2 a0_3)) = some r := h
  clear h
  have HC2 := Aside0.mk H
  clear H
  go_enter Tryd.func33, Tryd.ntmps33
  go_upto_region 1 with (first | ((with_reducible refine gate_dst (N := 1) rfl ?_); (try (refine gate_guard (by rfl) ?_; dsimp only)); refine box_event ?hg (N := 1) ?hd (cs := #[.int .u64 a0_0, .int .i64 a0_1, .string a0_2, .string a0_3]) (t := 35) ?hr ?_; (case hd => rfl); (case hg => rfl); (case hr => first | (go_simp; done) | (go_simp; rfl) | (obtain ⟨_, _, rfl⟩ := Kd.R_slice (Aside0.out (by assumption : Aside0 (Kd.R _ _ _ _ _ _ _))); go_simp; done)); intro gb101 hg w3 hbox hb; have n0_ := Aside0.mk (below_step (by repeat (first | (with_reducible first | exact HB.out | apply below_alloc | apply pw_below_drewN | apply below_drew1) | exact HB.out)) hb); have n1_ := Aside0.mk (hbox); have n2_ := Aside0.mk ((by rw [hg]; exact (below_size (by repeat (first | (with_reducible first | exact HB.out | apply below_alloc | apply pw_below_drewN | apply below_drew1) | exact HB.out))) : w.heap.size ≤ gb101)); have n3_ := Aside0.mk ((by rw [hg]; exact (below_size (by repeat (first | (with_reducible first | exact HB.out | apply below_alloc | apply pw_below_drewN | apply below_drew1) | exact HB.out))) : w.heap.size ≤ gb101)); clear HB; have HB := n0_; have BK101 := n1_; have GW101 := n2_; have GE101 := n3_; clear n0_ n1_ n2_ n3_; clear hb hbox hg))
  (try simp only [Act.put, List.setIfInBounds_toArray, List.set_cons_zero, List.set_cons_succ])
  go_cut [10] (fun v10 wc => ∃ (kq : Nat) (x10_1 : Bool), v10 = .bool x10_1 ∧ Aside0 (decide_fault.j0 kq x10_1 a0_0 a0_1 a0_2 a0_3 = some r) ∧ Aside0 (kq ≤ k) ∧ Aside0 (wc.heap[gb101]? = some (.cells #[.int .u64 a0_0, .int .i64 a0_1, .string a0_2, .string a0_3] 35 (0, 0))) ∧ Aside0 (Below w.heap.size w wc))
  case first =>
    have H := HC2.out
    clear HC2
    by_cases c4 : a0_1 = 1
    · rw [if_pos c4] at H
      have c4b0 : (a0_1 == 1) = true := beq_iff_eq.mpr c4
      have c4b1 : (a0_1 != 1) = false := bne_eq_false_iff_eq.mpr c4
      clear c4
      (first | rw [c4b0] | (simp only [i64_w, i32_w]; rw [c4b0]) | skip)
      have H' := Aside0.mk H
      clear H
      have hcz5_0 : w3.cell? ⟨gb101, 0, none⟩ = some (.int .u64 a0_0) := (blk_cell BK101.out 0).trans rfl
      have hcz5_1 : w3.cell? ⟨gb101, 1, none⟩ = some (.int .i64 a0_1) := (blk_cell BK101.out 1).trans rfl
      have hcz5_2 : w3.cell? ⟨gb101, 2, none⟩ = some (.string a0_2) := (blk_cell BK101.out 2).trans rfl
      have hcz5_3 : w3.cell? ⟨gb101, 3, none⟩ = some (.string a0_3) := (blk_cell BK101.out 3).trans rfl
      have hfz5_0 := blk_frozen BK101.out 0
      have hfz5_1 := blk_frozen BK101.out 1
      have hfz5_2 := blk_frozen BK101.out 2
      have hfz5_3 := blk_frozen BK101.out 3
      go_wp2
      go_meet
      case rel => exact ⟨_, (false), (by first | rfl | (simp; done) | (simp [*]; done)), H', ⟨by first | omega | exact Nat.le_refl _⟩, ⟨by (with_reducible repeat (first | refine blk_drewN ?_ _ | refine blk_drew ?_ | refine blk_alloc ?_ _)); exact BK101.out⟩, ⟨by repeat (first | (with_reducible first | exact HB.out | apply below_alloc | apply pw_below_drewN | apply below_drew1 | refine below_set ?_ GE101.out) | exact HB.out)⟩⟩
    · rw [if_neg c4] at H
      have c4b0 : (a0_1 == 1) = false := beq_eq_false_iff_ne.mpr c4
      have c4b1 : (a0_1 != 1) = true := bne_iff_ne.mpr c4
      (first | rw [c4b0] | (simp only [i64_w, i32_w]; rw [c4b0]) | skip)
      have H' := Aside0.mk H
      clear H
      have hcz6_0 : w3.cell? ⟨gb101, 0, none⟩ = some (.int .u64 a0_0) := (blk_cell BK101.out 0).trans rfl
      have hcz6_1 : w3.cell? ⟨gb101, 1, none⟩ = some (.int .i64 a0_1) := (blk_cell BK101.out 1).trans rfl
      have hcz6_2 : w3.cell? ⟨gb101, 2, none⟩ = some (.string a0_2) := (blk_cell BK101.out 2).trans rfl
      have hcz6_3 : w3.cell? ⟨gb101, 3, none⟩ = some (.string a0_3) := (blk_cell BK101.out 3).trans rfl
      have hfz6_0 := blk_frozen BK101.out 0
      have hfz6_1 := blk_frozen BK101.out 1
      have hfz6_2 := blk_frozen BK101.out 2
      have hfz6_3 := blk_frozen BK101.out 3
      go_wp2
      go_meet
      case rel => exact ⟨_, ((a0_1 != 2)), (by first | rfl | (simp; done) | (simp [*]; done)), H', ⟨by first | omega | exact Nat.le_refl _⟩, ⟨by (with_reducible repeat (first | refine blk_drewN ?_ _ | refine blk_drew ?_ | refine blk_alloc ?_ _)); exact BK101.out⟩, ⟨by repeat (first | (with_reducible first | exact HB.out | apply below_alloc | apply pw_below_drewN | apply below_drew1 | refine below_set ?_ GE101.out) | exact HB.out)⟩⟩
  case rest =>
    clear HC2
    try clear p2
    try clear c3
    try clear c4
    try clear c4b0
    try clear c4b1
    try clear hcz5_0
    try clear hcz5_1
    try clear hcz5_2
    try clear hcz5_3
    try clear hcz6_0
    try clear hcz6_1
    try clear hcz6_2
    try clear hcz6_3
    try clear hfz5_0
    try clear hfz5_1
    try clear hfz5_2
    try clear hfz5_3
    try clear hfz6_0
    try clear hfz6_1
    try clear hfz6_2
    try clear hfz6_3
    obtain ⟨kq, x10_1, rfl, HA, HJ1, BK101, HB⟩ := hcut
    cases kq with
    | zero => exact absurd HA.out (by simp [decide_fault.j0])
    | succ kj1 =>
      have H := HA.out
      clear HA
      simp only [decide_fault.j0] at H
      by_cases c7 : x10_1 = true
      · subst c7
        have H1 : (some 2) = some r := by rw [if_pos rfl] at H; exact H
        clear H
        have H := H1
        clear H1
        obtain rfl := Option.some.inj H
        go_wp2
        go_ret
        exact ⟨by first | rfl | (simp [errW_none, errW_some] <;> rfl) | (simp [*, errW_none, errW_some] <;> rfl), by repeat (first | (with_reducible first | exact HB.out | apply below_alloc | apply pw_below_drewN | apply below_drew1 | refine below_set ?_ GE101.out) | exact HB.out)⟩
      · replace c7 := Bool.eq_false_iff.mpr c7
        subst c7
        have H1 : (if a0_2.toList = ([] : List UInt8) then (some 1) else (if (a0_2.size : Int) > 32 then (some 1) else ((decide_printable.f kj1 a0_2 33).bind fun t102 => (if t102 = true then (if (a0_3.size : Int) > 200 then (some 1) else ((decide_printable.f kj1 a0_3 32).bind fun t103 => (if t103 = true then (some 0) else (some 1)))) else (some 1))))) = some r := by rw [if_neg (show ¬ (false = true) by decide)] at H; exact H
        clear H
        have H := H1
        clear H1
        by_cases c8 : a0_2.toList = ([] : List UInt8)
        · rw [if_pos c8] at H
          have c8b0 : (a0_2.toList == ([] : List UInt8)) = true := beq_iff_eq.mpr c8
          have c8b1 : (a0_2.toList != ([] : List UInt8)) = false := bne_eq_false_iff_eq.mpr c8
          clear c8
          obtain rfl := Option.some.inj H
          have hcz9_0 : wc.cell? ⟨gb101, 0, none⟩ = some (.int .u64 a0_0) := (blk_cell BK101.out 0).trans rfl
          have hcz9_1 : wc.cell? ⟨gb101, 1, none⟩ = some (.int .i64 a0_1) := (blk_cell BK101.out 1).trans rfl
          have hcz9_2 : wc.cell? ⟨gb101, 2, none⟩ = some (.string a0_2) := (blk_cell BK101.out 2).trans rfl
          have hcz9_3 : wc.cell? ⟨gb101, 3, none⟩ = some (.string a0_3) := (blk_cell BK101.out 3).trans rfl
          have hfz9_0 := blk_frozen BK101.out 0
          have hfz9_1 := blk_frozen BK101.out 1
          have hfz9_2 := blk_frozen BK101.out 2
          have hfz9_3 := blk_frozen BK101.out 3
          go_wp2
          go_ret
          exact ⟨by first | rfl | (simp [errW_none, errW_some] <;> rfl) | (simp [*, errW_none, errW_some] <;> rfl), by repeat (first | (with_reducible first | exact HB.out | apply below_alloc | apply pw_below_drewN | apply below_drew1 | refine below_set ?_ GE101.out) | exact HB.out)⟩
        · rw [if_neg c8] at H
          have c8b0 : (a0_2.toList == ([] : List UInt8)) = false := beq_eq_false_iff_ne.mpr c8
          have c8b1 : (a0_2.toList != ([] : List UInt8)) = true := bne_iff_ne.mpr c8
          by_cases c10 : (a0_2.size : Int) > 32
          · rw [if_pos c10] at H
            have c10b0 : decide (32 < (a0_2.size : Int)) = true := decide_eq_true c10
            have c10b1 : decide (32 < a0_2.size) = true := decide_eq_true (by omega)
            clear c10
            obtain rfl := Option.some.inj H
            have hcz11_0 : wc.cell? ⟨gb101, 0, none⟩ = some (.int .u64 a0_0) := (blk_cell BK101.out 0).trans rfl
            have hcz11_1 : wc.cell? ⟨gb101, 1, none⟩ = some (.int .i64 a0_1) := (blk_cell BK101.out 1).trans rfl
            have hcz11_2 : wc.cell? ⟨gb101, 2, none⟩ = some (.string a0_2) := (blk_cell BK101.out 2).trans rfl
            have hcz11_3 : wc.cell? ⟨gb101, 3, none⟩ = some (.string a0_3) := (blk_cell BK101.out 3).trans rfl
            have hfz11_0 := blk_frozen BK101.out 0
            have hfz11_1 := blk_frozen BK101.out 1
            have hfz11_2 := blk_frozen BK101.out 2
            have hfz11_3 := blk_frozen BK101.out 3
            go_wp2
            go_ret
            exact ⟨by first | rfl | (simp [errW_none, errW_some] <;> rfl) | (simp [*, errW_none, errW_some] <;> rfl), by repeat (first | (with_reducible first | exact HB.out | apply below_alloc | apply pw_below_drewN | apply below_drew1 | refine below_set ?_ GE101.out) | exact HB.out)⟩
          · rw [if_neg c10] at H
            have c10b0 : decide (32 < (a0_2.size : Int)) = false := decide_eq_false c10
            have c10b1 : decide (32 < a0_2.size) = false := decide_eq_false (by omega)
            clear c10
            replace H := Option.bind_eq_some_iff.mp H
            obtain ⟨t102, A120, H⟩ := H
            replace H : (if t102 = true then (if (a0_3.size : Int) > 200 then (some 1) else ((decide_printable.f kj1 a0_3 32).bind fun t103 => (if t103 = true then (some 0) else (some 1)))) else (some 1)) = some r := H
            have A12 := Aside0.mk A120
            clear A120
            by_cases c13 : t102 = true
            · subst c13
              have H1 : (if (a0_3.size : Int) > 200 then (some 1) else ((decide_printable.f kj1 a0_3 32).bind fun t103 => (if t103 = true then (some 0) else (some 1)))) = some r := by rw [if_pos rfl] at H; exact H
              clear H
              have H := H1
              clear H1
              by_cases c14 : (a0_3.size : Int) > 200
              · rw [if_pos c14] at H
                have c14b0 : decide (200 < (a0_3.size : Int)) = true := decide_eq_true c14
                have c14b1 : decide (200 < a0_3.size) = true := decide_eq_true (by omega)
                clear c14
                obtain rfl := Option.some.inj H
                have hcz15_0 : wc.cell? ⟨gb101, 0, none⟩ = some (.int .u64 a0_0) := (blk_cell BK101.out 0).trans rfl
                have hcz15_1 : wc.cell? ⟨gb101, 1, none⟩ = some (.int .i64 a0_1) := (blk_cell BK101.out 1).trans rfl
                have hcz15_2 : wc.cell? ⟨gb101, 2, none⟩ = some (.string a0_2) := (blk_cell BK101.out 2).trans rfl
                have hcz15_3 : wc.cell? ⟨gb101, 3, none⟩ = some (.string a0_3) := (blk_cell BK101.out 3).trans rfl
                have hfz15_0 := blk_frozen BK101.out 0
                have hfz15_1 := blk_frozen BK101.out 1
                have hfz15_2 := blk_frozen BK101.out 2
                have hfz15_3 := blk_frozen BK101.out 3
                go_wp2_with (first | (go_at_call 56; (with_reducible refine (decide_printable.calls kj1 a0_2 33 true _ A12.out).mono ?_); rintro e w' ⟨rfl, ⟨nd, rfl⟩⟩))
                go_ret
                exact ⟨by first | rfl | (simp [errW_none, errW_some] <;> rfl) | (simp [*, errW_none, errW_some] <;> rfl), by repeat (first | (with_reducible first | exact HB.out | apply below_alloc | apply pw_below_drewN | apply below_drew1 | refine below_set ?_ GE101.out) | exact HB.out)⟩
              · rw [if_neg c14] at H
                have c14b0 : decide (200 < (a0_3.size : Int)) = false := decide_eq_false c14
                have c14b1 : decide (200 < a0_3.size) = false := decide_eq_false (by omega)
                clear c14
                replace H := Option.bind_eq_some_iff.mp H
                obtain ⟨t103, A160, H⟩ := H
                replace H : (if t103 = true then (some 0) else (some 1)) = some r := H
                have A16 := Aside0.mk A160
                clear A160
                by_cases c17 : t103 = true
                · subst c17
                  have H1 : (some 0) = some r := by rw [if_pos rfl] at H; exact H
                  clear H
                  have H := H1
                  clear H1
                  obtain rfl := Option.some.inj H
                  have hcz18_0 : wc.cell? ⟨gb101, 0, none⟩ = some (.int .u64 a0_0) := (blk_cell BK101.out 0).trans rfl
                  have hcz18_1 : wc.cell? ⟨gb101, 1, none⟩ = some (.int .i64 a0_1) := (blk_cell BK101.out 1).trans rfl
                  have hcz18_2 : wc.cell? ⟨gb101, 2, none⟩ = some (.string a0_2) := (blk_cell BK101.out 2).trans rfl
                  have hcz18_3 : wc.cell? ⟨gb101, 3, none⟩ = some (.string a0_3) := (blk_cell BK101.out 3).trans rfl
                  have hfz18_0 := blk_frozen BK101.out 0
                  have hfz18_1 := blk_frozen BK101.out 1
                  have hfz18_2 := blk_frozen BK101.out 2
                  have hfz18_3 := blk_frozen BK101.out 3
                  go_wp2_with (first | (go_at_call 56; (with_reducible refine (decide_printable.calls kj1 a0_2 33 true _ A12.out).mono ?_); rintro e w' ⟨rfl, ⟨nd, rfl⟩⟩) | (go_at_call 56; (with_reducible refine (decide_printable.calls kj1 a0_3 32 true _ A16.out).mono ?_); rintro e w' ⟨rfl, ⟨nd, rfl⟩⟩))
                  go_ret
                  exact ⟨by first | rfl | (simp [errW_none, errW_some] <;> rfl) | (simp [*, errW_none, errW_some] <;> rfl), by repeat (first | (with_reducible first | exact HB.out | apply below_alloc | apply pw_below_drewN | apply below_drew1 | refine below_set ?_ GE101.out) | exact HB.out)⟩
                · replace c17 := Bool.eq_false_iff.mpr c17
                  subst c17
                  have H1 : (some 1) = some r := by rw [if_neg (show ¬ (false = true) by decide)] at H; exact H
                  clear H
                  have H := H1
                  clear H1
                  obtain rfl := Option.some.inj H
                  have hcz19_0 : wc.cell? ⟨gb101, 0, none⟩ = some (.int .u64 a0_0) := (blk_cell BK101.out 0).trans rfl
                  have hcz19_1 : wc.cell? ⟨gb101, 1, none⟩ = some (.int .i64 a0_1) := (blk_cell BK101.out 1).trans rfl
                  have hcz19_2 : wc.cell? ⟨gb101, 2, none⟩ = some (.string a0_2) := (blk_cell BK101.out 2).trans rfl
                  have hcz19_3 : wc.cell? ⟨gb101, 3, none⟩ = some (.string a0_3) := (blk_cell BK101.out 3).trans rfl
                  have hfz19_0 := blk_frozen BK101.out 0
                  have hfz19_1 := blk_frozen BK101.out 1
                  have hfz19_2 := blk_frozen BK101.out 2
                  have hfz19_3 := blk_frozen BK101.out 3
                  go_wp2_with (first | (go_at_call 56; (with_reducible refine (decide_printable.calls kj1 a0_2 33 true _ A12.out).mono ?_); rintro e w' ⟨rfl, ⟨nd, rfl⟩⟩) | (go_at_call 56; (with_reducible refine (decide_printable.calls kj1 a0_3 32 false _ A16.out).mono ?_); rintro e w' ⟨rfl, ⟨nd, rfl⟩⟩))
                  go_ret
                  exact ⟨by first | rfl | (simp [errW_none, errW_some] <;> rfl) | (simp [*, errW_none, errW_some] <;> rfl), by repeat (first | (with_reducible first | exact HB.out | apply below_alloc | apply pw_below_drewN | apply below_drew1 | refine below_set ?_ GE101.out) | exact HB.out)⟩
            · replace c13 := Bool.eq_false_iff.mpr c13
              subst c13
              have H1 : (some 1) = some r := by rw [if_neg (show ¬ (false = true) by decide)] at H; exact H
              clear H
              have H := H1
              clear H1
              obtain rfl := Option.some.inj H
              have hcz20_0 : wc.cell? ⟨gb101, 0, none⟩ = some (.int .u64 a0_0) := (blk_cell BK101.out 0).trans rfl
              have hcz20_1 : wc.cell? ⟨gb101, 1, none⟩ = some (.int .i64 a0_1) := (blk_cell BK101.out 1).trans rfl
              have hcz20_2 : wc.cell? ⟨gb101, 2, none⟩ = some (.string a0_2) := (blk_cell BK101.out 2).trans rfl
              have hcz20_3 : wc.cell? ⟨gb101, 3, none⟩ = some (.string a0_3) := (blk_cell BK101.out 3).trans rfl
              have hfz20_0 := blk_frozen BK101.out 0
              have hfz20_1 := blk_frozen BK101.out 1
              have hfz20_2 := blk_frozen BK101.out 2
              have hfz20_3 := blk_frozen BK101.out 3
              go_wp2_with (first | (go_at_call 56; (with_reducible refine (decide_printable.calls kj1 a0_2 33 false _ A12.out).mono ?_); rintro e w' ⟨rfl, ⟨nd, rfl⟩⟩))
              go_ret
              exact ⟨by first | rfl | (simp [errW_none, errW_some] <;> rfl) | (simp [*, errW_none, errW_some] <;> rfl), by repeat (first | (with_reducible first | exact HB.out | apply below_alloc | apply pw_below_drewN | apply below_drew1 | refine below_set ?_ GE101.out) | exact HB.out)⟩

-- NOT PRINTED: function 34 (decide_Book_has)

-- NOT PRINTED: function 35 (sort_Search)

-- NOT PRINTED: function 17 (decide_Book_Add)

-- NOT PRINTED: function 29 (lines_Split)

/-! ### digest_Hex: function 58 (by hand) -/
def nib (d : Int) (i : Nat) : Int := d / 2 ^ (60 - 4 * i) % 16
theorem nib_lo (d : Int) (i : Nat) : 0 ≤ nib d i := by unfold nib; omega
theorem nib_hi (d : Int) (i : Nat) : nib d i < 16 := by unfold nib; omega
def hexc (d : Int) (i : Nat) : Int := digv (nib d i).toNat
theorem wraps_u64 (n : Int) (h₀ : 0 ≤ n) (h₁ : n < 2 ^ 64) : IntKind.u64.wrap n = n := by
  simp only [IntKind.wrap, IntKind.bits, IntKind.signed]
  simp
  omega
theorem u64_and15 (x : Int) (h₀ : 0 ≤ x) (h₁ : x < 2 ^ 64) : Go.bits .and .u64 x 15 = x % 16 := bits_mask .u64 64 (by decide) wraps_u64 4 (by decide) x h₀ h₁
theorem div_pow_lt (d : Int) (j : Nat) (h0 : 0 ≤ d) (h1 : d < 2 ^ 64) : 0 ≤ d / 2 ^ j ∧ d / 2 ^ j < 2 ^ 64 := by
  have hp : (0 : Int) < 2 ^ j := Int.pow_pos (by decide)
  refine ⟨Int.ediv_nonneg h0 (Int.le_of_lt hp), ?_⟩
  exact Int.lt_of_le_of_lt (Int.ediv_le_self _ h0) h1
def hexCells (d : Int) (i : Nat) : Array Value := ((List.range 16).map fun j => if j < i then Value.int .u8 (hexc d j) else .int .u8 0).toArray
theorem hexCells_at (d : Int) (i j : Nat) (hj : j < 16) : (hexCells d i)[j]? = some (if j < i then Value.int .u8 (hexc d j) else .int .u8 0) := by
  simp only [hexCells, List.getElem?_toArray, List.getElem?_map, List.getElem?_range hj, Option.map_some]
theorem hexCells_size (d : Int) (i : Nat) : (hexCells d i).size = 16 := by simp [hexCells]
theorem hexCells_set (d : Int) (i : Nat) (hi : i < 16) : (hexCells d i).setIfInBounds i (.int .u8 (hexc d i)) = hexCells d (i + 1) := by
  apply Array.ext_getElem?
  intro j
  rw [Array.getElem?_setIfInBounds]
  rcases Nat.lt_or_ge j 16 with hj | hj
  · rw [hexCells_at d _ j hj, hexCells_at d _ j hj, hexCells_size]
    by_cases e : i = j
    · subst e
      rw [if_pos rfl, if_pos hi, if_pos (by omega)]
    · rw [if_neg e]
      by_cases h : j < i
      · rw [if_pos h, if_pos (by omega)]
      · rw [if_neg h, if_neg (by omega)]
  · rw [if_neg (by omega), Array.getElem?_eq_none (by rw [hexCells_size]; omega), Array.getElem?_eq_none (by rw [hexCells_size]; omega)]
def hexS (d : Int) : ByteArray := ⟨((List.range 16).map fun j => UInt8.ofNat (hexc d j).toNat).toArray⟩
theorem digv_range (v : Nat) : 0 ≤ digv v ∧ digv v < 256 := by
  unfold digv
  rcases Nat.lt_or_ge v 16 with h | h
  · have : ∀ v < 16, 0 ≤ digs.getD v 0 ∧ digs.getD v 0 < 256 := by decide
    exact this v h
  · rw [List.getD_eq_getElem?_getD, List.getElem?_eq_none (by simpa [digs] using h)]; decide
theorem digs_cell (v : Nat) (h : v < 16) : digsA[v]? = some (.int .u8 (digv v)) := by
  have : ∀ v < 16, digsA[v]? = some (.int .u8 (digv v)) := by
    intro v hv
    match v, hv with
    | 0, _ => rfl
    | 1, _ => rfl
    | 2, _ => rfl
    | 3, _ => rfl
    | 4, _ => rfl
    | 5, _ => rfl
    | 6, _ => rfl
    | 7, _ => rfl
    | 8, _ => rfl
    | 9, _ => rfl
    | 10, _ => rfl
    | 11, _ => rfl
    | 12, _ => rfl
    | 13, _ => rfl
    | 14, _ => rfl
    | 15, _ => rfl
    | v + 16, h => omega
  exact this v h
def digest_Hex.f (d : Int) : Option ByteArray := if 0 ≤ d ∧ d < 2 ^ 64 then some (hexS d) else none
set_option maxHeartbeats 1000000 in
theorem digest_Hex.calls (a0 : Int) (r : ByteArray) (w : World) (hG : Glob w) (h : digest_Hex.f a0 = some r) : Calls Tryd.prog 58 #[.int .u64 a0] w fun e w' => e = .returned (.string r) ∧ Below w.heap.size w w' := by
  unfold digest_Hex.f at h
  by_cases hr : 0 ≤ a0 ∧ a0 < 2 ^ 64
  · rw [if_pos hr] at h
    obtain ⟨hr0, hr1⟩ := hr
    have HR1 := Aside0.mk hr1
    clear hr1
    obtain rfl := Option.some.inj h
    clear h
    have HH : Aside0 (∃ s, s = hexS a0) := ⟨⟨_, rfl⟩⟩
    go_enter Tryd.func58, Tryd.ntmps58
    go_wp2
    go_loopg [5] 16 (fun gk v5 w' => ∃ i : Nat, v5 = .int .i64 i ∧ i + gk = 16 ∧ Aside0 (Below w.heap.size w w') ∧ Aside0 (w'.heap[w.heap.size]? = some (.cells (hexCells a0 i) 112 (0, 0))))
    case atStart =>
      refine ⟨0, rfl, rfl, ⟨?_⟩, ⟨?_⟩⟩
      · exact (Below.refl _ _).alloc (Nat.le_refl _) _
      · exact blk_new w _
    case round =>
      obtain ⟨i, rfl, hi, HB, HC⟩ := hrel
      obtain ⟨go, rfl⟩ : ∃ go, go = gk := ⟨gk, rfl⟩
      have HI := Aside0.mk hi
      cases go with
      | zero =>
        have h1 : decide ((i : Int) < 16) = false := decide_eq_false (by omega)
        have hs : ∀ W : World, W.heap[w.heap.size]? = some (.cells (hexCells a0 i) 112 (0, 0)) → Sem.run Tryd.prog (convert 78 9 (.slice (some ⟨w.heap.size, 0, none⟩) 16 16)) W = .ok (.string (hexS a0)) W := by
          intro W hW
          have := run_convert_bytes_back (P := Tryd.prog) W 78 9 5 ⟨w.heap.size, 0, none⟩ 16 ((List.range 16).map fun j => UInt8.ofNat (hexc a0 j).toNat) Tryd.underlying78 Tryd.underlying5 Tryd.underlying9 (fun j hj => by
            have hadd : (⟨w.heap.size, 0, none⟩ : Addr).add j = ⟨w.heap.size, j, none⟩ := by unfold Addr.add; split <;> simp_all
            simp only [List.length_map, List.length_range] at hj
            rw [hadd, blk_cell hW j]
            have hx := digv_range (nib a0 j).toNat
            have hi16 : i = 16 := by omega
            subst hi16
            rw [hexCells_at _ _ _ hj, if_pos hj]
            simp only [List.getElem_map, List.getElem_range, Option.some.injEq, Value.int.injEq, true_and]
            simp only [hexc] at hx ⊢
            simp
            omega)
          simpa [hexS] using this
        have hcc := hs _ HC.out
        clear hs hi
        go_wp2
        go_ret
        exact ⟨rfl, HB.out⟩
      | succ g =>
        have h1 : decide ((i : Int) < 16) = true := decide_eq_true (by omega)
        have h2 : i < 16 := by omega
        have hd := div_pow_lt a0 (60 - 4 * i) hr0 HR1.out
        have hb : Go.bits .and .u64 (a0 / 2 ^ (60 - 4 * i)) 15 = nib a0 i := u64_and15 _ hd.1 hd.2
        have n0 := nib_lo a0 i
        have n1 := nib_hi a0 i
        have hgl : 0 < w.heap.size := (Glob.digs hG).lt
        have hcell : wr.cell? ⟨0, (nib a0 i).toNat, none⟩ = some (.int .u8 (hexc a0 i)) := by
          obtain ⟨t, fr, hg⟩ := GlobAt.below HB.out (Glob.digs hG)
          rw [cell_of_row _ _ _ _ _ _ hg]
          exact digs_cell _ (by omega)
        have hfr : wr.frozen? ⟨w.heap.size, i, none⟩ = false := blk_frozen HC.out i
        have hcc : wr.cell? ⟨w.heap.size, i, none⟩ = some (.int .u8 0) := by
          rw [blk_cell HC.out i]
          rw [hexCells_at _ _ _ h2, if_neg (by omega)]
        clear hi hd hr0
        go_wp2
        go_roundg g
        case measure => omega
        case rel =>
          refine ⟨i + 1, by go_num, by have := HI.out; omega, ⟨HB.out.setCell (Nat.le_refl _) _⟩, ⟨blk_put HC.out i _ (hexCells_set a0 i h2)⟩⟩
  · rw [if_neg hr] at h
    exact absurd h (by simp)

/-! ### decide_line: function 39 (by hand) -/
theorem hexS_size (a : Int) : (hexS a).size = 16 := by
  show ((List.range 16).map fun j => UInt8.ofNat (hexc a j).toNat).toArray.size = 16
  simp
def lineS (a0 a1 : Int) (a2 a3 : ByteArray) : ByteArray := if a3.toList = [] then hexS a0 ++ (if a1 = 2 then (⟨#[32, 114, 105, 103, 104, 116, 32]⟩ : ByteArray) else ⟨#[32, 108, 101, 102, 116, 32]⟩) ++ a2 ++ ⟨#[10]⟩ else hexS a0 ++ (if a1 = 2 then (⟨#[32, 114, 105, 103, 104, 116, 32]⟩ : ByteArray) else ⟨#[32, 108, 101, 102, 116, 32]⟩) ++ a2 ++ (⟨#[32]⟩ ++ a3) ++ ⟨#[10]⟩
def decide_line.f (a0 a1 : Int) (a2 a3 : ByteArray) : Option ByteArray := if 0 ≤ a0 ∧ a0 < 2 ^ 64 ∧ a2.size ≤ 1000000 ∧ a3.size ≤ 1000000 then some (lineS a0 a1 a2 a3) else none
set_option maxHeartbeats 8000000 in
set_option maxRecDepth 100000 in
theorem lineRE (a0 : Int) (a2 a3 : ByteArray) (w : World) (hG : Glob w) (h0 : 0 ≤ a0) (h1 : a0 < 2 ^ 64) (h2 : a2.size ≤ 1000000) (h3 : a3.size ≤ 1000000) (he : a3.toList = []) : Calls Tryd.prog 39 #[.agg #[.int .u64 a0, .int .i64 2, .string a2, .string a3]] w fun e w' => e = .returned (.string (hexS a0 ++ (⟨#[32, 114, 105, 103, 104, 116, 32]⟩ : ByteArray) ++ a2 ++ ⟨#[10]⟩)) ∧ Below w.heap.size w w' := by
  have HG := Aside0.mk hG
  have HSZ := Aside0.mk (hexS_size a0)
  have HF := Aside0.mk (show digest_Hex.f a0 = some (hexS a0) by rw [digest_Hex.f, if_pos ⟨h0, h1⟩])
  have HN := Aside0.mk he
  have g1 : (a3.toList == ([] : List UInt8)) = true := by rw [he]; rfl
  have g2 : (a3.toList != ([] : List UInt8)) = false := by rw [he]; rfl
  clear he hG
  generalize hexS a0 = hx at *
  have q1 : (9223372036854775807 < hx.size + 7) = False := eq_false (by have := HSZ.out; omega)
  have q2 : (9223372036854775807 < hx.size + 7 + a2.size) = False := eq_false (by have := HSZ.out; omega)
  have q3 : (9223372036854775807 < hx.size + 7 + a2.size + 1) = False := eq_false (by have := HSZ.out; omega)
  have q4 : (9223372036854775807 < 1 + a3.size) = False := eq_false (by omega)
  have q5 : (9223372036854775807 < hx.size + 7 + a2.size + (1 + a3.size)) = False := eq_false (by have := HSZ.out; omega)
  have q6 : (9223372036854775807 < hx.size + 7 + a2.size + (1 + a3.size) + 1) = False := eq_false (by have := HSZ.out; omega)
  go_enter Tryd.func39, Tryd.ntmps39
  have HW : Aside0 (Below w.heap.size w (w.alloc (.cells #[.int .u64 a0, .int .i64 2, .string a2, .string a3] 35 (0, 0))).drew) := ⟨pw_below_drewN (below_alloc (Below.refl _ _) _) 1⟩
  have HGW := Aside0.mk (Glob.below HW.out HG.out)
  have HZ : Aside0 ((w.alloc (.cells #[.int .u64 a0, .int .i64 2, .string a2, .string a3] 35 (0, 0))).drew.heap[w.heap.size]? = some (.cells #[.int .u64 a0, .int .i64 2, .string a2, .string a3] 35 (0, 0))) := ⟨blk_new w _⟩
  go_wp2
  go_region_law (go_simp; go_at_call 58; (refine (digest_Hex.calls a0 hx _ HGW.out HF.out).mono ?_; rintro e w1 ⟨rfl, hb1⟩; have hz := blk_below HZ.out hb1; have hz2 := (blk_cell hz 2).trans rfl; have hz3 := (blk_cell hz 3).trans rfl; change _ = some (Value.string a2) at hz2; change _ = some (Value.string a3) at hz3; have HB1 := Aside0.mk (below_step HW.out hb1); clear hb1 hz))
  all_goals go_wp2
  all_goals go_ret
  all_goals exact ⟨rfl, HB1.out⟩
set_option maxHeartbeats 8000000 in
set_option maxRecDepth 100000 in
theorem lineRN (a0 : Int) (a2 a3 : ByteArray) (w : World) (hG : Glob w) (h0 : 0 ≤ a0) (h1 : a0 < 2 ^ 64) (h2 : a2.size ≤ 1000000) (h3 : a3.size ≤ 1000000) (he : a3.toList ≠ []) : Calls Tryd.prog 39 #[.agg #[.int .u64 a0, .int .i64 2, .string a2, .string a3]] w fun e w' => e = .returned (.string (hexS a0 ++ (⟨#[32, 114, 105, 103, 104, 116, 32]⟩ : ByteArray) ++ a2 ++ (⟨#[32]⟩ ++ a3) ++ ⟨#[10]⟩)) ∧ Below w.heap.size w w' := by
  have HG := Aside0.mk hG
  have HSZ := Aside0.mk (hexS_size a0)
  have HF := Aside0.mk (show digest_Hex.f a0 = some (hexS a0) by rw [digest_Hex.f, if_pos ⟨h0, h1⟩])
  have HN := Aside0.mk he
  have g1 : (a3.toList == ([] : List UInt8)) = false := beq_eq_false_iff_ne.2 he
  have g2 : (a3.toList != ([] : List UInt8)) = true := bne_iff_ne.2 he
  clear he hG
  generalize hexS a0 = hx at *
  have q1 : (9223372036854775807 < hx.size + 7) = False := eq_false (by have := HSZ.out; omega)
  have q2 : (9223372036854775807 < hx.size + 7 + a2.size) = False := eq_false (by have := HSZ.out; omega)
  have q3 : (9223372036854775807 < hx.size + 7 + a2.size + 1) = False := eq_false (by have := HSZ.out; omega)
  have q4 : (9223372036854775807 < 1 + a3.size) = False := eq_false (by omega)
  have q5 : (9223372036854775807 < hx.size + 7 + a2.size + (1 + a3.size)) = False := eq_false (by have := HSZ.out; omega)
  have q6 : (9223372036854775807 < hx.size + 7 + a2.size + (1 + a3.size) + 1) = False := eq_false (by have := HSZ.out; omega)
  go_enter Tryd.func39, Tryd.ntmps39
  have HW : Aside0 (Below w.heap.size w (w.alloc (.cells #[.int .u64 a0, .int .i64 2, .string a2, .string a3] 35 (0, 0))).drew) := ⟨pw_below_drewN (below_alloc (Below.refl _ _) _) 1⟩
  have HGW := Aside0.mk (Glob.below HW.out HG.out)
  have HZ : Aside0 ((w.alloc (.cells #[.int .u64 a0, .int .i64 2, .string a2, .string a3] 35 (0, 0))).drew.heap[w.heap.size]? = some (.cells #[.int .u64 a0, .int .i64 2, .string a2, .string a3] 35 (0, 0))) := ⟨blk_new w _⟩
  go_wp2
  go_region_law (go_simp; go_at_call 58; (refine (digest_Hex.calls a0 hx _ HGW.out HF.out).mono ?_; rintro e w1 ⟨rfl, hb1⟩; have hz := blk_below HZ.out hb1; have hz2 := (blk_cell hz 2).trans rfl; have hz3 := (blk_cell hz 3).trans rfl; change _ = some (Value.string a2) at hz2; change _ = some (Value.string a3) at hz3; have HB1 := Aside0.mk (below_step HW.out hb1); clear hb1 hz))
  all_goals go_wp2
  all_goals go_ret
  all_goals exact ⟨rfl, HB1.out⟩
set_option maxHeartbeats 8000000 in
set_option maxRecDepth 100000 in
theorem lineLE (a0 : Int) (a1 : Int) (ha1 : a1 ≠ 2) (a2 a3 : ByteArray) (w : World) (hG : Glob w) (h0 : 0 ≤ a0) (h1 : a0 < 2 ^ 64) (h2 : a2.size ≤ 1000000) (h3 : a3.size ≤ 1000000) (he : a3.toList = []) : Calls Tryd.prog 39 #[.agg #[.int .u64 a0, .int .i64 a1, .string a2, .string a3]] w fun e w' => e = .returned (.string (hexS a0 ++ (⟨#[32, 108, 101, 102, 116, 32]⟩ : ByteArray) ++ a2 ++ ⟨#[10]⟩)) ∧ Below w.heap.size w w' := by
  have HG := Aside0.mk hG
  have HSZ := Aside0.mk (hexS_size a0)
  have HF := Aside0.mk (show digest_Hex.f a0 = some (hexS a0) by rw [digest_Hex.f, if_pos ⟨h0, h1⟩])
  have HN := Aside0.mk he
  have g1 : (a3.toList == ([] : List UInt8)) = true := by rw [he]; rfl
  have g2 : (a3.toList != ([] : List UInt8)) = false := by rw [he]; rfl
  have g3 : (a1 == 2) = false := beq_eq_false_iff_ne.2 ha1
  have g4 : (a1 != 2) = true := bne_iff_ne.2 ha1
  clear he hG
  generalize hexS a0 = hx at *
  have q1 : (9223372036854775807 < hx.size + 6) = False := eq_false (by have := HSZ.out; omega)
  have q2 : (9223372036854775807 < hx.size + 6 + a2.size) = False := eq_false (by have := HSZ.out; omega)
  have q3 : (9223372036854775807 < hx.size + 6 + a2.size + 1) = False := eq_false (by have := HSZ.out; omega)
  have q4 : (9223372036854775807 < 1 + a3.size) = False := eq_false (by omega)
  have q5 : (9223372036854775807 < hx.size + 6 + a2.size + (1 + a3.size)) = False := eq_false (by have := HSZ.out; omega)
  have q6 : (9223372036854775807 < hx.size + 6 + a2.size + (1 + a3.size) + 1) = False := eq_false (by have := HSZ.out; omega)
  go_enter Tryd.func39, Tryd.ntmps39
  have HW : Aside0 (Below w.heap.size w (w.alloc (.cells #[.int .u64 a0, .int .i64 a1, .string a2, .string a3] 35 (0, 0))).drew) := ⟨pw_below_drewN (below_alloc (Below.refl _ _) _) 1⟩
  have HGW := Aside0.mk (Glob.below HW.out HG.out)
  have HZ : Aside0 ((w.alloc (.cells #[.int .u64 a0, .int .i64 a1, .string a2, .string a3] 35 (0, 0))).drew.heap[w.heap.size]? = some (.cells #[.int .u64 a0, .int .i64 a1, .string a2, .string a3] 35 (0, 0))) := ⟨blk_new w _⟩
  go_wp2
  go_region_law (go_simp; go_at_call 58; (refine (digest_Hex.calls a0 hx _ HGW.out HF.out).mono ?_; rintro e w1 ⟨rfl, hb1⟩; have hz := blk_below HZ.out hb1; have hz2 := (blk_cell hz 2).trans rfl; have hz3 := (blk_cell hz 3).trans rfl; change _ = some (Value.string a2) at hz2; change _ = some (Value.string a3) at hz3; have HB1 := Aside0.mk (below_step HW.out hb1); clear hb1 hz))
  all_goals go_wp2
  all_goals go_ret
  all_goals exact ⟨rfl, HB1.out⟩
set_option maxHeartbeats 8000000 in
set_option maxRecDepth 100000 in
theorem lineLN (a0 : Int) (a1 : Int) (ha1 : a1 ≠ 2) (a2 a3 : ByteArray) (w : World) (hG : Glob w) (h0 : 0 ≤ a0) (h1 : a0 < 2 ^ 64) (h2 : a2.size ≤ 1000000) (h3 : a3.size ≤ 1000000) (he : a3.toList ≠ []) : Calls Tryd.prog 39 #[.agg #[.int .u64 a0, .int .i64 a1, .string a2, .string a3]] w fun e w' => e = .returned (.string (hexS a0 ++ (⟨#[32, 108, 101, 102, 116, 32]⟩ : ByteArray) ++ a2 ++ (⟨#[32]⟩ ++ a3) ++ ⟨#[10]⟩)) ∧ Below w.heap.size w w' := by
  have HG := Aside0.mk hG
  have HSZ := Aside0.mk (hexS_size a0)
  have HF := Aside0.mk (show digest_Hex.f a0 = some (hexS a0) by rw [digest_Hex.f, if_pos ⟨h0, h1⟩])
  have HN := Aside0.mk he
  have g1 : (a3.toList == ([] : List UInt8)) = false := beq_eq_false_iff_ne.2 he
  have g2 : (a3.toList != ([] : List UInt8)) = true := bne_iff_ne.2 he
  have g3 : (a1 == 2) = false := beq_eq_false_iff_ne.2 ha1
  have g4 : (a1 != 2) = true := bne_iff_ne.2 ha1
  clear he hG
  generalize hexS a0 = hx at *
  have q1 : (9223372036854775807 < hx.size + 6) = False := eq_false (by have := HSZ.out; omega)
  have q2 : (9223372036854775807 < hx.size + 6 + a2.size) = False := eq_false (by have := HSZ.out; omega)
  have q3 : (9223372036854775807 < hx.size + 6 + a2.size + 1) = False := eq_false (by have := HSZ.out; omega)
  have q4 : (9223372036854775807 < 1 + a3.size) = False := eq_false (by omega)
  have q5 : (9223372036854775807 < hx.size + 6 + a2.size + (1 + a3.size)) = False := eq_false (by have := HSZ.out; omega)
  have q6 : (9223372036854775807 < hx.size + 6 + a2.size + (1 + a3.size) + 1) = False := eq_false (by have := HSZ.out; omega)
  go_enter Tryd.func39, Tryd.ntmps39
  have HW : Aside0 (Below w.heap.size w (w.alloc (.cells #[.int .u64 a0, .int .i64 a1, .string a2, .string a3] 35 (0, 0))).drew) := ⟨pw_below_drewN (below_alloc (Below.refl _ _) _) 1⟩
  have HGW := Aside0.mk (Glob.below HW.out HG.out)
  have HZ : Aside0 ((w.alloc (.cells #[.int .u64 a0, .int .i64 a1, .string a2, .string a3] 35 (0, 0))).drew.heap[w.heap.size]? = some (.cells #[.int .u64 a0, .int .i64 a1, .string a2, .string a3] 35 (0, 0))) := ⟨blk_new w _⟩
  go_wp2
  go_region_law (go_simp; go_at_call 58; (refine (digest_Hex.calls a0 hx _ HGW.out HF.out).mono ?_; rintro e w1 ⟨rfl, hb1⟩; have hz := blk_below HZ.out hb1; have hz2 := (blk_cell hz 2).trans rfl; have hz3 := (blk_cell hz 3).trans rfl; change _ = some (Value.string a2) at hz2; change _ = some (Value.string a3) at hz3; have HB1 := Aside0.mk (below_step HW.out hb1); clear hb1 hz))
  all_goals go_wp2
  all_goals go_ret
  all_goals exact ⟨rfl, HB1.out⟩
theorem decide_line.calls (a0 a1 : Int) (a2 a3 r : ByteArray) (w : World) (hG : Glob w) (h : decide_line.f a0 a1 a2 a3 = some r) : Calls Tryd.prog 39 #[.agg #[.int .u64 a0, .int .i64 a1, .string a2, .string a3]] w fun e w' => e = .returned (.string r) ∧ Below w.heap.size w w' := by
  unfold decide_line.f at h
  split at h
  · rename_i hc
    obtain ⟨h0, h1, h2, h3⟩ := hc
    injection h with h
    subst h
    unfold lineS
    by_cases he : a3.toList = []
    · rw [if_pos he]
      by_cases hs : a1 = 2
      · subst hs
        rw [if_pos rfl]
        exact lineRE a0 a2 a3 w hG h0 h1 h2 h3 he
      · rw [if_neg hs]
        exact lineLE a0 a1 hs a2 a3 w hG h0 h1 h2 h3 he
    · rw [if_neg he]
      by_cases hs : a1 = 2
      · subst hs
        rw [if_pos rfl]
        exact lineRN a0 a2 a3 w hG h0 h1 h2 h3 he
      · rw [if_neg hs]
        exact lineLN a0 a1 hs a2 a3 w hG h0 h1 h2 h3 he
  · cases h

end Go.Proofs.YtfajgjmhfpabiaaDoor.Q
