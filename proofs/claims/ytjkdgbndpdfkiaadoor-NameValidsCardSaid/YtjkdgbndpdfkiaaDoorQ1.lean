-- Written by a program of this session (mk.py) out of the translation; Lean checks it.
import Derived.Test.YtjkdgbndpdfkiaaDoorQ0
namespace Go.Proofs.YtjkdgbndpdfkiaaDoor.Q
open Go.RowKit Go.Proofs.YtjkdgbndpdfkiaaDoorW.PrintWords Go.Proofs.YtjkdgbndpdfkiaaDoorW.PrintLast Go.Proofs.YtjkdgbndpdfkiaaDoorW.PrintMore
attribute [local go_sem] max2_int min2_int max_two min_two max_three min_three max_four min_four   -- for this text's walks alone
set_option linter.unusedVariables false
set_option linter.unusedSimpArgs false

-- 00_globat.lean
def GlobAt (w : World) (g : Nat) (cs : Array Value) : Prop := ∃ t fr, w.heap[g]? = some (.cells cs t fr)
theorem GlobAt.lt {w : World} {g : Nat} {cs : Array Value} (h : GlobAt w g cs) : g < w.heap.size := by
  obtain ⟨t, fr, h⟩ := h
  exact (Array.getElem?_eq_some_iff.mp h).1
theorem GlobAt.below {w w' : World} {g : Nat} {cs : Array Value} (hb : Below w.heap.size w w') (h : GlobAt w g cs) : GlobAt w' g cs := by
  have hl := h.lt
  obtain ⟨t, fr, h⟩ := h
  exact ⟨t, fr, (hb.block g hl).trans h⟩
theorem GlobAt.drawn {w w' : World} {g : Nat} {cs : Array Value} (hb : Drawn0 w w') (h : GlobAt w g cs) : GlobAt w' g cs := by
  obtain ⟨n, rfl⟩ := hb.out
  obtain ⟨t, fr, h⟩ := h
  exact ⟨t, fr, by simpa using h⟩

-- 10_rangestr.lean
theorem decode_hi3 (s : ByteArray) (pos : Nat) (h : pos < s.size) (ha : 128 ≤ (s[pos]'h).toNat) : 128 ≤ (Utf8.decode s pos).1 ∧ (Utf8.decode s pos).1 ≤ 1114111 ∧ 1 ≤ (Utf8.decode s pos).2 := by
  have e : (s.get! (pos + 0)).toNat = (s[pos]'h).toNat := by
    rw [Nat.add_zero]
    congr 1
    show s.data[pos]! = _
    rw [getElem!_pos s.data pos (by simpa using h)]
    rfl
  unfold Utf8.decode
  simp only [e]
  rw [if_neg (by omega)]
  repeat' split
  all_goals simp_all [Utf8.runeError, Utf8.valid]
  all_goals omega

-- 20_mapwords.lean
/-! ### Maps: a block that is a map, as a list of keys and values -/
/-- The entries that stand for a list of keys (each by 'enc') and values. -/
def EsIs {κ : Type} (enc : κ → Value) (es : List MapEntry) (l : List (κ × Value)) : Prop := es.map (fun e => (e.key, e.val)) = l.map (fun p => (enc p.1, p.2))
/-- Block b is the map l. -/
def MapAt {κ : Type} (enc : κ → Value) (w : World) (b : Nat) (l : List (κ × Value)) : Prop := ∃ es clock, w.heap[b]? = some (.map es clock) ∧ EsIs enc es.toList l
def mlook {κ : Type} [DecidableEq κ] : List (κ × Value) → κ → Option Value
  | [], _ => none
  | p :: l, k => if k = p.1 then some p.2 else mlook l k
def mput {κ : Type} [DecidableEq κ] : List (κ × Value) → κ → Value → List (κ × Value)
  | [], k, v => [(k, v)]
  | p :: l, k, v => if k = p.1 then (k, v) :: l else p :: mput l k v
def mdel {κ : Type} [DecidableEq κ] : List (κ × Value) → κ → List (κ × Value)
  | [], _ => []
  | p :: l, k => if k = p.1 then l else p :: mdel l k
def mfind {κ : Type} [DecidableEq κ] : List (κ × Value) → κ → Nat → Option (Nat × Value)
  | [], _, _ => none
  | p :: l, k, i => if k = p.1 then some (i, p.2) else mfind l k (i + 1)
/-- Keys that the machine tells apart as Lean does. -/
structure KeyOk {κ : Type} [DecidableEq κ] (P : Program) (K : TypeId) (enc : κ → Value) : Prop where
  check : ∀ (b : Bool) (k : κ) (w : World), (Instr.checkKey b 10000 K (enc k)).run P w = .ok () w
  find : ∀ (k : κ) (es : List MapEntry) (l : List (κ × Value)) (w : World), EsIs enc es l → (Instr.findKey K (enc k) es).run P w = .ok (mfind l k 0) w
  same : ∀ k : κ, Instr.sameBits 10000 (enc k) (enc k) = true
theorem EsIs.nil {κ : Type} (enc : κ → Value) : EsIs enc [] ([] : List (κ × Value)) := rfl
theorem EsIs.cons_inv {κ : Type} {enc : κ → Value} {es : List MapEntry} {p : κ × Value} {l : List (κ × Value)} (h : EsIs enc es (p :: l)) : ∃ e r, es = e :: r ∧ e.key = enc p.1 ∧ e.val = p.2 ∧ EsIs enc r l := by
  cases es with
  | nil => simp [EsIs] at h
  | cons e r =>
    simp only [EsIs, List.map_cons, List.cons.injEq, Prod.mk.injEq] at h
    exact ⟨e, r, rfl, h.1.1, h.1.2, h.2⟩
theorem EsIs.nil_inv {κ : Type} {enc : κ → Value} {es : List MapEntry} (h : EsIs enc es ([] : List (κ × Value))) : es = [] := by
  simpa [EsIs] using h
theorem EsIs.length {κ : Type} {enc : κ → Value} {es : List MapEntry} {l : List (κ × Value)} (h : EsIs enc es l) : es.length = l.length := by
  have := congrArg List.length h
  simpa using this
theorem mfind_look {κ : Type} [DecidableEq κ] (k : κ) : ∀ (l : List (κ × Value)) (i : Nat), (mfind l k i).map (·.2) = mlook l k
  | [], _ => rfl
  | p :: l, i => by
    simp only [mfind, mlook]
    split
    · rfl
    · exact mfind_look k l (i + 1)
theorem findNow_is {κ : Type} [DecidableEq κ] {enc : κ → Value} {d : TypeDesc} (hs : ∀ a b : κ, Instr.sameNow d (enc a) (enc b) = some (decide (a = b))) (k : κ) : ∀ (l : List (κ × Value)) (es : List MapEntry) (i : Nat), EsIs enc es l → Instr.findNow d (enc k) es i = some (mfind l k i)
  | [], es, i, h => by
    rw [h.nil_inv]
    rfl
  | p :: l, es, i, h => by
    obtain ⟨e, r, rfl, h1, h2, h3⟩ := h.cons_inv
    simp only [Instr.findNow, mfind, h1, hs]
    by_cases hk : k = p.1
    · rw [if_pos hk, decide_eq_true hk, h2]
    · rw [if_neg hk, decide_eq_false hk]
      exact findNow_is hs k l r (i + 1) h3
theorem checkKey_plain {P : Program} {K : TypeId} {d : TypeDesc} {v : Value} (hK : P.underlying K = some d) (hd : (match d with | .int _ | .string | .bool => true | _ => false) = true) (b : Bool) (w : World) : (Instr.checkKey b 10000 K v).run P w = .ok () w := by
  unfold Instr.checkKey
  rw [Sem.run_bind, run_underlying hK w]
  cases d <;> simp_all
theorem findKey_now {P : Program} {K : TypeId} {d : TypeDesc} {v : Value} {es : List MapEntry} {r : Option (Nat × Value)} (hK : P.underlying K = some d) (h : Instr.findNow d v es 0 = some r) (w : World) : (Instr.findKey K v es).run P w = .ok r w := by
  unfold Instr.findKey
  rw [Sem.run_bind, run_underlying hK w]
  simp [h]
theorem KeyOk.int {P : Program} {K : TypeId} {q : IntKind} (hK : P.underlying K = some (.int q)) : KeyOk P K (fun a : Int => .int q a) :=
  ⟨fun b k w => checkKey_plain hK rfl b w, fun k es l w h => findKey_now hK (findNow_is (fun a b => by simp only [Instr.sameNow, if_true]; rfl) k l es 0 h) w, fun k => by simp [Instr.sameBits]⟩
theorem bytes_beq (a b : ByteArray) : (a == b) = decide (a = b) := by
  have h : (a == b) = (a.data == b.data) := rfl
  rw [h, Bool.eq_iff_iff, beq_iff_eq, decide_eq_true_iff]
  exact ⟨fun h => by cases a; cases b; simp_all, fun h => by rw [h]⟩
theorem KeyOk.string {P : Program} {K : TypeId} (hK : P.underlying K = some .string) : KeyOk P K (fun s : ByteArray => .string s) :=
  ⟨fun b k w => checkKey_plain hK rfl b w, fun k es l w h => findKey_now hK (findNow_is (fun a b => by simp only [Instr.sameNow, bytes_beq]) k l es 0 h) w, fun k => by simp [Instr.sameBits, bytes_beq]⟩
theorem MapAt.new {κ : Type} (enc : κ → Value) (w : World) : MapAt enc (w.alloc (.map #[] 0)) w.heap.size ([] : List (κ × Value)) := ⟨#[], 0, heap_alloc_new w _, rfl⟩
theorem MapAt.keep {κ : Type} {enc : κ → Value} {w w' : World} {b : Nat} {l : List (κ × Value)} (h : MapAt enc w b l) (hk : w'.heap[b]? = w.heap[b]?) : MapAt enc w' b l := by
  obtain ⟨es, c, h1, h2⟩ := h
  exact ⟨es, c, hk.trans h1, h2⟩
theorem MapAt.lt {κ : Type} {enc : κ → Value} {w : World} {b : Nat} {l : List (κ × Value)} (h : MapAt enc w b l) : b < w.heap.size := by
  obtain ⟨es, c, h1, h2⟩ := h
  exact (Array.getElem?_eq_some_iff.1 h1).1
theorem MapAt.below {κ : Type} {enc : κ → Value} {w w' : World} {b : Nat} {l : List (κ × Value)} (h : MapAt enc w b l) (hb : Below w.heap.size w w') : MapAt enc w' b l := h.keep (hb.block b h.lt)
theorem MapAt.alloc {κ : Type} {enc : κ → Value} {w : World} {b : Nat} {l : List (κ × Value)} (h : MapAt enc w b l) (o : Obj) : MapAt enc (w.alloc o) b l := h.keep (Below.heap_alloc w o b h.lt)
theorem MapAt.drewN {κ : Type} {enc : κ → Value} {w : World} {b : Nat} {l : List (κ × Value)} (h : MapAt enc w b l) (n : Nat) : MapAt enc (w.drewN n) b l := h.keep (by simp)
theorem MapAt.grown {κ : Type} {enc : κ → Value} {w w' : World} {b : Nat} {l : List (κ × Value)} {row : Option Nat} (h : MapAt enc w b l) (hg : w.grownBy w' row) (hne : some b ≠ row) : MapAt enc w' b l := h.keep (hg.block b h.lt hne)
theorem run_lookup_ok {κ : Type} [DecidableEq κ] {P : Program} {T K E : TypeId} {enc : κ → Value} (hk : KeyOk P K enc) (hT : P.underlying T = some (.map K E)) {w : World} {z : Value} (hz : (zeroValue E).run P w = .ok z w) {b : Nat} {l : List (κ × Value)} (h : MapAt enc w b l) (k : κ) (c : Bool) :
    (Instr.lookup T (.map (some b)) (enc k) c).run P w = .ok (if c then .tuple #[(mlook l k).getD z, .bool (mlook l k).isSome] else (mlook l k).getD z) w := by
  obtain ⟨es, clock, h1, h2⟩ := h
  have hgo : (getObj b).run P w = .ok (.map es clock) w := by simp [getObj, Sem.run, h1]
  unfold Instr.lookup
  rw [Sem.run_bind, run_underlying hT w]
  simp only [Result.andThen_ok, Sem.run_bind, hgo, hk.check, Sem.run_pure]
  rw [hk.find k es.toList l w h2, ← mfind_look k l 0]
  cases mfind l k 0 with
  | none => simp [hz]
  | some p => simp
theorem wpList_lookup {κ : Type} [DecidableEq κ] {P : Program} {w : World} {ops : Array Oper} {rest : List Oper} {o : Oper} {a : Act} {Q : Exit → Act → World → Prop} {enc : κ → Value} {T K E : TypeId} {c : Bool}
    (hg : o.guard = none) (m x : Operand) (hop : o.op = Op.lookup T m x c) (hk : KeyOk P K enc) (hT : P.underlying T = some (.map K E)) {z : Value} (hz : (zeroValue E).run P w = .ok z w) {b : Nat} {l : List (κ × Value)}
    (hm : a.eval m = .map (some b)) (h : MapAt enc w b l) (k : κ) (hx : a.eval x = enc k)
    (hK : wpList P ops Q rest (a.put o.dst (if c then .tuple #[(mlook l k).getD z, .bool (mlook l k).isSome] else (mlook l k).getD z)) w) : wpList P ops Q (o :: rest) a w := by
  refine wpList_plain hg fun K' hK' => ?_
  have hrun := run_lookup_ok hk hT hz h k c
  unfold Oper.wp
  simp only [execOp, hop, hm, hx, hrun, Result.andThen, Sem.run_bind, Sem.run_pure]
  exact hK' _ _ hK
theorem modify_is {κ : Type} [DecidableEq κ] {enc : κ → Value} (k : κ) (v : Value) : ∀ (l : List (κ × Value)) (es : List MapEntry) (i : Nat) (r : Nat × Value), EsIs enc es l → mfind l k i = some r → i ≤ r.1 ∧ (∃ e, es[r.1 - i]? = some e ∧ e.key = enc k) ∧ EsIs enc (es.modify (r.1 - i) fun e => { e with key := enc k, val := v }) (mput l k v)
  | [], _, _, _, _, h => by simp [mfind] at h
  | p :: l, es, i, r, h, hf => by
    obtain ⟨e, s, rfl, h1, h2, h3⟩ := h.cons_inv
    simp only [mfind] at hf
    by_cases hk : k = p.1
    · rw [if_pos hk] at hf
      obtain rfl := Option.some.inj hf
      refine ⟨Nat.le_refl _, ⟨e, by simp, by rw [h1, hk]⟩, ?_⟩
      simp only [Nat.sub_self, List.modify_zero_cons, mput, if_pos hk]
      simp only [EsIs, List.map_cons] at h3 ⊢
      rw [h3]
    · rw [if_neg hk] at hf
      obtain ⟨q1, ⟨e', q2, q3⟩, q4⟩ := modify_is k v l s (i + 1) r h3 hf
      obtain ⟨m, hm⟩ : ∃ m, r.1 - i = m + 1 := ⟨r.1 - (i + 1), by omega⟩
      have hm' : r.1 - (i + 1) = m := by omega
      rw [hm'] at q2 q4
      refine ⟨by omega, ⟨e', by rw [hm]; simpa using q2, q3⟩, ?_⟩
      rw [hm]
      simp only [List.modify_succ_cons, mput, if_neg hk]
      simp only [EsIs, List.map_cons] at q4 ⊢
      rw [q4, h1, h2]
theorem push_is {κ : Type} [DecidableEq κ] {enc : κ → Value} (k : κ) (v : Value) (n : Nat) : ∀ (l : List (κ × Value)) (es : List MapEntry) (i : Nat), EsIs enc es l → mfind l k i = none → EsIs enc (es ++ [{ key := enc k, val := v, born := n }]) (mput l k v)
  | [], es, _, h, _ => by
    rw [h.nil_inv]
    rfl
  | p :: l, es, i, h, hf => by
    obtain ⟨e, s, rfl, h1, h2, h3⟩ := h.cons_inv
    simp only [mfind] at hf
    by_cases hk : k = p.1
    · rw [if_pos hk] at hf
      exact absurd hf (by simp)
    · rw [if_neg hk] at hf
      have := push_is k v n l s (i + 1) h3 hf
      simp only [EsIs, List.map_cons, List.cons_append, mput, if_neg hk] at this ⊢
      rw [this, h1, h2]
theorem run_mapUpdate {κ : Type} [DecidableEq κ] {P : Program} {T K E : TypeId} {enc : κ → Value} (hk : KeyOk P K enc) (hT : P.underlying T = some (.map K E)) {w : World} {b : Nat} {l : List (κ × Value)} (h : MapAt enc w b l) (k : κ) (v : Value) :
    ∃ w', (Instr.mapUpdate T (.map (some b)) (enc k) v).run P w = .ok () w' ∧ MapAt enc w' b (mput l k v) ∧ w.grownBy w' (some b) := by
  obtain ⟨es, clock, h1, h2⟩ := h
  have hgo : (getObj b).run P w = .ok (.map es clock) w := by simp [getObj, Sem.run, h1]
  have hset : ∀ o : Obj, (setObj b o).run P w = .ok () (ChangeMaps.setBlock w b o) := fun o => MapKept.run_setObj_map o h1
  have hgr : ∀ o : Obj, w.grownBy (ChangeMaps.setBlock w b o) (some b) := fun o => ⟨rfl, rfl, rfl, by simp [ChangeMaps.setBlock], fun i _ hi => ChangeMaps.heap_setBlock_other h1 _ (fun e => hi (by rw [e]))⟩
  cases hf : mfind l k 0 with
  | none =>
    refine ⟨ChangeMaps.setBlock w b (.map (es.push { key := enc k, val := v, born := clock }) (clock + 1)), ?_, ⟨_, _, ChangeMaps.heap_setBlock_same h1 _, ?_⟩, hgr _⟩
    · unfold Instr.mapUpdate
      rw [Sem.run_bind, run_underlying hT w]
      simp only [Result.andThen_ok, Sem.run_bind, hgo, hk.check, hk.find k es.toList l w h2, hf, hset]
    · rw [Array.toList_push]
      exact push_is k v clock l es.toList 0 h2 hf
  | some r =>
    obtain ⟨_, ⟨e, q2, q3⟩, q4⟩ := modify_is k v l es.toList 0 r h2 hf
    rw [Nat.sub_zero] at q2 q4
    refine ⟨ChangeMaps.setBlock w b (.map (es.modify r.1 fun e => { e with key := enc k, val := v }) clock), ?_, ⟨_, _, ChangeMaps.heap_setBlock_same h1 _, ?_⟩, hgr _⟩
    · unfold Instr.mapUpdate
      have q2' : es[r.1]? = some e := by simpa using q2
      rw [Sem.run_bind, run_underlying hT w]
      simp only [Result.andThen_ok, Sem.run_bind, hgo, hk.check, hk.find k es.toList l w h2, hf, q2', Option.map_some, Option.getD_some, q3, Instr.keyThatStays, hk.same, if_true, Sem.run_pure, hset]
    · simpa using q4
theorem wpList_mapUpdate {κ : Type} [DecidableEq κ] {P : Program} {w : World} {ops : Array Oper} {rest : List Oper} {o : Oper} {a : Act} {Q : Exit → Act → World → Prop} {enc : κ → Value} {T K E : TypeId}
    (hg : o.guard = none) (m x v : Operand) (hop : o.op = Op.mapUpdate T m x v) (hk : KeyOk P K enc) (hT : P.underlying T = some (.map K E)) {b : Nat} {l : List (κ × Value)}
    (hm : a.eval m = .map (some b)) (h : MapAt enc w b l) (k : κ) (hx : a.eval x = enc k) (val : Value) (hv : a.eval v = val)
    (hK : ∀ w', MapAt enc w' b (mput l k val) → w.grownBy w' (some b) → wpList P ops Q rest (a.put o.dst undef) w') : wpList P ops Q (o :: rest) a w := by
  refine wpList_plain hg fun K' hK' => ?_
  obtain ⟨w', hrun, r1, r2⟩ := run_mapUpdate hk hT h k val
  unfold Oper.wp
  simp [execOp, hop, hm, hx, hv, hrun, Result.andThen]
  exact hK' _ _ (hK w' r1 r2)
theorem mlook_put {κ : Type} [DecidableEq κ] (k k' : κ) (v : Value) : ∀ l : List (κ × Value), mlook (mput l k v) k' = if k' = k then some v else mlook l k'
  | [] => by simp [mput, mlook]
  | p :: l => by
    simp only [mput]
    by_cases h : k = p.1
    · rw [if_pos h]
      simp only [mlook]
      by_cases h2 : k' = k
      · rw [if_pos h2, if_pos h2]
      · rw [if_neg h2, if_neg h2, if_neg (fun e => h2 (e.trans h.symm))]
    · rw [if_neg h]
      simp only [mlook]
      rw [mlook_put k k' v l]
      by_cases h2 : k' = p.1
      · rw [if_pos h2, if_pos h2, if_neg (fun e => h (e.symm.trans h2))]
      · rw [if_neg h2, if_neg h2]

/-! ### name_Keyword: function 13 -/
def name_Keyword.f (a0 : ByteArray) : Option (Bool) := if a0.toList = ([102, 110] : List UInt8) then (some true) else (if a0.toList = ([99, 108, 97, 115, 115] : List UInt8) then (some true) else (if a0.toList = ([99, 111, 110, 115, 116] : List UInt8) then (some true) else (if a0.toList = ([108, 101, 116] : List UInt8) then (some true) else (if a0.toList = ([114, 101, 116, 117, 114, 110] : List UInt8) then (some true) else (if a0.toList = ([105, 102] : List UInt8) then (some true) else (if a0.toList = ([101, 108, 115, 101] : List UInt8) then (some true) else (if a0.toList = ([119, 104, 105, 108, 101] : List UInt8) then (some true) else (if a0.toList = ([110, 101, 119] : List UInt8) then (some true) else (if a0.toList = ([115, 101, 108, 102] : List UInt8) then (some true) else (if a0.toList = ([116, 114, 117, 101] : List UInt8) then (some true) else (if a0.toList = ([102, 97, 108, 115, 101] : List UInt8) then (some true) else (some false))))))))))))
set_option maxHeartbeats 8000000 in
set_option maxRecDepth 100000 in
theorem name_Keyword.calls (a0 : ByteArray) (r : Bool) (w : World) (h : name_Keyword.f a0 = some r) :
    Calls Tryd.prog 13 #[.string a0] w fun e w' => e = .returned (.bool r) ∧ Drawn0 w w' := by
  have H : (if a0.toList = ([102, 110] : List UInt8) then (some true) else (if a0.toList = ([99, 108, 97, 115, 115] : List UInt8) then (some true) else (if a0.toList = ([99, 111, 110, 115, 116] : List UInt8) then (some true) else (if a0.toList = ([108, 101, 116] : List UInt8) then (some true) else (if a0.toList = ([114, 101, 116, 117, 114, 110] : List UInt8) then (some true) else (if a0.toList = ([105, 102] : List UInt8) then (some true) else (if a0.toList = ([101, 108, 115, 101] : List UInt8) then (some true) else (if a0.toList = ([119, 104, 105, 108, 101] : List UInt8) then (some true) else (if a0.toList = ([110, 101, 119] : List UInt8) then (some true) else (if a0.toList = ([115, 101, 108, 102] : List UInt8) then (some true) else (if a0.toList = ([116, 114, 117, 101] : List UInt8) then (some true) else (if a0.toList = ([102, 97, 108, 115, 101] : List UInt8) then (some true) else (some false))))))))))))) = some r := h
  clear h
  by_cases c2 : a0.toList = ([102, 110] : List UInt8)
  · rw [if_pos c2] at H
    have c2b0 : (a0.toList == ([102, 110] : List UInt8)) = true := beq_iff_eq.mpr c2
    have c2b1 : (a0.toList != ([102, 110] : List UInt8)) = false := bne_eq_false_iff_eq.mpr c2
    clear c2
    obtain rfl := Option.some.inj H
    go_enter Tryd.func13, Tryd.ntmps13
    go_wp2
    go_ret
    exact ⟨by first | rfl | (simp; done) | (simp [*]; done), by repeat (first | exact Drawn0.refl _ | apply Drawn0.step)⟩
  · rw [if_neg c2] at H
    have c2b0 : (a0.toList == ([102, 110] : List UInt8)) = false := beq_eq_false_iff_ne.mpr c2
    have c2b1 : (a0.toList != ([102, 110] : List UInt8)) = true := bne_iff_ne.mpr c2
    by_cases c3 : a0.toList = ([99, 108, 97, 115, 115] : List UInt8)
    · rw [if_pos c3] at H
      have c3b0 : (a0.toList == ([99, 108, 97, 115, 115] : List UInt8)) = true := beq_iff_eq.mpr c3
      have c3b1 : (a0.toList != ([99, 108, 97, 115, 115] : List UInt8)) = false := bne_eq_false_iff_eq.mpr c3
      clear c3
      obtain rfl := Option.some.inj H
      go_enter Tryd.func13, Tryd.ntmps13
      go_wp2
      go_ret
      exact ⟨by first | rfl | (simp; done) | (simp [*]; done), by repeat (first | exact Drawn0.refl _ | apply Drawn0.step)⟩
    · rw [if_neg c3] at H
      have c3b0 : (a0.toList == ([99, 108, 97, 115, 115] : List UInt8)) = false := beq_eq_false_iff_ne.mpr c3
      have c3b1 : (a0.toList != ([99, 108, 97, 115, 115] : List UInt8)) = true := bne_iff_ne.mpr c3
      by_cases c4 : a0.toList = ([99, 111, 110, 115, 116] : List UInt8)
      · rw [if_pos c4] at H
        have c4b0 : (a0.toList == ([99, 111, 110, 115, 116] : List UInt8)) = true := beq_iff_eq.mpr c4
        have c4b1 : (a0.toList != ([99, 111, 110, 115, 116] : List UInt8)) = false := bne_eq_false_iff_eq.mpr c4
        clear c4
        obtain rfl := Option.some.inj H
        go_enter Tryd.func13, Tryd.ntmps13
        go_wp2
        go_ret
        exact ⟨by first | rfl | (simp; done) | (simp [*]; done), by repeat (first | exact Drawn0.refl _ | apply Drawn0.step)⟩
      · rw [if_neg c4] at H
        have c4b0 : (a0.toList == ([99, 111, 110, 115, 116] : List UInt8)) = false := beq_eq_false_iff_ne.mpr c4
        have c4b1 : (a0.toList != ([99, 111, 110, 115, 116] : List UInt8)) = true := bne_iff_ne.mpr c4
        by_cases c5 : a0.toList = ([108, 101, 116] : List UInt8)
        · rw [if_pos c5] at H
          have c5b0 : (a0.toList == ([108, 101, 116] : List UInt8)) = true := beq_iff_eq.mpr c5
          have c5b1 : (a0.toList != ([108, 101, 116] : List UInt8)) = false := bne_eq_false_iff_eq.mpr c5
          clear c5
          obtain rfl := Option.some.inj H
          go_enter Tryd.func13, Tryd.ntmps13
          go_wp2
          go_ret
          exact ⟨by first | rfl | (simp; done) | (simp [*]; done), by repeat (first | exact Drawn0.refl _ | apply Drawn0.step)⟩
        · rw [if_neg c5] at H
          have c5b0 : (a0.toList == ([108, 101, 116] : List UInt8)) = false := beq_eq_false_iff_ne.mpr c5
          have c5b1 : (a0.toList != ([108, 101, 116] : List UInt8)) = true := bne_iff_ne.mpr c5
          by_cases c6 : a0.toList = ([114, 101, 116, 117, 114, 110] : List UInt8)
          · rw [if_pos c6] at H
            have c6b0 : (a0.toList == ([114, 101, 116, 117, 114, 110] : List UInt8)) = true := beq_iff_eq.mpr c6
            have c6b1 : (a0.toList != ([114, 101, 116, 117, 114, 110] : List UInt8)) = false := bne_eq_false_iff_eq.mpr c6
            clear c6
            obtain rfl := Option.some.inj H
            go_enter Tryd.func13, Tryd.ntmps13
            go_wp2
            go_ret
            exact ⟨by first | rfl | (simp; done) | (simp [*]; done), by repeat (first | exact Drawn0.refl _ | apply Drawn0.step)⟩
          · rw [if_neg c6] at H
            have c6b0 : (a0.toList == ([114, 101, 116, 117, 114, 110] : List UInt8)) = false := beq_eq_false_iff_ne.mpr c6
            have c6b1 : (a0.toList != ([114, 101, 116, 117, 114, 110] : List UInt8)) = true := bne_iff_ne.mpr c6
            by_cases c7 : a0.toList = ([105, 102] : List UInt8)
            · rw [if_pos c7] at H
              have c7b0 : (a0.toList == ([105, 102] : List UInt8)) = true := beq_iff_eq.mpr c7
              have c7b1 : (a0.toList != ([105, 102] : List UInt8)) = false := bne_eq_false_iff_eq.mpr c7
              clear c7
              obtain rfl := Option.some.inj H
              go_enter Tryd.func13, Tryd.ntmps13
              go_wp2
              go_ret
              exact ⟨by first | rfl | (simp; done) | (simp [*]; done), by repeat (first | exact Drawn0.refl _ | apply Drawn0.step)⟩
            · rw [if_neg c7] at H
              have c7b0 : (a0.toList == ([105, 102] : List UInt8)) = false := beq_eq_false_iff_ne.mpr c7
              have c7b1 : (a0.toList != ([105, 102] : List UInt8)) = true := bne_iff_ne.mpr c7
              by_cases c8 : a0.toList = ([101, 108, 115, 101] : List UInt8)
              · rw [if_pos c8] at H
                have c8b0 : (a0.toList == ([101, 108, 115, 101] : List UInt8)) = true := beq_iff_eq.mpr c8
                have c8b1 : (a0.toList != ([101, 108, 115, 101] : List UInt8)) = false := bne_eq_false_iff_eq.mpr c8
                clear c8
                obtain rfl := Option.some.inj H
                go_enter Tryd.func13, Tryd.ntmps13
                go_wp2
                go_ret
                exact ⟨by first | rfl | (simp; done) | (simp [*]; done), by repeat (first | exact Drawn0.refl _ | apply Drawn0.step)⟩
              · rw [if_neg c8] at H
                have c8b0 : (a0.toList == ([101, 108, 115, 101] : List UInt8)) = false := beq_eq_false_iff_ne.mpr c8
                have c8b1 : (a0.toList != ([101, 108, 115, 101] : List UInt8)) = true := bne_iff_ne.mpr c8
                by_cases c9 : a0.toList = ([119, 104, 105, 108, 101] : List UInt8)
                · rw [if_pos c9] at H
                  have c9b0 : (a0.toList == ([119, 104, 105, 108, 101] : List UInt8)) = true := beq_iff_eq.mpr c9
                  have c9b1 : (a0.toList != ([119, 104, 105, 108, 101] : List UInt8)) = false := bne_eq_false_iff_eq.mpr c9
                  clear c9
                  obtain rfl := Option.some.inj H
                  go_enter Tryd.func13, Tryd.ntmps13
                  go_wp2
                  go_ret
                  exact ⟨by first | rfl | (simp; done) | (simp [*]; done), by repeat (first | exact Drawn0.refl _ | apply Drawn0.step)⟩
                · rw [if_neg c9] at H
                  have c9b0 : (a0.toList == ([119, 104, 105, 108, 101] : List UInt8)) = false := beq_eq_false_iff_ne.mpr c9
                  have c9b1 : (a0.toList != ([119, 104, 105, 108, 101] : List UInt8)) = true := bne_iff_ne.mpr c9
                  by_cases c10 : a0.toList = ([110, 101, 119] : List UInt8)
                  · rw [if_pos c10] at H
                    have c10b0 : (a0.toList == ([110, 101, 119] : List UInt8)) = true := beq_iff_eq.mpr c10
                    have c10b1 : (a0.toList != ([110, 101, 119] : List UInt8)) = false := bne_eq_false_iff_eq.mpr c10
                    clear c10
                    obtain rfl := Option.some.inj H
                    go_enter Tryd.func13, Tryd.ntmps13
                    go_wp2
                    go_ret
                    exact ⟨by first | rfl | (simp; done) | (simp [*]; done), by repeat (first | exact Drawn0.refl _ | apply Drawn0.step)⟩
                  · rw [if_neg c10] at H
                    have c10b0 : (a0.toList == ([110, 101, 119] : List UInt8)) = false := beq_eq_false_iff_ne.mpr c10
                    have c10b1 : (a0.toList != ([110, 101, 119] : List UInt8)) = true := bne_iff_ne.mpr c10
                    by_cases c11 : a0.toList = ([115, 101, 108, 102] : List UInt8)
                    · rw [if_pos c11] at H
                      have c11b0 : (a0.toList == ([115, 101, 108, 102] : List UInt8)) = true := beq_iff_eq.mpr c11
                      have c11b1 : (a0.toList != ([115, 101, 108, 102] : List UInt8)) = false := bne_eq_false_iff_eq.mpr c11
                      clear c11
                      obtain rfl := Option.some.inj H
                      go_enter Tryd.func13, Tryd.ntmps13
                      go_wp2
                      go_ret
                      exact ⟨by first | rfl | (simp; done) | (simp [*]; done), by repeat (first | exact Drawn0.refl _ | apply Drawn0.step)⟩
                    · rw [if_neg c11] at H
                      have c11b0 : (a0.toList == ([115, 101, 108, 102] : List UInt8)) = false := beq_eq_false_iff_ne.mpr c11
                      have c11b1 : (a0.toList != ([115, 101, 108, 102] : List UInt8)) = true := bne_iff_ne.mpr c11
                      by_cases c12 : a0.toList = ([116, 114, 117, 101] : List UInt8)
                      · rw [if_pos c12] at H
                        have c12b0 : (a0.toList == ([116, 114, 117, 101] : List UInt8)) = true := beq_iff_eq.mpr c12
                        have c12b1 : (a0.toList != ([116, 114, 117, 101] : List UInt8)) = false := bne_eq_false_iff_eq.mpr c12
                        clear c12
                        obtain rfl := Option.some.inj H
                        go_enter Tryd.func13, Tryd.ntmps13
                        go_wp2
                        go_ret
                        exact ⟨by first | rfl | (simp; done) | (simp [*]; done), by repeat (first | exact Drawn0.refl _ | apply Drawn0.step)⟩
                      · rw [if_neg c12] at H
                        have c12b0 : (a0.toList == ([116, 114, 117, 101] : List UInt8)) = false := beq_eq_false_iff_ne.mpr c12
                        have c12b1 : (a0.toList != ([116, 114, 117, 101] : List UInt8)) = true := bne_iff_ne.mpr c12
                        by_cases c13 : a0.toList = ([102, 97, 108, 115, 101] : List UInt8)
                        · rw [if_pos c13] at H
                          have c13b0 : (a0.toList == ([102, 97, 108, 115, 101] : List UInt8)) = true := beq_iff_eq.mpr c13
                          have c13b1 : (a0.toList != ([102, 97, 108, 115, 101] : List UInt8)) = false := bne_eq_false_iff_eq.mpr c13
                          clear c13
                          obtain rfl := Option.some.inj H
                          go_enter Tryd.func13, Tryd.ntmps13
                          go_wp2
                          go_ret
                          exact ⟨by first | rfl | (simp; done) | (simp [*]; done), by repeat (first | exact Drawn0.refl _ | apply Drawn0.step)⟩
                        · rw [if_neg c13] at H
                          have c13b0 : (a0.toList == ([102, 97, 108, 115, 101] : List UInt8)) = false := beq_eq_false_iff_ne.mpr c13
                          have c13b1 : (a0.toList != ([102, 97, 108, 115, 101] : List UInt8)) = true := bne_iff_ne.mpr c13
                          obtain rfl := Option.some.inj H
                          go_enter Tryd.func13, Tryd.ntmps13
                          go_wp2
                          go_ret
                          exact ⟨by first | rfl | (simp; done) | (simp [*]; done), by repeat (first | exact Drawn0.refl _ | apply Drawn0.step)⟩

/-! ### name_letter: function 26 -/
def name_letter.f (a0 : Int) : Option (Bool) := if a0 ≥ 97 then (if a0 ≤ 122 then (some true) else (if a0 ≥ 65 then (if a0 ≤ 90 then (some true) else (some (a0 == 95))) else (some (a0 == 95)))) else (if a0 ≥ 65 then (if a0 ≤ 90 then (some true) else (some (a0 == 95))) else (some (a0 == 95)))
set_option maxHeartbeats 8000000 in
set_option maxRecDepth 100000 in
theorem name_letter.calls (a0 : Int) (r : Bool) (w : World) (h : name_letter.f a0 = some r) :
    Calls Tryd.prog 26 #[.int .i32 a0] w fun e w' => e = .returned (.bool r) ∧ Drawn0 w w' := by
  have H : (if a0 ≥ 97 then (if a0 ≤ 122 then (some true) else (if a0 ≥ 65 then (if a0 ≤ 90 then (some true) else (some (a0 == 95))) else (some (a0 == 95)))) else (if a0 ≥ 65 then (if a0 ≤ 90 then (some true) else (some (a0 == 95))) else (some (a0 == 95)))) = some r := h
  clear h
  by_cases c2 : a0 ≥ 97
  · rw [if_pos c2] at H
    have c2b0 : decide (97 ≤ a0) = true := decide_eq_true c2
    clear c2
    by_cases c3 : a0 ≤ 122
    · rw [if_pos c3] at H
      have c3b0 : decide (a0 ≤ 122) = true := decide_eq_true c3
      clear c3
      obtain rfl := Option.some.inj H
      go_enter Tryd.func26, Tryd.ntmps26
      go_wp2
      go_ret
      exact ⟨by first | rfl | (simp; done) | (simp [*]; done), by repeat (first | exact Drawn0.refl _ | apply Drawn0.step)⟩
    · rw [if_neg c3] at H
      have c3b0 : decide (a0 ≤ 122) = false := decide_eq_false c3
      clear c3
      by_cases c4 : a0 ≥ 65
      · rw [if_pos c4] at H
        have c4b0 : decide (65 ≤ a0) = true := decide_eq_true c4
        clear c4
        by_cases c5 : a0 ≤ 90
        · rw [if_pos c5] at H
          have c5b0 : decide (a0 ≤ 90) = true := decide_eq_true c5
          clear c5
          obtain rfl := Option.some.inj H
          go_enter Tryd.func26, Tryd.ntmps26
          go_wp2
          go_ret
          exact ⟨by first | rfl | (simp; done) | (simp [*]; done), by repeat (first | exact Drawn0.refl _ | apply Drawn0.step)⟩
        · rw [if_neg c5] at H
          have c5b0 : decide (a0 ≤ 90) = false := decide_eq_false c5
          clear c5
          obtain rfl := Option.some.inj H
          go_enter Tryd.func26, Tryd.ntmps26
          go_wp2
          go_ret
          exact ⟨by first | rfl | (simp; done) | (simp [*]; done), by repeat (first | exact Drawn0.refl _ | apply Drawn0.step)⟩
      · rw [if_neg c4] at H
        have c4b0 : decide (65 ≤ a0) = false := decide_eq_false c4
        clear c4
        obtain rfl := Option.some.inj H
        go_enter Tryd.func26, Tryd.ntmps26
        go_wp2
        go_ret
        exact ⟨by first | rfl | (simp; done) | (simp [*]; done), by repeat (first | exact Drawn0.refl _ | apply Drawn0.step)⟩
  · rw [if_neg c2] at H
    have c2b0 : decide (97 ≤ a0) = false := decide_eq_false c2
    clear c2
    by_cases c6 : a0 ≥ 65
    · rw [if_pos c6] at H
      have c6b0 : decide (65 ≤ a0) = true := decide_eq_true c6
      clear c6
      by_cases c7 : a0 ≤ 90
      · rw [if_pos c7] at H
        have c7b0 : decide (a0 ≤ 90) = true := decide_eq_true c7
        clear c7
        obtain rfl := Option.some.inj H
        go_enter Tryd.func26, Tryd.ntmps26
        go_wp2
        go_ret
        exact ⟨by first | rfl | (simp; done) | (simp [*]; done), by repeat (first | exact Drawn0.refl _ | apply Drawn0.step)⟩
      · rw [if_neg c7] at H
        have c7b0 : decide (a0 ≤ 90) = false := decide_eq_false c7
        clear c7
        obtain rfl := Option.some.inj H
        go_enter Tryd.func26, Tryd.ntmps26
        go_wp2
        go_ret
        exact ⟨by first | rfl | (simp; done) | (simp [*]; done), by repeat (first | exact Drawn0.refl _ | apply Drawn0.step)⟩
    · rw [if_neg c6] at H
      have c6b0 : decide (65 ≤ a0) = false := decide_eq_false c6
      clear c6
      obtain rfl := Option.some.inj H
      go_enter Tryd.func26, Tryd.ntmps26
      go_wp2
      go_ret
      exact ⟨by first | rfl | (simp; done) | (simp [*]; done), by repeat (first | exact Drawn0.refl _ | apply Drawn0.step)⟩

/-! ### name_digit: function 27 -/
def name_digit.f (a0 : Int) : Option (Bool) := if a0 ≥ 48 then (some (decide (a0 ≤ 57))) else (some false)
set_option maxHeartbeats 8000000 in
set_option maxRecDepth 100000 in
theorem name_digit.calls (a0 : Int) (r : Bool) (w : World) (h : name_digit.f a0 = some r) :
    Calls Tryd.prog 27 #[.int .i32 a0] w fun e w' => e = .returned (.bool r) ∧ Drawn0 w w' := by
  have H : (if a0 ≥ 48 then (some (decide (a0 ≤ 57))) else (some false)) = some r := h
  clear h
  by_cases c2 : a0 ≥ 48
  · rw [if_pos c2] at H
    have c2b0 : decide (48 ≤ a0) = true := decide_eq_true c2
    clear c2
    obtain rfl := Option.some.inj H
    go_enter Tryd.func27, Tryd.ntmps27
    go_wp2
    go_ret
    exact ⟨by first | rfl | (simp; done) | (simp [*]; done), by repeat (first | exact Drawn0.refl _ | apply Drawn0.step)⟩
  · rw [if_neg c2] at H
    have c2b0 : decide (48 ≤ a0) = false := decide_eq_false c2
    clear c2
    obtain rfl := Option.some.inj H
    go_enter Tryd.func27, Tryd.ntmps27
    go_wp2
    go_ret
    exact ⟨by first | rfl | (simp; done) | (simp [*]; done), by repeat (first | exact Drawn0.refl _ | apply Drawn0.step)⟩

/-! ### name_Valid: function 11 (by hand) -/
/-- Is a byte a letter or an underscore; a digit? -/
def letterB (c : Int) : Bool := decide (97 ≤ c ∧ c ≤ 122) || decide (65 ≤ c ∧ c ≤ 90) || (c == 95)
def digitB (c : Int) : Bool := decide (48 ≤ c ∧ c ≤ 57)
theorem letter_eq (c : Int) : name_letter.f c = some (letterB c) := by
  unfold name_letter.f letterB
  repeat' split
  all_goals simp
  all_goals omega
theorem digit_eq (c : Int) : name_digit.f c = some (digitB c) := by
  unfold name_digit.f digitB
  split
  · simp; omega
  · simp; omega
/-- All bytes from an index on: letters, and but for the first digits. -/
def validL (s : ByteArray) : Nat → Int → Bool
  | 0, _ => true
  | g + 1, i => (letterB (bt s i) || (!(i == 0) && digitB (bt s i))) && validL s g (i + 1)
def name_Valid.f (s : ByteArray) : Option Bool :=
  if s.size = 0 then some false else if 32 < s.size then some false else (name_Keyword.f s).bind fun b => if b = true then some false else some (validL s s.size 0)
theorem bt_idx (s : ByteArray) (i : Nat) (h : i < s.size) : bt s (i : Int) = ((s[i]'h).toNat : Int) := by
  unfold bt
  simp only [Int.toNat_natCast]
  rw [dif_pos h]
theorem valid_high (s : ByteArray) (g i : Nat) (h : i < s.size) (ha : 128 ≤ (s[i]'h).toNat) : validL s (g + 1) (i : Int) = false := by
  rw [validL, bt_idx s i h]
  have h1 : letterB ((s[i]'h).toNat : Int) = false := by unfold letterB; simp; omega
  have h2 : digitB ((s[i]'h).toNat : Int) = false := by unfold digitB; simp; omega
  simp [h1, h2]
theorem letter_high (c : Int) (h : 128 ≤ c) : letterB c = false := by unfold letterB; simp; omega
theorem digit_high (c : Int) (h : 128 ≤ c) : digitB c = false := by unfold digitB; simp; omega
theorem isEmpty_false {s : ByteArray} (h : ¬ s.size = 0) : s.toList.isEmpty = false := by
  rw [ByteArray.toList_eq]
  cases hl : s.data.toList with
  | nil => exact absurd (by have := congrArg List.length hl; simpa using this) h
  | cons a l => rfl
set_option maxHeartbeats 2000000 in
theorem name_Valid.calls (a0 : ByteArray) (r : Bool) (w : World) (h : name_Valid.f a0 = some r) : Calls Tryd.prog 11 #[.string a0] w fun e w' => e = .returned (.bool r) ∧ Below w.heap.size w w' := by
  unfold name_Valid.f at h
  by_cases h0 : a0.size = 0
  · rw [if_pos h0] at h
    obtain rfl := Option.some.inj h
    have e1 : a0.toList = [] := by
      rw [ByteArray.toList_eq]
      exact List.eq_nil_of_length_eq_zero (by simpa using h0)
    clear h h0
    go_enter Tryd.func11, Tryd.ntmps11
    go_wp2_with fail
    go_ret
    exact ⟨rfl, Below.refl _ _⟩
  · rw [if_neg h0] at h
    have e1 : a0.toList.isEmpty = false := isEmpty_false h0
    by_cases h1 : 32 < a0.size
    · rw [if_pos h1] at h
      obtain rfl := Option.some.inj h
      have e2 : decide ((a0.size : Int) > 32) = true := decide_eq_true (by omega)
      have e3 : decide (32 < a0.size) = true := decide_eq_true h1
      clear h h0
      go_enter Tryd.func11, Tryd.ntmps11
      go_wp2_with fail
      go_ret
      exact ⟨rfl, Below.refl _ _⟩
    · rw [if_neg h1] at h
      have e2 : decide ((32 : Int) < a0.size) = false := decide_eq_false (by omega)
      have e3 : decide (32 < a0.size) = false := decide_eq_false h1
      obtain ⟨b, hb, h⟩ := Option.bind_eq_some_iff.1 h
      have HB := Aside0.mk hb
      clear hb
      cases b with
      | true =>
        simp only [if_true] at h
        obtain rfl := Option.some.inj h
        clear h h0
        go_enter Tryd.func11, Tryd.ntmps11
        go_wp2_with (go_at_call 13; (with_reducible refine (name_Keyword.calls _ _ _ HB.out).mono ?_); rintro e w' ⟨rfl, ⟨nd, rfl⟩⟩)
        go_ret
        exact ⟨rfl, by repeat (first | exact Below.refl _ _ | apply pw_below_drewN | apply below_drew1)⟩
      | false =>
        simp only [Bool.false_eq_true, if_false] at h
        have HR := Aside0.mk (Option.some.inj h)
        clear h h0
        have hlen : a0.size ≤ 32 := by omega
        go_enter Tryd.func11, Tryd.ntmps11
        go_wp2_with (go_at_call 13; (with_reducible refine (name_Keyword.calls _ _ _ HB.out).mono ?_); rintro e w' ⟨rfl, ⟨nd, rfl⟩⟩)
        go_loopg [3] a0.size (fun gk v3 w' => ∃ i : Nat, i + gk = a0.size ∧ Aside0 (Below w.heap.size w w') ∧ Aside0 (w'.heap[w.heap.size]? = some (.stringIter a0 i)) ∧ Aside0 (validL a0 gk (i : Int) = r))
        case atStart =>
          refine ⟨0, by omega, ⟨?_⟩, ⟨?_⟩, HR⟩
          · exact below_alloc (by repeat (first | exact Below.refl _ _ | apply pw_below_drewN | apply below_drew1)) _
          · exact blk_new _ _
        case round =>
          obtain ⟨i, hi, HB1, HI, HV⟩ := hrel
          obtain ⟨go, rfl⟩ : ∃ go, go = gk := ⟨gk, rfl⟩
          have HX := Aside0.mk hi
          cases go with
          | zero =>
            have hnx := fun ty => Lib.run_next_end_at (P := Tryd.prog) wr w.heap.size a0 i ty HI.out (by omega)
            have hv := HV.out
            simp only [validL] at hv
            subst hv
            clear hi
            go_wp2
            go_ret
            exact ⟨rfl, HB1.out⟩
          | succ g =>
            have hlt : i < a0.size := by omega
            by_cases ha : (a0[i]'hlt).toNat < 128
            · have hnx := fun ty => Lib.run_next_ascii_at (P := Tryd.prog) wr w.heap.size a0 i ty HI.out hlt ha
              have HL := Aside0.mk (letter_eq ((a0[i]'hlt).toNat : Int))
              have HD := Aside0.mk (digit_eq ((a0[i]'hlt).toNat : Int))
              have hv := HV.out
              rw [validL, bt_idx a0 i hlt] at hv
              have HV' := Aside0.mk hv
              clear hv HV
              obtain ⟨c, hc⟩ : ∃ c : Nat, c = (a0[i]'hlt).toNat := ⟨_, rfl⟩
              rw [← hc] at hnx HL HD HV' ha
              clear hc
              have hi32 : i < 32 := by omega
              clear hi
              by_cases hl : letterB (c : Int) = true
              · rw [hl] at HL HV'
                go_wp2_with (go_at_call 26; (with_reducible refine (name_letter.calls _ _ _ HL.out).mono ?_); rintro e w' ⟨rfl, ⟨nd, rfl⟩⟩)
                go_roundg g
                case measure => omega
                case rel =>
                  refine ⟨i + 1, by have := HX.out; omega, ⟨?_⟩, ⟨?_⟩, ⟨?_⟩⟩
                  · exact pw_below_drewN (Lib.below_iterAt HB1.out (Nat.le_refl _) _ _) _
                  · exact blk_drewN (Lib.iterAt_heap _ _ _ _ _ HI.out) _
                  · have hv := HV'.out
                    simpa using hv
              · replace hl := Bool.eq_false_iff.mpr hl
                rw [hl] at HL HV'
                by_cases h00 : i = 0
                · have hi00 : ((i : Int) == 0) = true := beq_iff_eq.mpr (by omega)
                  have hv := HV'.out
                  rw [hi00] at hv
                  simp at hv
                  subst hv
                  clear h00 HV'
                  go_wp2_with (go_at_call 26; (with_reducible refine (name_letter.calls _ _ _ HL.out).mono ?_); rintro e w' ⟨rfl, ⟨nd, rfl⟩⟩)
                  go_ret
                  exact ⟨rfl, pw_below_drewN (Lib.below_iterAt HB1.out (Nat.le_refl _) _ _) _⟩
                · have hi00 : ((i : Int) == 0) = false := beq_eq_false_iff_ne.mpr (by omega)
                  have hv := HV'.out
                  rw [hi00] at hv
                  have HV2 := Aside0.mk hv
                  clear hv h00 HV'
                  by_cases hd : digitB (c : Int) = true
                  · rw [hd] at HD HV2
                    go_wp2_with (first | (go_at_call 26; (with_reducible refine (name_letter.calls _ _ _ HL.out).mono ?_); rintro e w' ⟨rfl, ⟨nd, rfl⟩⟩) | (go_at_call 27; (with_reducible refine (name_digit.calls _ _ _ HD.out).mono ?_); rintro e w' ⟨rfl, ⟨nd2, rfl⟩⟩))
                    have HV' := HV2
                    go_roundg g
                    case measure => omega
                    case rel =>
                      refine ⟨i + 1, by have := HX.out; omega, ⟨?_⟩, ⟨?_⟩, ⟨?_⟩⟩
                      · exact pw_below_drewN (Lib.below_iterAt HB1.out (Nat.le_refl _) _ _) _
                      · exact blk_drewN (Lib.iterAt_heap _ _ _ _ _ HI.out) _
                      · have hv := HV'.out
                        simpa using hv
                  · replace hd := Bool.eq_false_iff.mpr hd
                    rw [hd] at HD HV2
                    have hv := HV2.out
                    simp at hv
                    subst hv
                    clear HV2
                    go_wp2_with (first | (go_at_call 26; (with_reducible refine (name_letter.calls _ _ _ HL.out).mono ?_); rintro e w' ⟨rfl, ⟨nd, rfl⟩⟩) | (go_at_call 27; (with_reducible refine (name_digit.calls _ _ _ HD.out).mono ?_); rintro e w' ⟨rfl, ⟨nd2, rfl⟩⟩))
                    go_ret
                    exact ⟨rfl, pw_below_drewN (Lib.below_iterAt HB1.out (Nat.le_refl _) _ _) _⟩
            · have hnx := fun ty => Lib.run_next_any_at (P := Tryd.prog) wr w.heap.size a0 i ty HI.out hlt
              have q1 := (decode_hi3 a0 i hlt (by omega)).1
              have q2 := (decode_hi3 a0 i hlt (by omega)).2.1
              have hv := HV.out
              rw [valid_high a0 g i hlt (by omega)] at hv
              subst hv
              obtain ⟨c, hc⟩ : ∃ c : Nat, c = (Utf8.decode a0 i).1 := ⟨_, rfl⟩
              obtain ⟨d, hd⟩ : ∃ d : Nat, d = (Utf8.decode a0 i).2 := ⟨_, rfl⟩
              rw [← hc, ← hd] at hnx
              rw [← hc] at q1 q2
              clear hc hd ha
              have HL := Aside0.mk ((letter_eq (c : Int)).trans (congrArg some (letter_high _ (by omega))))
              have HD := Aside0.mk ((digit_eq (c : Int)).trans (congrArg some (digit_high _ (by omega))))
              clear hi
              by_cases h00 : i = 0
              · have hi00 : ((i : Int) == 0) = true := beq_iff_eq.mpr (by omega)
                clear h00
                go_wp2_with (go_at_call 26; (with_reducible refine (name_letter.calls _ _ _ HL.out).mono ?_); rintro e w' ⟨rfl, ⟨nd, rfl⟩⟩)
                go_ret
                exact ⟨rfl, pw_below_drewN (Lib.below_iterAt HB1.out (Nat.le_refl _) _ _) _⟩
              · have hi00 : ((i : Int) == 0) = false := beq_eq_false_iff_ne.mpr (by omega)
                clear h00
                go_wp2_with (first | (go_at_call 26; (with_reducible refine (name_letter.calls _ _ _ HL.out).mono ?_); rintro e w' ⟨rfl, ⟨nd, rfl⟩⟩) | (go_at_call 27; (with_reducible refine (name_digit.calls _ _ _ HD.out).mono ?_); rintro e w' ⟨rfl, ⟨nd2, rfl⟩⟩))
                go_ret
                exact ⟨rfl, pw_below_drewN (Lib.below_iterAt HB1.out (Nat.le_refl _) _ _) _⟩

/-! ### name_part: function 30 (by hand) -/
/-- All bytes are fit for a part of a path. -/
def partB (c : Int) : Bool := letterB c || digitB c || c == 45 || c == 46
def partL (s : ByteArray) : Nat → Int → Bool
  | 0, _ => true
  | g + 1, i => partB (bt s i) && partL s g (i + 1)
def name_part.f (s : ByteArray) : Option Bool :=
  if s.toList = [] then some false else if s.toList = [46] then some false else if s.toList = [46, 46] then some false else some (partL s s.size 0)
set_option maxHeartbeats 2000000 in
theorem name_part.calls (a0 : ByteArray) (r : Bool) (w : World) (h : name_part.f a0 = some r) : Calls Tryd.prog 30 #[.string a0] w fun e w' => e = .returned (.bool r) ∧ Below w.heap.size w w' := by
  unfold name_part.f at h
  by_cases h0 : a0.toList = []
  · rw [if_pos h0] at h
    obtain rfl := Option.some.inj h
    clear h
    go_enter Tryd.func30, Tryd.ntmps30
    go_wp2_with fail
    go_ret
    exact ⟨rfl, Below.refl _ _⟩
  · rw [if_neg h0] at h
    have e1 : a0.toList.isEmpty = false := by cases hl : a0.toList with
      | nil => exact absurd hl h0
      | cons a l => rfl
    by_cases h1 : a0.toList = [46]
    · rw [if_pos h1] at h
      obtain rfl := Option.some.inj h
      have e2 : (a0.toList == [46]) = true := beq_iff_eq.mpr h1
      clear h h0 h1
      go_enter Tryd.func30, Tryd.ntmps30
      go_wp2_with fail
      go_ret
      exact ⟨rfl, Below.refl _ _⟩
    · rw [if_neg h1] at h
      have e2 : (a0.toList == [46]) = false := beq_eq_false_iff_ne.mpr h1
      by_cases h2 : a0.toList = [46, 46]
      · rw [if_pos h2] at h
        obtain rfl := Option.some.inj h
        have e3 : (a0.toList == [46, 46]) = true := beq_iff_eq.mpr h2
        clear h h0 h1 h2
        go_enter Tryd.func30, Tryd.ntmps30
        go_wp2_with fail
        go_ret
        exact ⟨rfl, Below.refl _ _⟩
      · rw [if_neg h2] at h
        have e3 : (a0.toList == [46, 46]) = false := beq_eq_false_iff_ne.mpr h2
        have HR := Aside0.mk (Option.some.inj h)
        clear h h0 h1 h2
        go_enter Tryd.func30, Tryd.ntmps30
        go_wp2_with fail
        go_loopg [4] a0.size (fun gk v4 w' => ∃ i : Nat, i + gk = a0.size ∧ Aside0 (Below w.heap.size w w') ∧ Aside0 (w'.heap[w.heap.size]? = some (.stringIter a0 i)) ∧ Aside0 (partL a0 gk (i : Int) = r))
        case atStart =>
          refine ⟨0, by omega, ⟨?_⟩, ⟨?_⟩, HR⟩
          · exact below_alloc (by repeat (first | exact Below.refl _ _ | apply pw_below_drewN | apply below_drew1)) _
          · exact blk_new _ _
        case round =>
          obtain ⟨i, hi, HB1, HI, HV⟩ := hrel
          obtain ⟨go, rfl⟩ : ∃ go, go = gk := ⟨gk, rfl⟩
          have HX := Aside0.mk hi
          cases go with
          | zero =>
            have hnx := fun ty => Lib.run_next_end_at (P := Tryd.prog) wr w.heap.size a0 i ty HI.out (by omega)
            have hv := HV.out
            simp only [partL] at hv
            subst hv
            clear hi
            go_wp2
            go_ret
            exact ⟨rfl, HB1.out⟩
          | succ g =>
            have hlt : i < a0.size := by omega
            by_cases ha : (a0[i]'hlt).toNat < 128
            · have hnx := fun ty => Lib.run_next_ascii_at (P := Tryd.prog) wr w.heap.size a0 i ty HI.out hlt ha
              have HL := Aside0.mk (letter_eq ((a0[i]'hlt).toNat : Int))
              have HD := Aside0.mk (digit_eq ((a0[i]'hlt).toNat : Int))
              have hv := HV.out
              rw [partL, bt_idx a0 i hlt] at hv
              have HV' := Aside0.mk hv
              clear hv HV
              obtain ⟨c, hc⟩ : ∃ c : Nat, c = (a0[i]'hlt).toNat := ⟨_, rfl⟩
              rw [← hc] at hnx HL HD HV' ha
              clear hc hi
              by_cases hl : letterB (c : Int) = true
              · rw [hl] at HL
                rw [show partB (c : Int) = true from by unfold partB; rw [hl]; simp] at HV'
                clear hl
                go_wp2_with (go_at_call 26; (with_reducible refine (name_letter.calls _ _ _ HL.out).mono ?_); rintro e w' ⟨rfl, ⟨nd, rfl⟩⟩)
                go_roundg g
                case measure => omega
                case rel =>
                  refine ⟨i + 1, by have := HX.out; omega, ⟨?_⟩, ⟨?_⟩, ⟨?_⟩⟩
                  · exact pw_below_drewN (Lib.below_iterAt HB1.out (Nat.le_refl _) _ _) _
                  · exact blk_drewN (Lib.iterAt_heap _ _ _ _ _ HI.out) _
                  · have hv := HV'.out
                    simpa using hv
              · replace hl := Bool.eq_false_iff.mpr hl
                rw [hl] at HL
                by_cases hd : digitB (c : Int) = true
                · rw [hd] at HD
                  rw [show partB (c : Int) = true from by unfold partB; rw [hd]; simp] at HV'
                  clear hl hd
                  go_wp2_with (first | (go_at_call 26; (with_reducible refine (name_letter.calls _ _ _ HL.out).mono ?_); rintro e w' ⟨rfl, ⟨nd, rfl⟩⟩) | (go_at_call 27; (with_reducible refine (name_digit.calls _ _ _ HD.out).mono ?_); rintro e w' ⟨rfl, ⟨nd2, rfl⟩⟩))
                  go_roundg g
                  case measure => omega
                  case rel =>
                    refine ⟨i + 1, by have := HX.out; omega, ⟨?_⟩, ⟨?_⟩, ⟨?_⟩⟩
                    · exact pw_below_drewN (Lib.below_iterAt HB1.out (Nat.le_refl _) _ _) _
                    · exact blk_drewN (Lib.iterAt_heap _ _ _ _ _ HI.out) _
                    · have hv := HV'.out
                      simpa using hv
                · replace hd := Bool.eq_false_iff.mpr hd
                  rw [hd] at HD
                  by_cases h45 : (c : Int) = 45
                  · have x1 : ((c : Int) != 45) = false := bne_eq_false_iff_eq.mpr h45
                    have x2 : ((c : Int) == 45) = true := beq_iff_eq.mpr h45
                    rw [show partB (c : Int) = true from by unfold partB; rw [x2]; simp] at HV'
                    clear hl hd h45
                    go_wp2_with (first | (go_at_call 26; (with_reducible refine (name_letter.calls _ _ _ HL.out).mono ?_); rintro e w' ⟨rfl, ⟨nd, rfl⟩⟩) | (go_at_call 27; (with_reducible refine (name_digit.calls _ _ _ HD.out).mono ?_); rintro e w' ⟨rfl, ⟨nd2, rfl⟩⟩))
                    go_roundg g
                    case measure => omega
                    case rel =>
                      refine ⟨i + 1, by have := HX.out; omega, ⟨?_⟩, ⟨?_⟩, ⟨?_⟩⟩
                      · exact pw_below_drewN (Lib.below_iterAt HB1.out (Nat.le_refl _) _ _) _
                      · exact blk_drewN (Lib.iterAt_heap _ _ _ _ _ HI.out) _
                      · have hv := HV'.out
                        simpa using hv
                  · have x1 : ((c : Int) != 45) = true := bne_iff_ne.mpr h45
                    have x2 : ((c : Int) == 45) = false := beq_eq_false_iff_ne.mpr h45
                    by_cases h46 : (c : Int) = 46
                    · have x3 : ((c : Int) != 46) = false := bne_eq_false_iff_eq.mpr h46
                      have x4 : ((c : Int) == 46) = true := beq_iff_eq.mpr h46
                      rw [show partB (c : Int) = true from by unfold partB; rw [x4]; simp] at HV'
                      clear hl hd h45 h46
                      go_wp2_with (first | (go_at_call 26; (with_reducible refine (name_letter.calls _ _ _ HL.out).mono ?_); rintro e w' ⟨rfl, ⟨nd, rfl⟩⟩) | (go_at_call 27; (with_reducible refine (name_digit.calls _ _ _ HD.out).mono ?_); rintro e w' ⟨rfl, ⟨nd2, rfl⟩⟩))
                      go_roundg g
                      case measure => omega
                      case rel =>
                        refine ⟨i + 1, by have := HX.out; omega, ⟨?_⟩, ⟨?_⟩, ⟨?_⟩⟩
                        · exact pw_below_drewN (Lib.below_iterAt HB1.out (Nat.le_refl _) _ _) _
                        · exact blk_drewN (Lib.iterAt_heap _ _ _ _ _ HI.out) _
                        · have hv := HV'.out
                          simpa using hv
                    · have x3 : ((c : Int) != 46) = true := bne_iff_ne.mpr h46
                      have x4 : ((c : Int) == 46) = false := beq_eq_false_iff_ne.mpr h46
                      rw [show partB (c : Int) = false from by unfold partB; rw [hl, hd, x2, x4]; rfl] at HV'
                      have hv := HV'.out
                      simp at hv
                      subst hv
                      clear hl hd h45 h46 HV'
                      go_wp2_with (first | (go_at_call 26; (with_reducible refine (name_letter.calls _ _ _ HL.out).mono ?_); rintro e w' ⟨rfl, ⟨nd, rfl⟩⟩) | (go_at_call 27; (with_reducible refine (name_digit.calls _ _ _ HD.out).mono ?_); rintro e w' ⟨rfl, ⟨nd2, rfl⟩⟩))
                      go_ret
                      exact ⟨rfl, pw_below_drewN (Lib.below_iterAt HB1.out (Nat.le_refl _) _ _) _⟩
            · have hnx := fun ty => Lib.run_next_any_at (P := Tryd.prog) wr w.heap.size a0 i ty HI.out hlt
              have q1 := (decode_hi3 a0 i hlt (by omega)).1
              have q2 := (decode_hi3 a0 i hlt (by omega)).2.1
              have hv := HV.out
              rw [partL, bt_idx a0 i hlt, show partB ((a0[i]'hlt).toNat : Int) = false from by unfold partB; rw [letter_high _ (by omega), digit_high _ (by omega)]; simp; omega] at hv
              simp at hv
              subst hv
              obtain ⟨c, hc⟩ : ∃ c : Nat, c = (Utf8.decode a0 i).1 := ⟨_, rfl⟩
              obtain ⟨d, hd⟩ : ∃ d : Nat, d = (Utf8.decode a0 i).2 := ⟨_, rfl⟩
              rw [← hc, ← hd] at hnx
              rw [← hc] at q1 q2
              clear hc hd ha
              have HL := Aside0.mk ((letter_eq (c : Int)).trans (congrArg some (letter_high _ (by omega))))
              have HD := Aside0.mk ((digit_eq (c : Int)).trans (congrArg some (digit_high _ (by omega))))
              have x1 : ((c : Int) != 45) = true := bne_iff_ne.mpr (by omega)
              have x3 : ((c : Int) != 46) = true := bne_iff_ne.mpr (by omega)
              clear hi
              go_wp2_with (first | (go_at_call 26; (with_reducible refine (name_letter.calls _ _ _ HL.out).mono ?_); rintro e w' ⟨rfl, ⟨nd, rfl⟩⟩) | (go_at_call 27; (with_reducible refine (name_digit.calls _ _ _ HD.out).mono ?_); rintro e w' ⟨rfl, ⟨nd2, rfl⟩⟩))
              go_ret
              exact ⟨rfl, pw_below_drewN (Lib.below_iterAt HB1.out (Nat.le_refl _) _ _) _⟩

end Go.Proofs.YtjkdgbndpdfkiaaDoor.Q
