/- ConflictOrder returns true: proved here by steps through the program's text; no condition but those that stand in each theorem. -/
import Derived.WalkSpells
import Derived.Deep.RegionLaw
import Derived.Lib.OthersKept
import Derived.Test.YtcajhkbobpakaaaDoorShelf
import Derived.Test.YtcajhkbobpakaaaDoorSt
import Derived.Test.YtcajhkbobpakaaaDoorQ0
import Derived.Test.YtcajhkbobpakaaaDoorQ2
import Derived.Test.YtcajhkbobpakaaaDoorQ6
import Derived.Test.YtcajhkbobpakaaaDoorQ7
import Derived.Test.YtcajhkbobpakaaaDoorQ8
import Derived.Lib.ItoaLen
import Derived.Lib.ItoaMem
import Derived.OpenShut
namespace Go.Proofs.YtcajhkbobpakaaaDoor.Scratch
set_option linter.unusedVariables false
open Go.RowKit Go.Proofs.YtcajhkbobpakaaaDoorW.PrintWords Go.Proofs.YtcajhkbobpakaaaDoorW.PrintLast Go.Proofs.YtcajhkbobpakaaaDoorW.PrintMore Go.Proofs.YtcajhkbobpakaaaDoor.Q
attribute [local go_sem] max2_int min2_int max_two min_two max_three min_three max_four min_four
theorem Ev.pos {α : Type} {c : Prop} [Decidable c] {A B : Nat → Option α} {r : α} (h : c) (k : Ev A r) : Ev (fun n => if c then A n else B n) r := by simpa only [if_pos h] using k
theorem Ev.neg {α : Type} {c : Prop} [Decidable c] {A B : Nat → Option α} {r : α} (h : ¬ c) (k : Ev B r) : Ev (fun n => if c then A n else B n) r := by simpa only [if_neg h] using k
theorem Ev.cast {α : Type} {g : Nat → Option α} {r r' : α} (h : r = r') (k : Ev g r) : Ev g r' := h ▸ k
theorem wrap_up {i n : Nat} (h : i < n) (hn : n ≤ 140737488351232) : wrap64 ((i : Int) + 1) = ((i + 1 : Nat) : Int) := by
  unfold wrap64
  omega
theorem ba_ext {a b : ByteArray} (h : a.data.toList = b.data.toList) : a = b := ByteArray.ext (Array.ext' h)
theorem ext_list (s : ByteArray) (a b : Nat) : (s.extract a b).data.toList = (s.data.toList.drop a).take (b - a) := by
  rw [ByteArray.data_extract, Array.toList_extract, List.extract_eq_take_drop]
theorem app_list (a b : ByteArray) : (a ++ b).data.toList = a.data.toList ++ b.data.toList := by
  rw [ByteArray.data_append, Array.toList_append]
theorem ba_len (s : ByteArray) : s.data.toList.length = s.size := Array.length_toList ..
theorem bt_get (s : ByteArray) (i : Nat) (h : i < s.data.toList.length) : bt s (i : Int) = ((s.data.toList[i]).toNat : Int) := by
  have h' : i < s.size := by simpa using h
  unfold bt
  simp only [Int.toNat_natCast]
  rw [dif_pos h']
  rfl
theorem wrap_upI {i : Int} {n : Nat} (h0 : 0 ≤ i) (h : i < (n : Int)) (hn : n ≤ 140737488351232) : wrap64 (i + 1) = i + 1 := by
  unfold wrap64
  omega
def dsum (l : List UInt8) (d : Int) : Int := l.foldl (fun d c => dstep d (c.toNat : Int)) d
theorem size_len (s : ByteArray) : (s.size : Int) = (s.data.toList.length : Int) := by simp
theorem sum_loop (s : ByteArray) (hs : s.size ≤ 140737488351232) : ∀ (m i : Nat) (d : Int), i + m = s.size → Ev (fun k => digest_Sum.l0 k s d (s.size : Int) (i : Int)) (dsum (s.data.toList.drop i) d) := by
  intro m
  induction m with
  | zero =>
    intro i d hi
    refine Ev.step (fun k => by rw [digest_Sum.l0, if_neg (by omega)]) ?_
    rw [List.drop_of_length_le (by simp; omega)]
    exact Ev.now _
  | succ m ih =>
    intro i d hi
    have hlt : i < s.data.toList.length := by simp; omega
    refine Ev.step (fun k => by rw [digest_Sum.l0, if_pos (by omega), if_pos (by omega), if_pos (by omega), wrap_upI (n := s.size) (by omega) (by omega) hs]) ?_
    rw [List.drop_eq_getElem_cons hlt, bt_get s i hlt]
    exact ih (i + 1) _ (by omega)
theorem sum_ev (s : ByteArray) (hs : s.size ≤ 140737488351232) : Ev (fun k => digest_Sum.f k s) (dsum s.data.toList 14695981039346656037) := by
  have := sum_loop s hs s.size 0 14695981039346656037 (by omega)
  simpa [digest_Sum.f] using this
theorem mixp_ev (a b : Int) : Ev (fun _ => digest_Mix.f a b) (dnum b 8 (dnum a 8 14695981039346656037)) := ⟨0, fun _ _ => rfl⟩
/-- Bytes of a literal. -/
theorem rdOf_at (l : List ByteArray) (i : Nat) (h : i < l.length) : rdOf ByteArray.empty l (i : Int) = l[i] := by
  unfold rdOf
  simp [List.getD_eq_getElem?_getD, List.getElem?_eq_getElem h]
def dall (l : List ByteArray) (d : Int) : Int := l.foldl (fun d s => dnum (dsum s.data.toList 14695981039346656037) 8 (dnum d 8 14695981039346656037)) d
theorem dall_cons (s : ByteArray) (l : List ByteArray) (d : Int) : dall (s :: l) d = dall l (dnum (dsum s.data.toList 14695981039346656037) 8 (dnum d 8 14695981039346656037)) := by simp only [dall, List.foldl_cons]
def dlen (n : Nat) (d : Int) : Int := dnum (IntKind.u64.wrap (n : Int)) 8 (dnum d 8 14695981039346656037)
theorem all_loop (l : List ByteArray) (hl : l.length * 16 ≤ 140737488351232) (hs : ∀ s ∈ l, s.size ≤ 140737488351232) : ∀ (m i : Nat) (d : Int), i + m = l.length → Ev (fun k => digest_All.l0 k l d l (l.length : Int) (i : Int)) (dlen l.length (dall (l.drop i) d)) := by
  intro m
  induction m with
  | zero =>
    intro i d hi
    refine Ev.step (fun k => by rw [digest_All.l0, if_neg (by omega)]) ?_
    rw [List.drop_of_length_le (by omega)]
    simp only [digest_Mix.f, Option.bind_some, dall, List.foldl_nil, dlen]
    exact Ev.now _
  | succ m ih =>
    intro i d hi
    have hlt : i < l.length := by omega
    rw [List.drop_eq_getElem_cons hlt, dall_cons]
    refine Ev.step (fun k => by rw [digest_All.l0, if_pos (by omega), if_pos (by omega), if_pos (by omega), wrap_upI (n := l.length) (by omega) (by omega) (by omega), rdOf_at l i hlt]) ?_
    refine (sum_ev _ (hs _ (List.getElem_mem hlt))).bind ?_
    simp only [digest_Mix.f, Option.bind_some]
    exact ih (i + 1) _ (by omega)
theorem all_ev (l : List ByteArray) (hl : l.length * 16 ≤ 140737488351232) (hs : ∀ s ∈ l, s.size ≤ 140737488351232) : Ev (fun k => digest_All.f k l) (dlen l.length (dall l 14695981039346656037)) :=
  (sum_ev ⟨#[]⟩ (by decide)).bind (all_loop l hl hs l.length 0 _ (by omega))
theorem itoa_size (n : Int) (h0 : -9223372036854775808 ≤ n) (h1 : n ≤ 9223372036854775807) : (⟨(Lib.itoa n).toArray⟩ : ByteArray).size ≤ 21 := by
  have := Lib.itoa_length_le n h0 h1
  rw [← ba_len]
  simpa using this
theorem conflict_sum_ev (l : List ByteArray) (hl : l.length * 16 ≤ 140737488351232) (hs : ∀ s ∈ l, s.size ≤ 140737488351232) : Ev (fun k => conflict_sum.f k l) (dlen l.length (dall l 14695981039346656037)) := by
  unfold conflict_sum.f
  exact (all_ev l hl hs).bind (Ev.now _)
def keyS (c : S23) : Int := dlen 4 (dall [⟨(Lib.itoa c.f0).toArray⟩, c.f2, c.f3, c.f4] 14695981039346656037)
def FewC (c : S23) : Prop := (-9223372036854775808 ≤ c.f0 ∧ c.f0 ≤ 9223372036854775807) ∧ c.f2.size ≤ 1000000 ∧ c.f3.size ≤ 1000000 ∧ c.f4.size ≤ 1000000
theorem key_list (c : S23) (h : FewC c) : ∀ s ∈ [(⟨(Lib.itoa c.f0).toArray⟩ : ByteArray), c.f2, c.f3, c.f4], s.size ≤ 140737488351232 := by
  obtain ⟨h1, h2, h3, h4⟩ := h
  have hi := itoa_size c.f0 h1.1 h1.2
  intro s hs
  simp only [List.mem_cons, List.not_mem_nil, or_false] at hs
  rcases hs with rfl | rfl | rfl | rfl <;> omega
theorem conflict_key_ev (c : S23) (h : FewC c) : Ev (fun k => conflict_Key.f k c.f0 c.f1 c.f2 c.f3 c.f4) (keyS c) := by
  unfold conflict_Key.f keyS strconv_Itoa.f
  rw [if_pos h.1]
  simp only [Option.bind_some]
  exact (conflict_sum_ev [⟨(Lib.itoa c.f0).toArray⟩, c.f2, c.f3, c.f4] (by simp) (key_list c h)).bind (Ev.now _)

def WfC (x : S23) : Prop := (Lit.int .i64 x.f0).wf = true ∧ (Lit.int .i64 x.f1).wf = true ∧ x.f2.size ≤ 140737488351232 ∧ x.f3.size ≤ 140737488351232 ∧ x.f4.size ≤ 140737488351232

theorem rd23 (l : List S23) (i : Nat) (h : i < l.length) : rd_T23 l (i : Int) = l[i] := by
  unfold rd_T23
  simp [List.getD_eq_getElem?_getD, List.getElem?_eq_getElem h]
theorem rd48 (l : List S48) (i : Nat) (h : i < l.length) : rd_T48 l (i : Int) = l[i] := by
  unfold rd_T48
  simp [List.getD_eq_getElem?_getD, List.getElem?_eq_getElem h]
def smallC (c : S23) : Bool := decide (c.f2.size ≤ 300) && decide (c.f3.size ≤ 300) && decide (c.f4.size ≤ 300)
theorem small_ev (c : S23) : treemergelaw34_small.f c.f0 c.f1 c.f2 c.f3 c.f4 = some (smallC c) := by
  unfold treemergelaw34_small.f smallC
  by_cases h1 : c.f2.size ≤ 300
  · rw [if_pos (by omega)]
    by_cases h2 : c.f3.size ≤ 300
    · rw [if_pos (by omega)]
      by_cases h3 : c.f4.size ≤ 300
      · simp [h1, h2, h3]; omega
      · simp [h1, h2, h3]; omega
    · rw [if_neg (by omega)]
      simp [h1, h2]
  · rw [if_neg (by omega)]
    simp [h1]
theorem fewC_of {c : S23} (h : WfC c) (h2 : smallC c = true) : FewC c := by
  have := bounds_i64 h.1
  unfold smallC at h2
  simp only [Bool.and_eq_true, decide_eq_true_eq] at h2
  exact ⟨⟨by omega, by omega⟩, by omega, by omega, by omega⟩

/-- The list's guard. -/
theorem few_loop (l : List S23) (hl : l.length ≤ 30) : ∀ (g i : Nat), i + g = l.length → Ev (fun k => treemergelaw34_few.l0 k l (i : Int)) ((l.drop i).all smallC) := by
  intro g
  induction g with
  | zero =>
    intro i hi
    rw [List.drop_of_length_le (by omega)]
    exact Ev.step (fun k => by rw [treemergelaw34_few.l0, if_neg (by omega)]; rfl) (Ev.now _)
  | succ g ih =>
    intro i hi
    have hil : i < l.length := by omega
    have wu : wrap64 ((i : Int) + 1) = ((i + 1 : Nat) : Int) := by unfold wrap64; omega
    rw [List.drop_eq_getElem_cons hil, List.all_cons]
    have hs := small_ev l[i]
    refine Ev.step (fun k => by rw [treemergelaw34_few.l0, if_pos (by omega), if_pos (by omega), rd23 l i hil, wu, hs, Option.bind_some]) ?_
    cases c : smallC l[i] with
    | false => exact Ev.cast (by simp) (Ev.now false)
    | true =>
      exact Ev.cast (by rw [Bool.true_and]) (ih (i + 1) (by omega))
def fewC (l : List S23) : Bool := decide (l.length ≤ 30) && l.all smallC
theorem few_ev (l : List S23) : Ev (fun k => treemergelaw34_few.f k l) (fewC l) := by
  unfold treemergelaw34_few.f fewC
  by_cases h : l.length ≤ 30
  · refine Ev.neg (by omega) (Ev.cast ?_ (few_loop l h l.length 0 (by omega)))
    simp [h]
  · exact Ev.pos (by omega) (Ev.cast (by simp [h]) (Ev.now false))

theorem bytes_beq (a b : ByteArray) : (a.toList == b.toList) = decide (a = b) := by
  rw [Bool.eq_iff_iff, beq_iff_eq, decide_eq_true_eq, ByteArray.toList_eq, ByteArray.toList_eq]
  exact ⟨fun h => ba_ext h, fun h => by rw [h]⟩
theorem S23.ext_iff' (x y : S23) : x = y ↔ x.f0 = y.f0 ∧ x.f1 = y.f1 ∧ x.f2 = y.f2 ∧ x.f3 = y.f3 ∧ x.f4 = y.f4 := by
  cases x; cases y; simp
instance : DecidableEq S23 := fun x y => decidable_of_iff _ (S23.ext_iff' x y).symm
theorem diff23 (x y : S23) : (!(x.f0 == y.f0) || (!(x.f1 == y.f1) || (!((x.f2.toList) == (y.f2.toList)) || (!((x.f3.toList) == (y.f3.toList)) || (!((x.f4.toList) == (y.f4.toList))))))) = !decide (x = y) := by
  rw [bytes_beq, bytes_beq, bytes_beq]
  by_cases h : x = y
  · subst h; simp
  · rw [decide_eq_false h]
    rw [S23.ext_iff'] at h
    by_cases h0 : x.f0 = y.f0 <;> by_cases h1 : x.f1 = y.f1 <;> by_cases h2 : x.f2 = y.f2 <;> by_cases h3 : x.f3 = y.f3 <;> by_cases h4 : x.f4 = y.f4 <;> simp_all
theorem eqs23 (x y : S23) : (x.f0 == y.f0 && (x.f1 == y.f1 && ((x.f2.toList) == y.f2.toList && ((x.f3.toList) == y.f3.toList && ((x.f4.toList) == y.f4.toList))))) = decide (x = y) := by
  have h := diff23 x y
  rw [← Bool.not_not (b := decide (x = y)), ← h]
  simp only [Bool.not_or, Bool.not_not]
/-- Two lists are equal. -/
theorem same_loop (a b : List S23) (hl : a.length = b.length) (hm : a.length ≤ 1000000) : ∀ (g i : Nat), i + g = a.length → Ev (fun k => treemergeref34_Same.l0 k a b (i : Int)) (decide (a.drop i = b.drop i)) := by
  intro g
  induction g with
  | zero =>
    intro i hi
    rw [List.drop_of_length_le (by omega), List.drop_of_length_le (by omega)]
    exact Ev.step (fun k => by rw [treemergeref34_Same.l0, if_neg (by omega)]; rfl) (Ev.now _)
  | succ g ih =>
    intro i hi
    have hil : i < a.length := by omega
    have hil2 : i < b.length := by omega
    have wu : wrap64 ((i : Int) + 1) = ((i + 1 : Nat) : Int) := by unfold wrap64; omega
    rw [List.drop_eq_getElem_cons hil, List.drop_eq_getElem_cons hil2]
    refine Ev.step (fun k => by rw [treemergeref34_Same.l0, if_pos (by omega), if_pos (by omega), if_pos (by omega), rd23 a i hil, rd23 b i hil2, wu, diff23]) ?_
    by_cases c : a[i] = b[i]
    · refine Ev.neg (by simp [c]) (Ev.cast ?_ (ih (i + 1) (by omega)))
      rw [decide_eq_decide, List.cons.injEq]
      exact ⟨fun h => ⟨c, h⟩, fun h => h.2⟩
    · refine Ev.pos (by simp [c]) (Ev.cast ?_ (Ev.now false))
      rw [eq_comm, decide_eq_false_iff_not, List.cons.injEq]
      exact fun h => c h.1
theorem same_ev (a b : List S23) (hm : a.length ≤ 1000000) : Ev (fun k => treemergeref34_Same.f k a b) (decide (a = b)) := by
  unfold treemergeref34_Same.f
  by_cases h : a.length = b.length
  · exact Ev.pos (by omega) (same_loop a b h hm a.length 0 (by omega))
  · exact Ev.neg (by omega) (Ev.cast (by rw [eq_comm, decide_eq_false_iff_not]; exact fun e => h (by rw [e])) (Ev.now false))

theorem order_f (l : List S23) (hl : l.length ≤ 1000) : conflict_Order.f l = some (stSrt (ltOf ordC) l) := by
  unfold conflict_Order.f
  rw [if_pos (by omega)]

/-- The conflicts that no pick decides. -/
def openS (ps : List S48) (l : List S23) : List S23 := l.filter (fun c => !ps.any (pickP (keyS c)))
theorem open_loop (ps : List S48) : ∀ (l : List S23), (∀ c ∈ l, FewC c) → ∀ out, Ev (fun k => openL k ps l out) (out ++ openS ps l) := by
  intro l
  induction l with
  | nil => intro _ out; exact Ev.cast (by simp [openS]) (Ev.now out)
  | cons c l ih =>
    intro h out
    unfold openL
    refine (conflict_key_ev c (h c (by simp))).bind ?_
    refine Ev.cast ?_ (ih (fun d hd => h d (by simp [hd])) _)
    unfold openS
    rw [List.filter_cons]
    cases ps.any (pickP (keyS c)) <;> simp
theorem open_ev (l : List S23) (ps : List S48) (hl : l.length ≤ 1000000) (hp : ps.length ≤ 1000000) (h : ∀ c ∈ l, FewC c) : Ev (fun k => conflict_Open.f k l ps) (openS ps l) := by
  unfold conflict_Open.f
  exact Ev.pos ⟨hl, hp⟩ (Ev.cast (by simp) (open_loop ps l h []))

theorem count_loop (l : List S23) (hl : l.length ≤ 1000000) (c : S23) : ∀ (g i : Nat) (n : Int), i + g = l.length → 0 ≤ n → n ≤ i → Ev (fun k => treemergelaw34_count.l0 k l n (i : Int) c.f0 c.f1 c.f2 c.f3 c.f4) (n + ((l.drop i).countP (fun x => decide (x = c)) : Nat)) := by
  intro g
  induction g with
  | zero =>
    intro i n hi _ _
    rw [List.drop_of_length_le (by omega)]
    exact Ev.step (fun k => by rw [treemergelaw34_count.l0, if_neg (by omega)]) (Ev.cast (by simp) (Ev.now n))
  | succ g ih =>
    intro i n hi hn0 hn
    have hil : i < l.length := by omega
    have wu : wrap64 ((i : Int) + 1) = ((i + 1 : Nat) : Int) := by unfold wrap64; omega
    have wn : wrap64 (n + 1) = n + 1 := by unfold wrap64; omega
    rw [List.drop_eq_getElem_cons hil, List.countP_cons]
    refine Ev.step (fun k => by rw [treemergelaw34_count.l0, if_pos (by omega), if_pos (by omega), rd23 l i hil, wu, wn, eqs23]) ?_
    by_cases e : l[i] = c
    · refine Ev.pos (decide_eq_true e) (Ev.cast ?_ (ih (i + 1) (n + 1) (by omega) (by omega) (by omega)))
      rw [if_pos (decide_eq_true e)]
      omega
    · refine Ev.neg (by simp [e]) (Ev.cast ?_ (ih (i + 1) n (by omega) hn0 (by omega)))
      rw [if_neg (by simp [e])]
      omega
theorem count_ev (l : List S23) (hl : l.length ≤ 1000000) (c : S23) : Ev (fun k => treemergelaw34_count.f k l c.f0 c.f1 c.f2 c.f3 c.f4) ((l.countP (fun x => decide (x = c)) : Nat) : Int) := by
  unfold treemergelaw34_count.f
  exact Ev.cast (by simp) (count_loop l hl c l.length 0 0 (by omega) (by omega) (by omega))

set_option maxRecDepth 100000 in
theorem awake_g : treemergelaw34_awake.g 40 = some true := by decide +kernel
theorem awake_ev : Ev (fun k => treemergelaw34_awake.f k) true := Ev.of treemergelaw34_awake.mono (k := 40) (by unfold treemergelaw34_awake.f; rw [if_pos awake_g])
theorem awake_ev2 : Ev (fun k => (treemergelaw34_awake.f k).bind fun t => some t) true := awake_ev.bind (Ev.now true)

theorem fewAll {l : List S23} (hw : ∀ c ∈ l, WfC c) (h : fewC l = true) : l.length ≤ 30 ∧ ∀ c ∈ l, FewC c := by
  unfold fewC at h
  simp only [Bool.and_eq_true, decide_eq_true_eq, List.all_eq_true] at h
  exact ⟨h.1, fun c hc => fewC_of (hw c hc) (h.2 c hc)⟩

theorem Ev.same {α : Type} {f g : Nat → Option α} {r : α} (h : ∀ k, f k = g k) (hg : Ev g r) : Ev f r := by rw [funext h]; exact hg
theorem stSrt_of_sorted {α : Type} (lt : α → α → Bool) (L : List α) (h : StSorted lt L) : stSrt lt L = L := by
  obtain ⟨n, hn⟩ : ∃ n, L.length = n := ⟨_, rfl⟩
  induction n generalizing L with
  | zero => rw [List.eq_nil_of_length_eq_zero hn]; rfl
  | succ n ih =>
    rcases List.eq_nil_or_concat L with e | ⟨M, c, e⟩
    · subst e; rfl
    · rw [List.concat_eq_append] at e
      subst e
      obtain ⟨h1, _, h3⟩ := List.pairwise_append.1 h
      rw [stSrt_snoc, ih M h1 (by simpa using hn)]
      have := stIns_append lt c M [] (fun x hx => h3 x hx c (by simp))
      rwa [List.append_nil] at this
theorem openS_nil (l : List S23) : openS [] l = l := by
  unfold openS
  exact List.filter_eq_self.2 (fun c _ => rfl)
theorem ConflictOrder_loop (l s : List S23) (hs : s = stSrt (ltOf ordC) l) (hl : l.length ≤ 30) : ∀ (g i : Nat), i + g = l.length → Ev (fun k => treemergelaw34_ConflictOrder.l0 k l s (i : Int)) true := by
  have hp : s.Perm l := hs ▸ stSrt_perm _ l
  have hle : s.length = l.length := hp.length_eq
  have ho : StSorted (ltOf ordC) s := hs ▸ stSrt_sorted ordSWO l
  intro g
  induction g with
  | zero =>
    intro i hi
    exact Ev.step (fun k => by rw [treemergelaw34_ConflictOrder.l0, if_neg (by omega)]) awake_ev2
  | succ g ih =>
    intro i hi
    have hil : i < l.length := by omega
    have his : i < s.length := by omega
    have wu : wrap64 ((i : Int) + 1) = ((i + 1 : Nat) : Int) := by unfold wrap64; omega
    refine Ev.step (fun k => by rw [treemergelaw34_ConflictOrder.l0, if_pos (by omega), if_pos (by omega), if_pos (by omega), rd23 l i hil, wu]) ?_
    refine (count_ev s (by omega) l[i]).bind ((count_ev l (by omega) l[i]).bind ?_)
    refine Ev.pos (by rw [hp.countP_eq]) ?_
    by_cases h0 : i = 0
    · exact Ev.neg (by omega) (ih (i + 1) (by omega))
    · have wd : wrap64 ((i : Int) - 1) = ((i - 1 : Nat) : Int) := by unfold wrap64; omega
      refine Ev.pos (by omega) ?_
      rw [wd, rd23 s (i - 1) (by omega), rd23 s i his]
      have hq := ho.at (i := i - 1) (j := i) (by omega) his (by omega)
      rw [ordC_lt, decide_eq_false_iff_not] at hq
      refine Ev.pos (by omega) (Ev.pos (by omega) (Ev.neg (by omega) ?_))
      by_cases he : (s[i - 1]'(by omega)).f1 = s[i].f1
      · exact Ev.pos he (Ev.neg (by omega) (ih (i + 1) (by omega)))
      · exact Ev.neg he (ih (i + 1) (by omega))
theorem ConflictOrder_ev (l : List S23) (hw : ∀ c ∈ l, WfC c) : Ev (fun k => treemergelaw34_ConflictOrder.f k l) true := by
  unfold treemergelaw34_ConflictOrder.f
  refine (few_ev l).bind ?_
  cases hf : fewC l with
  | false => exact Ev.neg (by decide) awake_ev2
  | true =>
    refine Ev.pos rfl ?_
    obtain ⟨hl, hfew⟩ := fewAll hw hf
    have hs : stSrt (ltOf ordC) (stSrt (ltOf ordC) l) = stSrt (ltOf ordC) l := stSrt_of_sorted _ _ (stSrt_sorted ordSWO l)
    refine Ev.same (fun k => by rw [order_f l (by omega), Option.bind_some, if_pos (by rw [stSrt_length]), order_f _ (by rw [stSrt_length]; omega), Option.bind_some, hs]) ?_
    have hlen : (stSrt (ltOf ordC) l).length ≤ 1000000 := by rw [stSrt_length]; omega
    refine (same_ev (stSrt (ltOf ordC) l) (stSrt (ltOf ordC) l) hlen).bind ?_
    refine Ev.pos (by simp) ?_
    refine (open_ev l [] (by omega) (by simp) hfew).bind ?_
    rw [openS_nil]
    refine (same_ev l l (by omega)).bind ?_
    refine Ev.step (fun k => by rw [treemergelaw34_ConflictOrder.j0, if_neg (by simp)]) ?_
    exact ConflictOrder_loop l _ rfl hl l.length 0 (by omega)
theorem ConflictOrder_row {w : World} (A0 : Option Addr) (c0 : Nat) (l0 : List S23) (hr0 : Kd.C k23 w A0 l0.length l0) (hc0 : l0.length ≤ c0) (hy0 : l0.length * 64 ≤ 140737488351232) (hok0 : ∀ x ∈ l0, (Lit.int .i64 x.f0).wf = true ∧ (Lit.int .i64 x.f1).wf = true ∧ x.f2.size ≤ 140737488351232 ∧ x.f3.size ≤ 140737488351232 ∧ x.f4.size ≤ 140737488351232) (hG : Glob w) : Calls Tryd.prog 7 #[.slice A0 l0.length c0] w fun e w' => e = .returned (.bool true) ∧ Below w.heap.size w w' := by
  obtain ⟨k, hk⟩ := (ConflictOrder_ev l0 hok0).rounds
  exact treemergelaw34_ConflictOrder.calls0 k A0 c0 l0 true rfl w hr0 hc0 hG hk

end Go.Proofs.YtcajhkbobpakaaaDoor.Scratch
