/- ConflictExplains returns true: proved here by steps through the program's text; no condition but those that stand in each theorem. -/
import Derived.WalkSpells
import Derived.Deep.RegionLaw
import Derived.Lib.OthersKept
import Derived.Test.YtcajhkbobpakaaaDoorShelf
import Derived.Test.YtcajhkbobpakaaaDoorSt
import Derived.Test.YtcajhkbobpakaaaDoorQ0
import Derived.Test.YtcajhkbobpakaaaDoorQ1
import Derived.Test.YtcajhkbobpakaaaDoorQ5
import Derived.Test.YtcajhkbobpakaaaDoorQ6
import Derived.Test.YtcajhkbobpakaaaDoorQ9b
import Derived.Test.YtcajhkbobpakaaaDoorQ7
import Derived.Lib.ItoaLen
import Derived.Lib.ItoaMem
import Derived.OpenShut
namespace Go.Proofs.YtcajhkbobpakaaaDoor.Scratch
set_option linter.unusedVariables false
open Go.RowKit Go.Proofs.YtcajhkbobpakaaaDoorW.PrintWords Go.Proofs.YtcajhkbobpakaaaDoorW.PrintLast Go.Proofs.YtcajhkbobpakaaaDoorW.PrintMore Go.Proofs.YtcajhkbobpakaaaDoor.Q
attribute [local go_sem] max2_int min2_int max_two min_two max_three min_three max_four min_four
theorem Ev.pos {α : Type} {c : Prop} [Decidable c] {A B : Nat → Option α} {r : α} (h : c) (k : Ev A r) : Ev (fun n => if c then A n else B n) r := by simpa only [if_pos h] using k
theorem Ev.neg {α : Type} {c : Prop} [Decidable c] {A B : Nat → Option α} {r : α} (h : ¬ c) (k : Ev B r) : Ev (fun n => if c then A n else B n) r := by simpa only [if_neg h] using k
theorem Ev.cast {α : Type} {g : Nat → Option α} {r r' : α} (h : r = r') (k : Ev g r) : Ev g r' := h ▸ k
theorem Ev.same {α : Type} {f g : Nat → Option α} {r : α} (h : ∀ k, f k = g k) (hg : Ev g r) : Ev f r := by rw [funext h]; exact hg
theorem wrap_up {i n : Nat} (h : i < n) (hn : n ≤ 140737488351232) : wrap64 ((i : Int) + 1) = ((i + 1 : Nat) : Int) := by
  unfold wrap64
  omega
theorem ba_ext {a b : ByteArray} (h : a.data.toList = b.data.toList) : a = b := ByteArray.ext (Array.ext' h)
theorem ext_list (s : ByteArray) (a b : Nat) : (s.extract a b).data.toList = (s.data.toList.drop a).take (b - a) := by
  rw [ByteArray.data_extract, Array.toList_extract, List.extract_eq_take_drop]
theorem app_list (a b : ByteArray) : (a ++ b).data.toList = a.data.toList ++ b.data.toList := by
  rw [ByteArray.data_append, Array.toList_append]
theorem ba_len (s : ByteArray) : s.data.toList.length = s.size := Array.length_toList ..
theorem bt_get (s : ByteArray) (i : Nat) (h : i < s.data.toList.length) : bt s (i : Int) = ((s.data.toList[i]).toNat : Int) := by
  have h' : i < s.size := by simpa using h
  unfold bt
  simp only [Int.toNat_natCast]
  rw [dif_pos h']
  rfl
theorem wrap_upI {i : Int} {n : Nat} (h0 : 0 ≤ i) (h : i < (n : Int)) (hn : n ≤ 140737488351232) : wrap64 (i + 1) = i + 1 := by
  unfold wrap64
  omega
def dsum (l : List UInt8) (d : Int) : Int := l.foldl (fun d c => dstep d (c.toNat : Int)) d
theorem size_len (s : ByteArray) : (s.size : Int) = (s.data.toList.length : Int) := by simp
theorem sum_loop (s : ByteArray) (hs : s.size ≤ 140737488351232) : ∀ (m i : Nat) (d : Int), i + m = s.size → Ev (fun k => digest_Sum.l0 k s d (s.size : Int) (i : Int)) (dsum (s.data.toList.drop i) d) := by
  intro m
  induction m with
  | zero =>
    intro i d hi
    refine Ev.step (fun k => by rw [digest_Sum.l0, if_neg (by omega)]) ?_
    rw [List.drop_of_length_le (by simp; omega)]
    exact Ev.now _
  | succ m ih =>
    intro i d hi
    have hlt : i < s.data.toList.length := by simp; omega
    refine Ev.step (fun k => by rw [digest_Sum.l0, if_pos (by omega), if_pos (by omega), if_pos (by omega), wrap_upI (n := s.size) (by omega) (by omega) hs]) ?_
    rw [List.drop_eq_getElem_cons hlt, bt_get s i hlt]
    exact ih (i + 1) _ (by omega)
theorem sum_ev (s : ByteArray) (hs : s.size ≤ 140737488351232) : Ev (fun k => digest_Sum.f k s) (dsum s.data.toList 14695981039346656037) := by
  have := sum_loop s hs s.size 0 14695981039346656037 (by omega)
  simpa [digest_Sum.f] using this
theorem mixp_ev (a b : Int) : Ev (fun _ => digest_Mix.f a b) (dnum b 8 (dnum a 8 14695981039346656037)) := ⟨0, fun _ _ => rfl⟩
/-- Bytes of a literal. -/
theorem rdOf_at (l : List ByteArray) (i : Nat) (h : i < l.length) : rdOf ByteArray.empty l (i : Int) = l[i] := by
  unfold rdOf
  simp [List.getD_eq_getElem?_getD, List.getElem?_eq_getElem h]
def dall (l : List ByteArray) (d : Int) : Int := l.foldl (fun d s => dnum (dsum s.data.toList 14695981039346656037) 8 (dnum d 8 14695981039346656037)) d
theorem dall_cons (s : ByteArray) (l : List ByteArray) (d : Int) : dall (s :: l) d = dall l (dnum (dsum s.data.toList 14695981039346656037) 8 (dnum d 8 14695981039346656037)) := by simp only [dall, List.foldl_cons]
def dlen (n : Nat) (d : Int) : Int := dnum (IntKind.u64.wrap (n : Int)) 8 (dnum d 8 14695981039346656037)
theorem all_loop (l : List ByteArray) (hl : l.length * 16 ≤ 140737488351232) (hs : ∀ s ∈ l, s.size ≤ 140737488351232) : ∀ (m i : Nat) (d : Int), i + m = l.length → Ev (fun k => digest_All.l0 k l d l (l.length : Int) (i : Int)) (dlen l.length (dall (l.drop i) d)) := by
  intro m
  induction m with
  | zero =>
    intro i d hi
    refine Ev.step (fun k => by rw [digest_All.l0, if_neg (by omega)]) ?_
    rw [List.drop_of_length_le (by omega)]
    simp only [digest_Mix.f, Option.bind_some, dall, List.foldl_nil, dlen]
    exact Ev.now _
  | succ m ih =>
    intro i d hi
    have hlt : i < l.length := by omega
    rw [List.drop_eq_getElem_cons hlt, dall_cons]
    refine Ev.step (fun k => by rw [digest_All.l0, if_pos (by omega), if_pos (by omega), if_pos (by omega), wrap_upI (n := l.length) (by omega) (by omega) (by omega), rdOf_at l i hlt]) ?_
    refine (sum_ev _ (hs _ (List.getElem_mem hlt))).bind ?_
    simp only [digest_Mix.f, Option.bind_some]
    exact ih (i + 1) _ (by omega)
theorem all_ev (l : List ByteArray) (hl : l.length * 16 ≤ 140737488351232) (hs : ∀ s ∈ l, s.size ≤ 140737488351232) : Ev (fun k => digest_All.f k l) (dlen l.length (dall l 14695981039346656037)) :=
  (sum_ev ⟨#[]⟩ (by decide)).bind (all_loop l hl hs l.length 0 _ (by omega))
theorem itoa_size (n : Int) (h0 : -9223372036854775808 ≤ n) (h1 : n ≤ 9223372036854775807) : (⟨(Lib.itoa n).toArray⟩ : ByteArray).size ≤ 21 := by
  have := Lib.itoa_length_le n h0 h1
  rw [← ba_len]
  simpa using this
theorem conflict_sum_ev (l : List ByteArray) (hl : l.length * 16 ≤ 140737488351232) (hs : ∀ s ∈ l, s.size ≤ 140737488351232) : Ev (fun k => conflict_sum.f k l) (dlen l.length (dall l 14695981039346656037)) := by
  unfold conflict_sum.f
  exact (all_ev l hl hs).bind (Ev.now _)
def keyS (c : S23) : Int := dlen 4 (dall [⟨(Lib.itoa c.f0).toArray⟩, c.f2, c.f3, c.f4] 14695981039346656037)
def FewC (c : S23) : Prop := (-9223372036854775808 ≤ c.f0 ∧ c.f0 ≤ 9223372036854775807) ∧ c.f2.size ≤ 1000000 ∧ c.f3.size ≤ 1000000 ∧ c.f4.size ≤ 1000000
theorem key_list (c : S23) (h : FewC c) : ∀ s ∈ [(⟨(Lib.itoa c.f0).toArray⟩ : ByteArray), c.f2, c.f3, c.f4], s.size ≤ 140737488351232 := by
  obtain ⟨h1, h2, h3, h4⟩ := h
  have hi := itoa_size c.f0 h1.1 h1.2
  intro s hs
  simp only [List.mem_cons, List.not_mem_nil, or_false] at hs
  rcases hs with rfl | rfl | rfl | rfl <;> omega
theorem conflict_key_ev (c : S23) (h : FewC c) : Ev (fun k => conflict_Key.f k c.f0 c.f1 c.f2 c.f3 c.f4) (keyS c) := by
  unfold conflict_Key.f keyS strconv_Itoa.f
  rw [if_pos h.1]
  simp only [Option.bind_some]
  exact (conflict_sum_ev [⟨(Lib.itoa c.f0).toArray⟩, c.f2, c.f3, c.f4] (by simp) (key_list c h)).bind (Ev.now _)

def WfC (x : S23) : Prop := (Lit.int .i64 x.f0).wf = true ∧ (Lit.int .i64 x.f1).wf = true ∧ x.f2.size ≤ 140737488351232 ∧ x.f3.size ≤ 140737488351232 ∧ x.f4.size ≤ 140737488351232

theorem rd23 (l : List S23) (i : Nat) (h : i < l.length) : rd_T23 l (i : Int) = l[i] := by
  unfold rd_T23
  simp [List.getD_eq_getElem?_getD, List.getElem?_eq_getElem h]
theorem rd48 (l : List S48) (i : Nat) (h : i < l.length) : rd_T48 l (i : Int) = l[i] := by
  unfold rd_T48
  simp [List.getD_eq_getElem?_getD, List.getElem?_eq_getElem h]
def smallC (c : S23) : Bool := decide (c.f2.size ≤ 300) && decide (c.f3.size ≤ 300) && decide (c.f4.size ≤ 300)
theorem small_ev (c : S23) : treemergelaw34_small.f c.f0 c.f1 c.f2 c.f3 c.f4 = some (smallC c) := by
  unfold treemergelaw34_small.f smallC
  by_cases h1 : c.f2.size ≤ 300
  · rw [if_pos (by omega)]
    by_cases h2 : c.f3.size ≤ 300
    · rw [if_pos (by omega)]
      by_cases h3 : c.f4.size ≤ 300
      · simp [h1, h2, h3]; omega
      · simp [h1, h2, h3]; omega
    · rw [if_neg (by omega)]
      simp [h1, h2]
  · rw [if_neg (by omega)]
    simp [h1]
theorem fewC_of {c : S23} (h : WfC c) (h2 : smallC c = true) : FewC c := by
  have := bounds_i64 h.1
  unfold smallC at h2
  simp only [Bool.and_eq_true, decide_eq_true_eq] at h2
  exact ⟨⟨by omega, by omega⟩, by omega, by omega, by omega⟩

set_option maxRecDepth 100000 in
theorem awake_g : treemergelaw34_awake.g 40 = some true := by decide +kernel
theorem awake_ev : Ev (fun k => treemergelaw34_awake.f k) true := Ev.of treemergelaw34_awake.mono (k := 40) (by unfold treemergelaw34_awake.f; rw [if_pos awake_g])
theorem awake_ev2 : Ev (fun k => (treemergelaw34_awake.f k).bind fun t => some t) true := awake_ev.bind (Ev.now true)

theorem rd31 (l : List S31) (i : Nat) (h : i < l.length) : rd_T31 l (i : Int) = l[i] := by
  unfold rd_T31
  simp [List.getD_eq_getElem?_getD, List.getElem?_eq_getElem h]
theorem eta31 (y : S31) : (⟨y.f0, y.f1, y.f2, y.f3⟩ : S31) = y := by cases y; rfl
mutual
/-- The nodes of a tree, in order. -/
def preT : S31 → List S31 | ⟨a, b, c, l⟩ => ⟨a, b, c, l⟩ :: preL l
def preL : List S31 → List S31 | [] => [] | x :: l => preT x ++ preL l
end
theorem preT_eq (x : S31) : preT x = x :: preL x.f3 := by cases x; rw [preT]
theorem preL_len (l : List S31) : l.length ≤ (preL l).length := by
  induction l with
  | nil => simp
  | cons x l ih => rw [preL, preT_eq]; simp; omega
theorem preL_drop (l : List S31) (i : Nat) (h : i < l.length) : preL (l.drop i) = preT l[i] ++ preL (l.drop (i + 1)) := by
  rw [List.drop_eq_getElem_cons h, preL]
/-- What holds of a tree if it holds of it given its kids. -/
theorem tree_ind {P : S31 → Prop} (h : ∀ x, (∀ y ∈ x.f3, P y) → P x) : ∀ x, P x := by
  have key : ∀ (n : Nat) (x : S31), SizeOf.sizeOf x ≤ n → P x := by
    intro n
    induction n with
    | zero => intro x hx; cases x; simp at hx
    | succ n ih =>
      intro x hx
      refine h x (fun y hy => ih y ?_)
      have h1 := List.sizeOf_lt_of_mem hy
      cases x
      simp at hx h1
      omega
  exact fun x => key _ x (Nat.le_refl _)
theorem preT_sub (x : S31) : ∀ y ∈ preT x, (preT y).length ≤ (preT x).length ∧ ∀ z ∈ preT y, z ∈ preT x := by
  induction x using tree_ind with
  | h x ih =>
  intro y hy
  rw [preT_eq x, List.mem_cons] at hy
  rcases hy with rfl | hy
  · exact ⟨Nat.le_refl _, fun z hz => hz⟩
  · have key : ∀ l : List S31, (∀ v ∈ l, v ∈ x.f3) → y ∈ preL l → (preT y).length ≤ (preL l).length ∧ ∀ z ∈ preT y, z ∈ preL l := by
      intro l
      induction l with
      | nil => intro _ h; simp [preL] at h
      | cons v l ihl =>
        intro hv h
        rw [preL, List.mem_append] at h
        rcases h with h | h
        · obtain ⟨h1, h2⟩ := ih v (hv v (by simp)) y h
          rw [preL, List.length_append]
          exact ⟨by omega, fun z hz => List.mem_append.2 (Or.inl (h2 z hz))⟩
        · obtain ⟨h1, h2⟩ := ihl (fun u hu => hv u (by simp [hu])) h
          rw [preL, List.length_append]
          exact ⟨by omega, fun z hz => List.mem_append.2 (Or.inr (h2 z hz))⟩
    obtain ⟨h1, h2⟩ := key x.f3 (fun v hv => hv) hy
    rw [preT_eq x, List.length_cons]
    exact ⟨by omega, fun z hz => List.mem_cons_of_mem _ (h2 z hz)⟩
theorem kid_pre {x y : S31} (h : y ∈ x.f3) : y ∈ preT x := by
  rw [preT_eq]
  refine List.mem_cons_of_mem _ ?_
  generalize x.f3 = l at h
  induction l with
  | nil => simp at h
  | cons v l ih =>
    rw [preL, List.mem_append]
    rcases List.mem_cons.1 h with rfl | h
    · exact Or.inl (by rw [preT_eq]; simp)
    · exact Or.inr (ih h)
/-- The guard on the count of nodes. -/
theorem left_ev (x : S31) : ∀ (n v : Int), n ≤ 1000 → v ≤ 1000 → ∃ r, Ev (fun k => treemergeref06_left.f k x.f0 x.f1 x.f2 x.f3 n v) r ∧ (0 ≤ r → ((preT x).length : Int) + r = n) := by
  induction x using tree_ind with
  | h x ih =>
  intro n v hn hv
  have bad : ∃ r, Ev (fun k => treemergeref06_left.j0 k n v true x.f0 x.f1 x.f2 x.f3) r ∧ (0 ≤ r → ((preT x).length : Int) + r = n) := ⟨-1, Ev.step (fun k => by rw [treemergeref06_left.j0, if_pos rfl]) (Ev.now _), fun h => by omega⟩
  by_cases h1 : n < 1
  · obtain ⟨r, e, q⟩ := bad
    exact ⟨r, Ev.step (fun k => by rw [treemergeref06_left.f, if_pos h1]) e, q⟩
  by_cases h2 : v < 1
  · obtain ⟨r, e, q⟩ := bad
    exact ⟨r, Ev.step (fun k => by rw [treemergeref06_left.f, if_neg h1, if_pos h2]) e, q⟩
  by_cases h3 : (x.f3.length : Int) > n
  · obtain ⟨r, e, q⟩ := bad
    exact ⟨r, Ev.step (fun k => by rw [treemergeref06_left.f, if_neg h1, if_neg h2, decide_eq_true h3]) e, q⟩
  have wn : wrap64 (n - 1) = n - 1 := by unfold wrap64; omega
  have wv : wrap64 (v - 1) = v - 1 := by unfold wrap64; omega
  have loop : ∀ (g i : Nat) (m : Int), i + g = x.f3.length → 0 ≤ m → m ≤ 1000 → ∃ r, Ev (fun k => treemergeref06_left.l0 k v m (i : Int) x.f0 x.f1 x.f2 x.f3) r ∧ (0 ≤ r → ((preL (x.f3.drop i)).length : Int) + r = m) := by
    intro g
    induction g with
    | zero =>
      intro i m hi _ _
      refine ⟨m, Ev.step (fun k => by rw [treemergeref06_left.l0, if_neg (by omega)]) (Ev.now _), fun _ => ?_⟩
      rw [List.drop_of_length_le (by omega), preL]
      simp
    | succ g ihg =>
      intro i m hi h0 hm
      have hil : i < x.f3.length := by omega
      have wu : wrap64 ((i : Int) + 1) = ((i + 1 : Nat) : Int) := by unfold wrap64; omega
      obtain ⟨r, e, q⟩ := ih x.f3[i] (List.getElem_mem hil) m (v - 1) hm (by omega)
      by_cases hr : r < 0
      · exact ⟨-1, Ev.step (fun k => by rw [treemergeref06_left.l0, if_pos (by omega), if_pos (by omega), rd31 _ i hil, wv]) (e.bind (Ev.pos hr (Ev.now _))), fun h => by omega⟩
      · obtain ⟨r2, e2, q2⟩ := ihg (i + 1) r (by omega) (by omega) (by have := q (by omega); omega)
        refine ⟨r2, Ev.step (fun k => by rw [treemergeref06_left.l0, if_pos (by omega), if_pos (by omega), rd31 _ i hil, wv, wu]) (e.bind (Ev.neg hr e2)), fun h => ?_⟩
        rw [preL_drop _ i hil, List.length_append]
        have := q (by omega)
        have := q2 h
        omega
  obtain ⟨r, e, q⟩ := loop x.f3.length 0 (n - 1) (by omega) (by omega) (by omega)
  have e1 : Ev (fun k => treemergeref06_left.j0 k n v false x.f0 x.f1 x.f2 x.f3) r := Ev.step (fun k => by rw [treemergeref06_left.j0, if_neg (by decide), wn]; rfl) e
  refine ⟨r, Ev.step (fun k => by rw [treemergeref06_left.f, if_neg h1, if_neg h2, decide_eq_false h3]) e1, fun h => ?_⟩
  have := q h
  rw [List.drop_zero] at this
  rw [preT_eq, List.length_cons]
  omega
def OkN (y : S31) : Prop := y.f1.size ≤ 1000 ∧ y.f2.length ≤ 1000
/-- The guard on the bytes. -/
theorem weigh_ev (x : S31) : (preT x).length ≤ 100 → ∀ (b : Int), b ≤ 1000 → ∃ r, Ev (fun k => treemergeref06_weigh.f k x.f0 x.f1 x.f2 x.f3 b) r ∧ (0 ≤ r → r ≤ b ∧ ∀ y ∈ preT x, OkN y) := by
  induction x using tree_ind with
  | h x ih =>
  intro hx b hb
  have hk : x.f3.length ≤ 100 := by
    have h2 := preL_len x.f3
    rw [preT_eq, List.length_cons] at hx
    omega
  have bad : ∃ r, Ev (fun k => treemergeref06_weigh.j0 k b true x.f0 x.f1 x.f2 x.f3) r ∧ (0 ≤ r → r ≤ b ∧ ∀ y ∈ preT x, OkN y) := ⟨-1, Ev.step (fun k => by rw [treemergeref06_weigh.j0, if_pos rfl]) (Ev.now _), fun h => by omega⟩
  by_cases h1 : (x.f1.size : Int) > b
  · obtain ⟨r, e, q⟩ := bad
    exact ⟨r, Ev.step (fun k => by rw [treemergeref06_weigh.f, if_pos h1]) e, q⟩
  by_cases h2 : (x.f2.length : Int) > b
  · obtain ⟨r, e, q⟩ := bad
    exact ⟨r, Ev.step (fun k => by rw [treemergeref06_weigh.f, if_neg h1, decide_eq_true h2]) e, q⟩
  have loop1 : ∀ (g i : Nat) (m : Int), i + g = x.f3.length → 0 ≤ m → m ≤ b → ∃ r, Ev (fun k => treemergeref06_weigh.l1 k m (i : Int) x.f0 x.f1 x.f2 x.f3) r ∧ (0 ≤ r → r ≤ b ∧ ∀ y ∈ preL (x.f3.drop i), OkN y) := by
    intro g
    induction g with
    | zero =>
      intro i m hi _ hm
      refine ⟨m, Ev.step (fun k => by rw [treemergeref06_weigh.l1, if_neg (by omega)]) (Ev.now _), fun _ => ⟨hm, ?_⟩⟩
      rw [List.drop_of_length_le (by omega), preL]
      simp
    | succ g ihg =>
      intro i m hi h0 hm
      have hil : i < x.f3.length := by omega
      have wu : wrap64 ((i : Int) + 1) = ((i + 1 : Nat) : Int) := by unfold wrap64; omega
      obtain ⟨r, e, q⟩ := ih x.f3[i] (List.getElem_mem hil) (Nat.le_trans (preT_sub x _ (kid_pre (List.getElem_mem hil))).1 hx) m (by omega)
      by_cases hr : r < 0
      · exact ⟨-1, Ev.step (fun k => by rw [treemergeref06_weigh.l1, if_pos (by omega), if_pos (by omega), rd31 _ i hil]) (e.bind (Ev.pos hr (Ev.now _))), fun h => by omega⟩
      · obtain ⟨q1, q3⟩ := q (by omega)
        obtain ⟨r2, e2, q2⟩ := ihg (i + 1) r (by omega) (by omega) (by omega)
        refine ⟨r2, Ev.step (fun k => by rw [treemergeref06_weigh.l1, if_pos (by omega), if_pos (by omega), rd31 _ i hil, wu]) (e.bind (Ev.neg hr e2)), fun h => ⟨(q2 h).1, fun y hy => ?_⟩⟩
        rw [preL_drop _ i hil, List.mem_append] at hy
        rcases hy with hy | hy
        · exact q3 y hy
        · exact (q2 h).2 y hy
  have loop0 : ∀ (g i : Nat) (m : Int), i + g = x.f2.length → 0 ≤ m → m ≤ b → ∃ r, Ev (fun k => treemergeref06_weigh.l0 k m (i : Int) x.f0 x.f1 x.f2 x.f3) r ∧ (0 ≤ r → r ≤ b ∧ ∀ y ∈ preL x.f3, OkN y) := by
    intro g
    induction g with
    | zero =>
      intro i m hi h0 hm
      obtain ⟨r, e, q⟩ := loop1 x.f3.length 0 m (by omega) h0 hm
      exact ⟨r, Ev.step (fun k => by rw [treemergeref06_weigh.l0, if_neg (by omega)]; rfl) e, by rwa [List.drop_zero] at q⟩
    | succ g ihg =>
      intro i m hi h0 hm
      have hil : i < x.f2.length := by omega
      have wu : wrap64 ((i : Int) + 1) = ((i + 1 : Nat) : Int) := by unfold wrap64; omega
      by_cases hz : ((rdOf ByteArray.empty x.f2 (i : Int)).size : Int) ≥ m
      · exact ⟨-1, Ev.step (fun k => by rw [treemergeref06_weigh.l0, if_pos (by omega), if_pos (by omega), if_pos hz]) (Ev.now _), fun h => by omega⟩
      · have w1 : wrap64 (m - ((rdOf ByteArray.empty x.f2 (i : Int)).size : Int)) = m - ((rdOf ByteArray.empty x.f2 (i : Int)).size : Int) := by unfold wrap64; omega
        have w2 : wrap64 (m - ((rdOf ByteArray.empty x.f2 (i : Int)).size : Int) - 1) = m - ((rdOf ByteArray.empty x.f2 (i : Int)).size : Int) - 1 := by unfold wrap64; omega
        obtain ⟨r, e, q⟩ := ihg (i + 1) (m - ((rdOf ByteArray.empty x.f2 (i : Int)).size : Int) - 1) (by omega) (by omega) (by omega)
        exact ⟨r, Ev.step (fun k => by rw [treemergeref06_weigh.l0, if_pos (by omega), if_pos (by omega), if_neg hz, w1, w2, wu]) e, q⟩
  have ws : wrap64 (b - (x.f1.size : Int)) = b - (x.f1.size : Int) := by unfold wrap64; omega
  obtain ⟨r, e, q⟩ := loop0 x.f2.length 0 (b - (x.f1.size : Int)) (by omega) (by omega) (by omega)
  have e1 : Ev (fun k => treemergeref06_weigh.j0 k b false x.f0 x.f1 x.f2 x.f3) r := Ev.step (fun k => by rw [treemergeref06_weigh.j0, if_neg (by decide), ws]; rfl) e
  refine ⟨r, Ev.step (fun k => by rw [treemergeref06_weigh.f, if_neg h1, decide_eq_false h2]) e1, fun h => ⟨(q h).1, fun y hy => ?_⟩⟩
  rw [preT_eq, List.mem_cons] at hy
  rcases hy with rfl | hy
  · exact ⟨by omega, by omega⟩
  · exact (q h).2 y hy
def LightT (x : S31) : Prop := (preT x).length ≤ 100 ∧ ∀ y ∈ preT x, OkN y
theorem light_ev (x : S31) : ∃ b, Ev (fun k => treemergeref06_Light.f k x.f0 x.f1 x.f2 x.f3 100 60 1000) b ∧ (b = true → LightT x) := by
  unfold treemergeref06_Light.f treemergeref06_Fits.f
  obtain ⟨r, e, q⟩ := left_ev x 100 60 (by omega) (by omega)
  have eF : Ev (fun k => (treemergeref06_left.f k x.f0 x.f1 x.f2 x.f3 100 60).bind fun t228 => some (decide (t228 ≥ 0))) (decide (r ≥ 0)) := e.bind (Ev.now _)
  by_cases h : r ≥ 0
  · obtain ⟨s, e2, q2⟩ := weigh_ev x (by have := q h; omega) 1000 (by omega)
    refine ⟨decide (s ≥ 0), eF.bind (Ev.pos (decide_eq_true h) (e2.bind (Ev.now _))), fun hs => ?_⟩
    have hs := of_decide_eq_true hs
    exact ⟨by have := q h; omega, (q2 hs).2⟩
  · exact ⟨false, eF.bind (Ev.neg (by simp [h]) (Ev.now _)), fun h => by cases h⟩
/-- A copy of a tree is the tree. -/
theorem clone_ev (x : S31) : LightT x → Ev (fun k => tree_clone.f k x.f0 x.f1 x.f2 x.f3) (x.f0, x.f1, x.f2, x.f3) := by
  induction x using tree_ind with
  | h x ih =>
  intro hx
  have ht : tree_texts.f x.f2 = some x.f2 := by
    unfold tree_texts.f
    have := (hx.2 x (by rw [preT_eq]; simp)).2
    rw [if_pos (by omega)]
  have hk : x.f3.length ≤ 100 := by
    have h1 := hx.1
    have h2 := preL_len x.f3
    rw [preT_eq, List.length_cons] at h1
    omega
  have loop : ∀ (g i : Nat), i + g = x.f3.length → Ev (fun k => tree_clone.l0 k x.f3 (x.f3.length : Int) (i : Int) x.f0 x.f1 x.f2 (x.f3.take i)) (x.f0, x.f1, x.f2, x.f3) := by
    intro g
    induction g with
    | zero =>
      intro i hi
      exact Ev.step (fun k => by rw [tree_clone.l0, if_neg (by omega), List.take_of_length_le (by omega)]) (Ev.now _)
    | succ g ihg =>
      intro i hi
      have hil : i < x.f3.length := by omega
      have wu : wrap64 ((i : Int) + 1) = ((i + 1 : Nat) : Int) := by unfold wrap64; omega
      have hm : x.f3[i] ∈ preT x := kid_pre (List.getElem_mem hil)
      have hs := preT_sub x _ hm
      refine Ev.step (fun k => by rw [tree_clone.l0, if_pos (by omega), if_pos (by omega), if_pos (by omega), rd31 _ i hil, wu]) ?_
      refine (ih x.f3[i] (List.getElem_mem hil) ⟨by have := hx.1; omega, fun y hy => hx.2 y (hs.2 y hy)⟩).bind ?_
      refine Ev.pos (by simp; omega) ?_
      simp only [eta31]
      have e : x.f3.take (i + 1) = x.f3.take i ++ [x.f3[i]] := by rw [List.take_add_one, List.getElem?_eq_getElem hil]; rfl
      have := ihg (i + 1) (by omega)
      rw [e] at this
      exact this
  refine Ev.step (fun k => by rw [tree_clone.f, ht, Option.bind_some]) ?_
  exact loop x.f3.length 0 (by omega)

theorem splitL_len (s : ByteArray) : ∀ (g i fr : Nat) (out : List ByteArray), (splitL s g i fr out).length ≤ out.length + g + 1
  | 0, _, fr, out => by
    rw [splitL]
    split
    · simp
    · omega
  | g + 1, i, fr, out => by
    rw [splitL]
    split
    · have := splitL_len s g (i + 1) (i + 1) (out ++ [s.extract fr (i + 1)])
      simp at this
      omega
    · have := splitL_len s g (i + 1) fr out
      omega
theorem ext_size (s : ByteArray) (i j : Nat) : (s.extract i j).size ≤ s.size := by
  simp only [ByteArray.size_extract]
  omega
theorem splitL_size (s : ByteArray) : ∀ (g i fr : Nat) (out : List ByteArray), (∀ x ∈ out, x.size ≤ s.size) → ∀ x ∈ splitL s g i fr out, x.size ≤ s.size
  | 0, _, fr, out, h => by
    rw [splitL]
    split
    · intro x hx
      rcases List.mem_append.1 hx with hx | hx
      · exact h x hx
      · rw [List.mem_singleton.1 hx]
        exact ext_size _ _ _
    · exact h
  | g + 1, i, fr, out, h => by
    rw [splitL]
    split
    · refine splitL_size s g (i + 1) (i + 1) _ (fun x hx => ?_)
      rcases List.mem_append.1 hx with hx | hx
      · exact h x hx
      · rw [List.mem_singleton.1 hx]
        exact ext_size _ _ _
    · exact splitL_size s g (i + 1) fr out h

/-- What a search by number finds: the node of that number, else what is left over. -/
def hit (l : List S31) (i : Nat) (m : Int) : S31 × Int × Bool := match l[i]? with | some y => (y, 0, true) | none => (z31, m, false)
theorem hit_lt {l : List S31} {i : Nat} {m : Int} (h : i < l.length) : hit l i m = (l[i], 0, true) := by unfold hit; rw [List.getElem?_eq_getElem h]
theorem hit_ge {l : List S31} {i : Nat} {m : Int} (h : l.length ≤ i) : hit l i m = (z31, m, false) := by unfold hit; rw [List.getElem?_eq_none h]
theorem loc_ev (x : S31) : (preT x).length ≤ 100 → ∀ i : Nat, (i : Int) ≤ 9223372036854775807 → Ev (fun k => locF k x (i : Int)) (hit (preT x) i ((preT x).length : Nat)) := by
  induction x using tree_ind with
  | h x ih =>
  intro hx i hi
  by_cases h0 : i = 0
  · subst h0
    refine Ev.step (fun k => by rw [locF, if_pos (by omega)]) (Ev.cast ?_ (Ev.now _))
    rw [preT_eq]
    rfl
  have loop : ∀ (l : List S31), (∀ v ∈ l, v ∈ x.f3) → ∀ (p j : Nat), p + (preL l).length ≤ 100 → i = p + j → Ev (fun k => locL k l (i : Int) (p : Int)) (hit (preL l) j ((p + (preL l).length : Nat) : Int)) := by
    intro l
    induction l with
    | nil =>
      intro _ p j _ _
      refine Ev.step (fun k => by rw [locL]) (Ev.cast ?_ (Ev.now _))
      rw [preL, hit_ge (by simp)]
      simp
    | cons v l ihl =>
      intro hv p j hp hj
      rw [preL, List.length_append] at hp
      have w1 : wrap64 ((i : Int) - (p : Int)) = (j : Int) := by unfold wrap64; omega
      refine Ev.step (fun k => by rw [locL, w1]) ?_
      refine (ih v (hv v (by simp)) (by omega) j (by omega)).bind ?_
      rw [preL, List.length_append]
      by_cases c : j < (preT v).length
      · rw [hit_lt c, hit_lt (by rw [List.length_append]; omega), List.getElem_append_left c]
        exact Ev.pos rfl (Ev.now _)
      · rw [hit_ge (by omega)]
        refine Ev.neg (by simp) ?_
        have w2 : wrap64 ((p : Int) + (((preT v).length : Nat) : Int)) = ((p + (preT v).length : Nat) : Int) := by unfold wrap64; omega
        simp only [w2]
        refine Ev.cast ?_ (ihl (fun u hu => hv u (by simp [hu])) (p + (preT v).length) (j - (preT v).length) (by omega) (by omega))
        unfold hit
        rw [List.getElem?_append_right (by omega), Nat.add_assoc]
  have hl := loop x.f3 (fun v hv => hv) 1 (i - 1) (by rw [preT_eq, List.length_cons] at hx; omega) (by omega)
  have hk : x.f3.length ≤ 100 := by
    have h2 := preL_len x.f3
    rw [preT_eq, List.length_cons] at hx
    omega
  refine Ev.step (fun k => by rw [locF, if_neg (by omega), if_pos (by omega)]; rfl) (Ev.cast ?_ hl)
  rw [preT_eq]
  unfold hit
  rw [show i = (i - 1) + 1 by omega, List.getElem?_cons_succ, List.length_cons, Nat.add_comm 1]
  simp
def insS : ByteArray := ⟨#[97, 110, 32, 105, 110, 115, 101, 114, 116, 101, 100, 32, 110, 111, 100, 101]⟩
/-- What the node of a number is called. -/
def nodeS (x : S31) (i : Int) : ByteArray := if i < 0 then insS else match (preT x)[i.toNat]? with | some y => textS y.f0 y.f1 | none => insS
theorem nodeS_size (x : S31) (i : Int) (hx : LightT x) : (nodeS x i).size ≤ 2000 := by
  unfold nodeS
  split
  · decide
  · split
    · rename_i y hy
      have h1 := (hx.2 y (List.mem_of_getElem? hy)).1
      have h2 := kindS_size y.f0
      have h3 : ((⟨#[32]⟩ : ByteArray)).size = 1 := rfl
      unfold textS
      split
      · omega
      · rw [ByteArray.size_append, ByteArray.size_append]
        omega
    · decide
theorem node_ev (x : S31) (i : Int) (hx : LightT x) (hi : i ≤ 9223372036854775807) : Ev (fun k => nodeF k x i) (nodeS x i) := by
  unfold nodeF nodeS atF
  by_cases c : i < 0
  · rw [if_pos c]
    exact Ev.same (fun k => by rw [if_pos c, Option.bind_some, if_neg (by decide), if_neg (by decide)]; rfl) (Ev.now _)
  · rw [if_neg c]
    obtain ⟨n, rfl⟩ : ∃ n : Nat, i = (n : Int) := ⟨i.toNat, by omega⟩
    refine Ev.same (fun k => by rw [if_neg c]) ?_
    rw [Int.toNat_natCast]
    by_cases h : n < (preT x).length
    · have hm : (preT x)[n] ∈ preT x := List.getElem_mem h
      have hs := preT_sub x _ hm
      have hc := clone_ev (preT x)[n] ⟨Nat.le_trans hs.1 hx.1, fun y hy => hx.2 y (hs.2 y hy)⟩
      have h1 := (hx.2 _ hm).1
      have e1 : Ev (fun k => (locF k x (n : Int)).bind fun t => if t.2.2 = true then (tree_clone.f k t.1.f0 t.1.f1 t.1.f2 t.1.f3).bind fun c => some (c.1, c.2.1, true) else some (0, (⟨#[]⟩ : ByteArray), false)) ((preT x)[n].f0, (preT x)[n].f1, true) := by
        refine (loc_ev x hx.1 n hi).bind ?_
        rw [hit_lt h]
        exact Ev.pos rfl (hc.bind (Ev.now _))
      refine e1.bind ?_
      rw [List.getElem?_eq_getElem h]
      exact Ev.neg (by simp only; omega) (Ev.now _)
    · have e1 : Ev (fun k => (locF k x (n : Int)).bind fun t => if t.2.2 = true then (tree_clone.f k t.1.f0 t.1.f1 t.1.f2 t.1.f3).bind fun c => some (c.1, c.2.1, true) else some (0, (⟨#[]⟩ : ByteArray), false)) (0, (⟨#[]⟩ : ByteArray), false) := by
        refine (loc_ev x hx.1 n hi).bind ?_
        rw [hit_ge (by omega)]
        exact Ev.neg (by simp) (Ev.now _)
      refine e1.bind ?_
      rw [List.getElem?_eq_none (by omega)]
      exact Ev.neg (by decide) (Ev.now _)
theorem bareL_end (M : List UInt8) (c : UInt8) : Lib.trimSuffix (M ++ [c]) [10] = if c = 10 then M else M ++ [c] := by
  unfold Lib.trimSuffix Lib.hasSuffix
  by_cases h : c = 10
  · subst h
    rw [if_pos rfl, if_pos (List.isSuffixOf_iff_suffix.2 (List.suffix_append _ _))]
    simp
  · rw [if_neg h, if_neg]
    intro h2
    obtain ⟨t, ht⟩ := List.isSuffixOf_iff_suffix.1 h2
    have := congrArg List.getLast? ht
    simp at this
    exact h this.symm
def bareB (p : ByteArray) : ByteArray := ⟨(Lib.trimSuffix p.data.toList [10]).toArray⟩
theorem bareB_size (p : ByteArray) : (bareB p).size ≤ p.size := by
  have := Lib.trimSuffix_le p.data.toList [10]
  rw [ba_len] at this
  rw [← ba_len]
  exact this
def piece (who p : ByteArray) : ByteArray := ((who ++ (⟨#[58, 32]⟩ : ByteArray)) ++ bareB p) ++ (⟨#[10]⟩ : ByteArray)
def noneB (who : ByteArray) : ByteArray := who ++ (⟨#[58, 32, 40, 110, 111, 110, 101, 41, 10]⟩ : ByteArray)
/-- One text's lines, as the account shows them. -/
def verS (who t : ByteArray) : List ByteArray := if t.toList = ([] : List UInt8) then [noneB who] else (splitL t t.size 0 0 []).map (piece who)
theorem verS_len (who t : ByteArray) : (verS who t).length ≤ t.size + 2 := by
  unfold verS
  split
  · simp
  · rw [List.length_map]
    have := splitL_len t t.size 0 0 []
    simp at this
    omega
theorem version_loop (who : ByteArray) (hw : who.size ≤ 100) (l : List ByteArray) (hl : l.length ≤ 1000) (hz : ∀ p ∈ l, p.size ≤ 1000) : ∀ (g i : Nat) (out : List ByteArray), i + g = l.length → out.length ≤ i → Ev (fun k => conflict_version.l0 k who out l (l.length : Int) (i : Int)) (out ++ (l.drop i).map (piece who)) := by
  intro g
  induction g with
  | zero =>
    intro i out hi _
    rw [List.drop_of_length_le (by omega)]
    exact Ev.step (fun k => by rw [conflict_version.l0, if_neg (by omega)]) (Ev.cast (by simp) (Ev.now out))
  | succ g ih =>
    intro i out hi ho
    have hil : i < l.length := by omega
    have wu : wrap64 ((i : Int) + 1) = ((i + 1 : Nat) : Int) := by unfold wrap64; omega
    have hz1 := hz _ (List.getElem_mem hil)
    have hz2 := bareB_size l[i]
    have ht : strings_TrimSuffix.f (rdOf ByteArray.empty l (i : Int)) (⟨#[10]⟩ : ByteArray) = some (bareB l[i]) := by
      rw [rdOf_at l i hil]
      unfold strings_TrimSuffix.f
      rw [if_pos (by omega)]
      rfl
    have s1 : (who ++ (⟨#[58, 32]⟩ : ByteArray)).size = who.size + 2 := by rw [ByteArray.size_append]; rfl
    have s2 : ((who ++ (⟨#[58, 32]⟩ : ByteArray)) ++ bareB l[i]).size = who.size + 2 + (bareB l[i]).size := by rw [ByteArray.size_append, s1]
    refine Ev.step (fun k => by rw [conflict_version.l0, if_pos (by omega), if_pos (by omega), if_pos (by omega), if_pos (by omega), ht, Option.bind_some, if_pos (by omega), if_pos (by omega), if_pos (by omega), wu]) ?_
    refine Ev.cast ?_ (ih (i + 1) _ (by omega) (by simp; omega))
    rw [List.drop_eq_getElem_cons hil, List.map_cons, List.append_assoc]
    rfl
theorem version_ev (who t : ByteArray) (hw : who.size ≤ 100) (ht : t.size ≤ 300) : Ev (fun k => conflict_version.f k who t) (verS who t) := by
  unfold conflict_version.f verS lines_Split.f
  by_cases h : t.toList = ([] : List UInt8)
  · rw [if_pos h]
    exact Ev.same (fun k => by rw [if_pos h, if_pos (by omega)]; rfl) (Ev.now _)
  · rw [if_neg h]
    refine Ev.same (fun k => by rw [if_neg h, if_pos (by omega), Option.bind_some]) ?_
    have h1 := splitL_len t t.size 0 0 []
    have h2 := splitL_size t t.size 0 0 [] (by simp)
    exact version_loop who hw (splitL t t.size 0 0 []) (by simp at h1; omega) (fun p hp => by have := h2 p hp; omega) (splitL t t.size 0 0 []).length 0 [] (by omega) (by simp)
def wB : ByteArray := ⟨#[98, 97, 115, 101]⟩
def wL : ByteArray := ⟨#[108, 101, 102, 116]⟩
def wR : ByteArray := ⟨#[114, 105, 103, 104, 116]⟩
/-- The account of a conflict. -/
def explS (x : S31) (c : S23) : List ByteArray := headS c.f0 (nodeS x c.f1) :: (verS wB c.f2 ++ verS wL c.f3 ++ verS wR c.f4)
theorem smallC_of {c : S23} (h : smallC c = true) : c.f2.size ≤ 300 ∧ c.f3.size ≤ 300 ∧ c.f4.size ≤ 300 := by
  unfold smallC at h
  simp only [Bool.and_eq_true, decide_eq_true_eq] at h
  exact ⟨h.1.1, h.1.2, h.2⟩
theorem expl_ev (x : S31) (c : S23) (hx : LightT x) (hc : smallC c = true) (hi : c.f1 ≤ 9223372036854775807) : Ev (fun k => conflict_Explain.f k x.f0 x.f1 x.f2 x.f3 c.f0 c.f1 c.f2 c.f3 c.f4) (explS x c) := by
  obtain ⟨h2, h3, h4⟩ := smallC_of hc
  have hn := nodeS_size x c.f1 hx
  have l2 := verS_len wB c.f2
  have l3 := verS_len wL c.f3
  have l4 := verS_len wR c.f4
  unfold conflict_Explain.f
  refine Ev.same (fun k => by rw [eta31, show (⟨c.f0, c.f1, c.f2, c.f3, c.f4⟩ : S23) = c from rfl, explF]) ?_
  refine (node_ev x c.f1 hx hi).bind ?_
  refine (version_ev wB c.f2 (by decide) h2).bind ((version_ev wL c.f3 (by decide) h3).bind ((version_ev wR c.f4 (by decide) h4).bind ?_))
  exact Ev.pos ⟨by omega, by omega, by omega, by omega⟩ (Ev.now _)
theorem explS_len (x : S31) (c : S23) (hc : smallC c = true) : (explS x c).length ≤ 1000000 := by
  obtain ⟨h2, h3, h4⟩ := smallC_of hc
  have l2 := verS_len wB c.f2
  have l3 := verS_len wL c.f3
  have l4 := verS_len wR c.f4
  simp [explS]
  omega

theorem rsplit_loop (s : ByteArray) (hs : s.size ≤ 1000000) : ∀ (g i fr : Nat) (out : List ByteArray), i + g = s.size → fr ≤ i → out.length ≤ i → Ev (fun k => treemergeref01_Split.l0 k s out (fr : Int) (i : Int)) (splitL s g i fr out) := by
  intro g
  induction g with
  | zero =>
    intro i fr out hi hf ho
    rw [splitL]
    by_cases c : fr < s.size
    · rw [if_pos c]
      refine Ev.step (fun k => by rw [treemergeref01_Split.l0, if_neg (by omega), if_pos (by omega), if_pos (by omega), if_pos (by omega), if_pos (by omega), Int.toNat_natCast]) (Ev.now _)
    · rw [if_neg c]
      refine Ev.step (fun k => by rw [treemergeref01_Split.l0, if_neg (by omega), if_neg (by omega)]) (Ev.now _)
  | succ g ih =>
    intro i fr out hi hf ho
    have wu : wrap64 ((i : Int) + 1) = ((i + 1 : Nat) : Int) := by unfold wrap64; omega
    rw [splitL]
    by_cases c : bt s (i : Int) = 10
    · rw [if_pos c]
      refine Ev.step (fun k => by rw [treemergeref01_Split.l0, if_pos (by omega), if_pos (by omega), if_pos c, wu, if_pos (by omega), if_pos (by omega), if_pos (by omega), if_pos (by omega), Int.toNat_natCast, Int.toNat_natCast]) ?_
      exact ih (i + 1) (i + 1) _ (by omega) (by omega) (by simp; omega)
    · rw [if_neg c]
      refine Ev.step (fun k => by rw [treemergeref01_Split.l0, if_pos (by omega), if_pos (by omega), if_neg c, wu]) ?_
      exact ih (i + 1) fr out (by omega) (by omega) (by omega)
theorem rsplit_ev (s : ByteArray) (hs : s.size ≤ 1000000) : Ev (fun k => treemergeref01_Split.f k s) (splitL s s.size 0 0 []) := by
  unfold treemergeref01_Split.f
  exact rsplit_loop s hs s.size 0 0 [] (by omega) (Nat.le_refl _) (Nat.le_refl _)

def colB : ByteArray := ⟨#[58, 32]⟩
def nlB : ByteArray := ⟨#[10]⟩
def cutP (who s : ByteArray) : Option ByteArray := if who.size ≤ s.size ∧ (s.extract 0 who.size).toList = who.toList then some (s.extract who.size s.size) else none
def cutS (who : ByteArray) (l : List ByteArray) : List ByteArray := l.filterMap (cutP who)
theorem cut_loop (who : ByteArray) (l : List ByteArray) (hl : l.length ≤ 1000000) : ∀ (g i : Nat) (out : List ByteArray), i + g = l.length → out.length ≤ i → Ev (fun k => treemergelaw34_cut.l0 k l who out (i : Int)) (out ++ cutS who (l.drop i)) := by
  intro g
  induction g with
  | zero =>
    intro i out hi _
    rw [List.drop_of_length_le (by omega)]
    exact Ev.step (fun k => by rw [treemergelaw34_cut.l0, if_neg (by omega)]) (Ev.cast (by simp [cutS]) (Ev.now out))
  | succ g ih =>
    intro i out hi ho
    have hil : i < l.length := by omega
    have wu : wrap64 ((i : Int) + 1) = ((i + 1 : Nat) : Int) := by unfold wrap64; omega
    have e : cutS who (l.drop i) = (cutP who l[i]).toList ++ cutS who (l.drop (i + 1)) := by
      rw [List.drop_eq_getElem_cons hil]
      unfold cutS
      rw [List.filterMap_cons]
      cases cutP who l[i] <;> rfl
    rw [e]
    by_cases h1 : (l[i].size : Int) ≥ (who.size : Int)
    · by_cases h2 : (l[i].extract 0 who.size).toList = who.toList
      · refine Ev.step (fun k => by rw [treemergelaw34_cut.l0, if_pos (by omega), if_pos (by omega), rdOf_at l i hil, if_pos h1, if_pos (by omega), if_pos (by omega), Int.toNat_natCast, if_pos h2, if_pos (by omega), wu]) ?_
        refine Ev.cast ?_ (ih (i + 1) _ (by omega) (by simp; omega))
        have : cutP who l[i] = some (l[i].extract who.size l[i].size) := by unfold cutP; rw [if_pos ⟨by omega, h2⟩]
        rw [this]
        simp
      · refine Ev.step (fun k => by rw [treemergelaw34_cut.l0, if_pos (by omega), if_pos (by omega), rdOf_at l i hil, if_pos h1, if_pos (by omega), if_pos (by omega), Int.toNat_natCast, if_neg h2, wu]) ?_
        refine Ev.cast ?_ (ih (i + 1) _ (by omega) (by omega))
        have : cutP who l[i] = none := by unfold cutP; rw [if_neg (fun h => h2 h.2)]
        rw [this]
        simp
    · refine Ev.step (fun k => by rw [treemergelaw34_cut.l0, if_pos (by omega), if_pos (by omega), rdOf_at l i hil, if_neg h1, wu]) ?_
      refine Ev.cast ?_ (ih (i + 1) _ (by omega) (by omega))
      have : cutP who l[i] = none := by unfold cutP; rw [if_neg (fun h => h1 (by omega))]
      rw [this]
      simp
theorem cut_ev (who : ByteArray) (s : ByteArray) (l : List ByteArray) (hl : l.length ≤ 100000) : Ev (fun k => treemergelaw34_cut.f k (s :: l) who) (cutS who l) := by
  unfold treemergelaw34_cut.f
  refine Ev.cast ?_ (cut_loop who (s :: l) (by simp; omega) l.length 1 [] (by simp; omega) (by simp))
  simp
theorem cut_yes (who r : ByteArray) : cutP who (who ++ r) = some r := by
  have hs : (who ++ r).size = who.size + r.size := ByteArray.size_append
  have e1 : (who ++ r).extract 0 who.size = who := by
    refine ba_ext ?_
    rw [ext_list, app_list, ← ba_len]
    simp
  have e2 : (who ++ r).extract who.size (who ++ r).size = r := by
    refine ba_ext ?_
    rw [ext_list, app_list, hs, ← ba_len, ← ba_len, List.drop_left, List.take_of_length_le (by omega)]
  unfold cutP
  rw [if_pos ⟨by omega, by rw [e1]⟩, e2]
theorem cut_no (who s r : ByteArray) (a b : UInt8) (wa wb : List UInt8) (h1 : who.data.toList = a :: wa) (h2 : s.data.toList = b :: wb) (h : a ≠ b) : cutP who (s ++ r) = none := by
  unfold cutP
  rw [if_neg]
  intro ⟨_, h3⟩
  rw [ByteArray.toList_eq, ByteArray.toList_eq, ext_list, app_list, h2, ← ba_len, h1] at h3
  simp at h3
  exact h h3.1.symm
theorem ver_form (who t : ByteArray) : ∀ s ∈ verS who t, ∃ r, s = (who ++ colB) ++ r := by
  intro s hs
  unfold verS at hs
  split at hs
  · rw [List.mem_singleton.1 hs]
    refine ⟨⟨#[40, 110, 111, 110, 101, 41, 10]⟩, ?_⟩
    unfold noneB
    rw [ByteArray.append_assoc]
    rfl
  · obtain ⟨p, _, rfl⟩ := List.mem_map.1 hs
    refine ⟨bareB p ++ nlB, ?_⟩
    unfold piece
    rw [ByteArray.append_assoc]
    rfl
theorem cut_other (who who' t : ByteArray) (a b : UInt8) (wa wb : List UInt8) (h1 : who.data.toList = a :: wa) (h2 : who'.data.toList = b :: wb) (h : a ≠ b) : cutS who (verS who' t) = [] := by
  unfold cutS
  rw [List.filterMap_eq_nil_iff]
  intro s hs
  obtain ⟨r, rfl⟩ := ver_form who' t s hs
  exact cut_no who _ r a b wa (wb ++ colB.data.toList) h1 (by rw [app_list, h2]; rfl) h
theorem cut_own (who t : ByteArray) (ht : t.toList ≠ []) : cutS (who ++ colB) (verS who t) = (splitL t t.size 0 0 []).map (fun p => bareB p ++ nlB) := by
  unfold cutS verS
  rw [if_neg ht, List.filterMap_map]
  have : (cutP (who ++ colB) ∘ piece who) = fun p => some (bareB p ++ nlB) := by
    funext p
    show cutP (who ++ colB) (piece who p) = _
    have : piece who p = (who ++ colB) ++ (bareB p ++ nlB) := by
      unfold piece
      rw [ByteArray.append_assoc]
      rfl
    rw [this, cut_yes]
  rw [this]
  exact congrFun List.filterMap_eq_map' _
theorem splitL_pos (s : ByteArray) : ∀ (g i fr : Nat) (out : List ByteArray), i + g = s.size → fr ≤ i → (∀ x ∈ out, 0 < x.size) → ∀ x ∈ splitL s g i fr out, 0 < x.size
  | 0, i, fr, out, hi, hf, h => by
    rw [splitL]
    split
    · intro x hx
      rcases List.mem_append.1 hx with hx | hx
      · exact h x hx
      · rw [List.mem_singleton.1 hx]
        simp only [ByteArray.size_extract]
        omega
    · exact h
  | g + 1, i, fr, out, hi, hf, h => by
    rw [splitL]
    split
    · refine splitL_pos s g (i + 1) (i + 1) _ (by omega) (Nat.le_refl _) (fun x hx => ?_)
      rcases List.mem_append.1 hx with hx | hx
      · exact h x hx
      · rw [List.mem_singleton.1 hx]
        simp only [ByteArray.size_extract]
        omega
    · exact splitL_pos s g (i + 1) fr out (by omega) (by omega) h
theorem splitL_ne (s : ByteArray) : ∀ (g i fr : Nat) (out : List ByteArray), i + g = s.size → fr ≤ i → (fr < s.size ∨ 0 < out.length) → 0 < (splitL s g i fr out).length
  | 0, i, fr, out, hi, hf, h => by
    rw [splitL]
    split
    · simp
    · omega
  | g + 1, i, fr, out, hi, hf, h => by
    rw [splitL]
    split
    · exact splitL_ne s g (i + 1) (i + 1) _ (by omega) (Nat.le_refl _) (Or.inr (by simp))
    · exact splitL_ne s g (i + 1) fr out (by omega) (by omega) h
theorem verS_pos (who t : ByteArray) : 0 < (verS who t).length := by
  unfold verS
  split
  · simp
  · rename_i h
    rw [List.length_map]
    refine splitL_ne t t.size 0 0 [] (by omega) (Nat.le_refl _) (Or.inl ?_)
    rcases Nat.eq_zero_or_pos t.size with h0 | h0
    · exact absurd (by rw [ByteArray.toList_eq]; exact List.eq_nil_of_length_eq_zero (by rw [ba_len]; exact h0)) h
    · exact h0
theorem end_nl (p : ByteArray) (hp : 0 < p.size) : (bt p ((p.size - 1 : Nat) : Int) = 10 ∧ bareB p ++ nlB = p) ∨ (bt p ((p.size - 1 : Nat) : Int) ≠ 10 ∧ bareB p = p) := by
  rcases List.eq_nil_or_concat p.data.toList with e | ⟨M, c, e⟩
  · have h0 : p.size = 0 := by rw [← ba_len, e]; rfl
    omega
  · rw [List.concat_eq_append] at e
    have hs : p.size = M.length + 1 := by rw [← ba_len, e]; simp
    have hb : bt p ((p.size - 1 : Nat) : Int) = (c.toNat : Int) := by
      rw [bt_get p (p.size - 1) (by rw [ba_len]; omega)]
      congr 2
      simp only [e, hs, Nat.add_sub_cancel, List.getElem_concat_length]
    rw [hb]
    by_cases h : c = 10
    · subst h
      refine Or.inl ⟨rfl, ba_ext ?_⟩
      rw [app_list]
      unfold bareB
      rw [e, bareL_end, if_pos rfl]
      rfl
    · refine Or.inr ⟨fun h2 => h (UInt8.toNat_inj.1 (by have : c.toNat = 10 := by omega
                                                        rw [this]; rfl)), ba_ext ?_⟩
      unfold bareB
      rw [e, bareL_end, if_neg h]
theorem shows_loop (x : List ByteArray) (hx : x.length ≤ 1000) (hz : ∀ p ∈ x, p.size ≤ 1000 ∧ 0 < p.size) : ∀ (g i : Nat), i + g = x.length → Ev (fun k => treemergelaw34_shows.l0 k (x.map (fun p => bareB p ++ nlB)) x (i : Int)) true := by
  intro g
  induction g with
  | zero =>
    intro i hi
    exact Ev.step (fun k => by rw [treemergelaw34_shows.l0, if_neg (by simp; omega)]) (Ev.now _)
  | succ g ih =>
    intro i hi
    have hil : i < x.length := by omega
    have him : i < (x.map (fun p => bareB p ++ nlB)).length := by simp; omega
    have wu : wrap64 ((i : Int) + 1) = ((i + 1 : Nat) : Int) := by unfold wrap64; omega
    have hp := hz _ (List.getElem_mem hil)
    have w1 : wrap64 ((x[i].size : Int) - 1) = ((x[i].size - 1 : Nat) : Int) := by unfold wrap64; omega
    have e : rdOf ByteArray.empty (x.map (fun p => bareB p ++ nlB)) (i : Int) = bareB x[i] ++ nlB := by rw [rdOf_at _ i him, List.getElem_map]
    rcases end_nl x[i] hp.2 with ⟨h1, h2⟩ | ⟨h1, h2⟩
    · exact Ev.step (fun k => by rw [treemergelaw34_shows.l0, if_pos (by simp; omega), if_pos (by omega), if_pos (by omega), rdOf_at x i hil, w1, if_pos (by omega), if_pos (by omega), if_pos h1, e, h2, if_pos rfl, wu]) (ih (i + 1) (by omega))
    · exact Ev.step (fun k => by rw [treemergelaw34_shows.l0, if_pos (by simp; omega), if_pos (by omega), if_pos (by omega), rdOf_at x i hil, w1, if_pos (by omega), if_pos (by omega), if_neg h1, if_pos (by omega), e, h2, if_pos (show (x[i] ++ nlB).toList = (x[i] ++ (⟨#[10]⟩ : ByteArray)).toList from rfl), wu]) (ih (i + 1) (by omega))
theorem shows_ev (t : ByteArray) (ht : t.size ≤ 300) : Ev (fun k => treemergelaw34_shows.f k ((splitL t t.size 0 0 []).map (fun p => bareB p ++ nlB)) t) true := by
  unfold treemergelaw34_shows.f
  refine (rsplit_ev t (by omega)).bind ?_
  have h1 := splitL_len t t.size 0 0 []
  have h2 := splitL_size t t.size 0 0 [] (by simp)
  have h3 := splitL_pos t t.size 0 0 [] (by omega) (Nat.le_refl _) (by simp)
  refine Ev.pos (by simp) ?_
  exact shows_loop (splitL t t.size 0 0 []) (by simp at h1; omega) (fun p hp => ⟨by have := h2 p hp; omega, h3 p hp⟩) (splitL t t.size 0 0 []).length 0 (by omega)
theorem cutB (x : S31) (c : S23) (h : c.f2.toList ≠ []) (hc : smallC c = true) : Ev (fun k => treemergelaw34_cut.f k (explS x c) (⟨#[98, 97, 115, 101, 58, 32]⟩ : ByteArray)) ((splitL c.f2 c.f2.size 0 0 []).map (fun p => bareB p ++ nlB)) := by
  have hl := explS_len x c hc
  obtain ⟨h2, h3, h4⟩ := smallC_of hc
  have l2 := verS_len wB c.f2
  have l3 := verS_len wL c.f3
  have l4 := verS_len wR c.f4
  refine Ev.cast ?_ (cut_ev (wB ++ colB) _ _ (by simp; omega))
  unfold cutS
  rw [List.filterMap_append, List.filterMap_append]
  show cutS (wB ++ colB) (verS wB c.f2) ++ cutS (wB ++ colB) (verS wL c.f3) ++ cutS (wB ++ colB) (verS wR c.f4) = _
  rw [cut_own wB c.f2 h, cut_other (wB ++ colB) wL c.f3 98 108 _ _ rfl rfl (by decide), cut_other (wB ++ colB) wR c.f4 98 114 _ _ rfl rfl (by decide)]
  simp
theorem cutL (x : S31) (c : S23) (h : c.f3.toList ≠ []) (hc : smallC c = true) : Ev (fun k => treemergelaw34_cut.f k (explS x c) (⟨#[108, 101, 102, 116, 58, 32]⟩ : ByteArray)) ((splitL c.f3 c.f3.size 0 0 []).map (fun p => bareB p ++ nlB)) := by
  obtain ⟨h2, h3, h4⟩ := smallC_of hc
  have l2 := verS_len wB c.f2
  have l3 := verS_len wL c.f3
  have l4 := verS_len wR c.f4
  refine Ev.cast ?_ (cut_ev (wL ++ colB) _ _ (by simp; omega))
  unfold cutS
  rw [List.filterMap_append, List.filterMap_append]
  show cutS (wL ++ colB) (verS wB c.f2) ++ cutS (wL ++ colB) (verS wL c.f3) ++ cutS (wL ++ colB) (verS wR c.f4) = _
  rw [cut_own wL c.f3 h, cut_other (wL ++ colB) wB c.f2 108 98 _ _ rfl rfl (by decide), cut_other (wL ++ colB) wR c.f4 108 114 _ _ rfl rfl (by decide)]
  simp
theorem cutR (x : S31) (c : S23) (h : c.f4.toList ≠ []) (hc : smallC c = true) : Ev (fun k => treemergelaw34_cut.f k (explS x c) (⟨#[114, 105, 103, 104, 116, 58, 32]⟩ : ByteArray)) ((splitL c.f4 c.f4.size 0 0 []).map (fun p => bareB p ++ nlB)) := by
  obtain ⟨h2, h3, h4⟩ := smallC_of hc
  have l2 := verS_len wB c.f2
  have l3 := verS_len wL c.f3
  have l4 := verS_len wR c.f4
  refine Ev.cast ?_ (cut_ev (wR ++ colB) _ _ (by simp; omega))
  unfold cutS
  rw [List.filterMap_append, List.filterMap_append]
  show cutS (wR ++ colB) (verS wB c.f2) ++ cutS (wR ++ colB) (verS wL c.f3) ++ cutS (wR ++ colB) (verS wR c.f4) = _
  rw [cut_own wR c.f4 h, cut_other (wR ++ colB) wB c.f2 114 98 _ _ rfl rfl (by decide), cut_other (wR ++ colB) wL c.f3 114 108 _ _ rfl rfl (by decide)]
  simp
theorem ConflictExplains_ev (x : S31) (c : S23) (id : Int) (hw : WfC c) : Ev (fun k => treemergelaw34_ConflictExplains.f k x.f0 x.f1 x.f2 x.f3 c.f0 c.f1 c.f2 c.f3 c.f4 id) true := by
  have hi : c.f1 ≤ 9223372036854775807 := by
    have h1 := hw.2.1
    simp only [Lit.wf, Bool.and_eq_true, decide_eq_true_eq] at h1
    exact h1.2
  have hk : -9223372036854775808 ≤ c.f0 ∧ c.f0 ≤ 9223372036854775807 := by
    have h1 := hw.1
    simp only [Lit.wf, Bool.and_eq_true, decide_eq_true_eq] at h1
    exact h1
  unfold treemergelaw34_ConflictExplains.f
  obtain ⟨b, e, q⟩ := light_ev x
  refine e.bind ?_
  have skip : ∀ y : Bool, y = true → Ev (fun k => treemergelaw34_ConflictExplains.j0 k id y x.f0 x.f1 x.f2 x.f3 c.f0 c.f1 c.f2 c.f3 c.f4) true := fun y hy => Ev.step (fun k => by rw [treemergelaw34_ConflictExplains.j0, if_pos hy]) awake_ev2
  cases b with
  | false => exact Ev.neg (by decide) (skip _ rfl)
  | true =>
    refine Ev.pos rfl ?_
    refine Ev.same (fun k => by rw [small_ev, Option.bind_some]) ?_
    cases hs : smallC c with
    | false => exact skip _ rfl
    | true =>
      obtain ⟨h2, h3, h4⟩ := smallC_of hs
      have last : Ev (fun k => treemergelaw34_ConflictExplains.j1 k id (explS x c) false c.f0 c.f1 c.f2 c.f3 c.f4) true := by
        have p2 := verS_pos wB c.f2
        have p3 := verS_pos wL c.f3
        have p4 := verS_pos wR c.f4
        refine Ev.step (fun k => by rw [treemergelaw34_ConflictExplains.j1, if_neg (by decide), if_pos (by simp [explS]; omega)]) ?_
        refine (conflict_key_ev c ⟨hk, by omega, by omega, by omega⟩).bind ?_
        refine (conflict_key_ev ⟨c.f0, id, c.f2, c.f3, c.f4⟩ ⟨hk, by simp only; omega, by simp only; omega, by simp only; omega⟩).bind ?_
        exact Ev.pos rfl awake_ev2
      refine Ev.step (fun k => by rw [treemergelaw34_ConflictExplains.j0, if_neg (by decide)]) ?_
      refine (expl_ev x c (q rfl) hs hi).bind ?_
      have right : Ev (fun k => if c.f4.toList = ([] : List UInt8) then (treemergelaw34_ConflictExplains.j1 k id (explS x c) false c.f0 c.f1 c.f2 c.f3 c.f4) else ((treemergelaw34_cut.f k (explS x c) (⟨#[114, 105, 103, 104, 116, 58, 32]⟩ : ByteArray)).bind fun t364 => ((treemergelaw34_shows.f k t364 c.f4).bind fun t367 => (treemergelaw34_ConflictExplains.j1 k id (explS x c) (!t367) c.f0 c.f1 c.f2 c.f3 c.f4)))) true := by
        by_cases e4 : c.f4.toList = ([] : List UInt8)
        · exact Ev.pos e4 last
        · exact Ev.neg e4 ((cutR x c e4 hs).bind ((shows_ev c.f4 h4).bind last))
      by_cases e2 : c.f2.toList = ([] : List UInt8)
      · refine Ev.pos e2 ?_
        by_cases e3 : c.f3.toList = ([] : List UInt8)
        · exact Ev.pos e3 right
        · exact Ev.neg e3 ((cutL x c e3 hs).bind ((shows_ev c.f3 h3).bind (Ev.pos rfl right)))
      · refine Ev.neg e2 ((cutB x c e2 hs).bind ((shows_ev c.f2 h2).bind (Ev.pos rfl ?_)))
        by_cases e3 : c.f3.toList = ([] : List UInt8)
        · exact Ev.pos e3 right
        · exact Ev.neg e3 ((cutL x c e3 hs).bind ((shows_ev c.f3 h3).bind (Ev.pos rfl right)))
theorem ConflictExplains_row {w : World} (x : S31) (A2 : Option Addr) (c2 : Nat) (A3 : Option Addr) (c3 : Nat) (l2 : x.f2.length ≤ c2) (g2 : Kd.string.C w A2 x.f2.length x.f2) (l3 : x.f3.length ≤ c3) (g3 : k31.C w A3 x.f3.length x.f3) (_ : True) (c : S23) (hw : (Lit.int .i64 c.f0).wf = true ∧ (Lit.int .i64 c.f1).wf = true ∧ c.f2.size ≤ 140737488351232 ∧ c.f3.size ≤ 140737488351232 ∧ c.f4.size ≤ 140737488351232) (id : Int) (_ : (Lit.int .i64 id).wf = true) (hG : Glob w) : Calls Tryd.prog 6 #[.agg #[.int .i64 x.f0, .string x.f1, .slice A2 x.f2.length c2, .slice A3 x.f3.length c3], .agg #[.int .i64 c.f0, .int .i64 c.f1, .string c.f2, .string c.f3, .string c.f4], .int .i64 id] w fun e w' => e = .returned (.bool true) ∧ Below w.heap.size w w' := by
  obtain ⟨k, hk⟩ := (ConflictExplains_ev x c id hw).rounds
  exact treemergelaw34_ConflictExplains.calls0 k x.f0 x.f1 A2 c2 x.f2 A3 c3 x.f3 c.f0 c.f1 c.f2 c.f3 c.f4 id true rfl w g2 l2 g3 l3 hG hk

end Go.Proofs.YtcajhkbobpakaaaDoor.Scratch
