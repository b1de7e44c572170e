/- DecideOrders returns true: proved here by steps through the program's text; no condition but those that stand in each theorem. -/
import Derived.WalkSpells
import Derived.Deep.RegionLaw
import Derived.Lib.OthersKept
import Derived.Test.YtfajgjmhfpabiaaDoorShelf
import Derived.Test.YtfajgjmhfpabiaaDoorQ0
import Derived.Test.YtfajgjmhfpabiaaDoorQ2
import Derived.Test.YtfajgjmhfpabiaaDoorQ3
import Derived.Test.YtfajgjmhfpabiaaDoorQ4
import Derived.Test.YtfajgjmhfpabiaaDoorQ5
import Derived.Test.YtfajgjmhfpabiaaDoorSb
import Derived.Test.YtfajgjmhfpabiaaDoorSc
import Derived.Test.YtfajgjmhfpabiaaDoorSe
import Derived.Test.YtfajgjmhfpabiaaDoorSf
import Derived.Test.YtfajgjmhfpabiaaDoorSg
import Derived.Test.YtfajgjmhfpabiaaDoorSh
import Derived.Test.YtfajgjmhfpabiaaDoorSi
import Derived.Test.YtfajgjmhfpabiaaDoorSj
import Derived.Test.YtfajgjmhfpabiaaDoorSk
import Derived.Test.YtfajgjmhfpabiaaDoorSl
import Derived.Test.YtfajgjmhfpabiaaDoorSm
import Derived.Deep.QuietTactic
import Derived.BigQuiet
namespace Go.Proofs.YtfajgjmhfpabiaaDoor.Scratch
set_option linter.unusedVariables false
open Go.RowKit Go.Proofs.YtfajgjmhfpabiaaDoorW.PrintWords Go.Proofs.YtfajgjmhfpabiaaDoorW.PrintLast Go.Proofs.YtfajgjmhfpabiaaDoorW.PrintMore Go.Proofs.YtfajgjmhfpabiaaDoor.Q
attribute [local go_sem] max2_int min2_int max_two min_two max_three min_three max_four min_four
/-- Decisions with different keys: what is found in a book of them. -/
theorem addAll_find : ∀ (l L : List S35) (k : Int), Asc L → (l.map fun d => d.f0).Nodup → L.length + l.length ≤ 256 → (∀ d ∈ l, bookIn L d.f0 = none) → bookIn (addAll L l) k = match l.find? (fun d => decide (d.f0 = k ∧ faultS d.f1 d.f2 d.f3 = 0)) with | some d => some d | none => bookIn L k
  | [], L, k, _, _, _, _ => rfl
  | d :: l, L, k, ha, hn, hl, hf => by
    have hc := List.nodup_cons.1 (show (d.f0 :: l.map fun d => d.f0).Nodup from hn)
    have h0 := hf d List.mem_cons_self
    rw [List.length_cons] at hl
    show bookIn (addAll (bookAdd L d).1 l) k = _
    by_cases c : faultS d.f1 d.f2 d.f3 = 0
    · have e : (bookAdd L d).1 = bookPut L d := by
        unfold bookAdd
        rw [if_neg (by simpa using c), h0, if_neg (by simp), if_neg (by omega)]
      have hlen := bookPut_len_new L d ha h0
      rw [e, addAll_find l (bookPut L d) k (bookPut_asc L d ha) hc.2 (by omega) (fun x hx => by
        rw [bookIn_put L d x.f0 ha, if_neg (fun q => hc.1 (by rw [← q]; exact List.mem_map.2 ⟨x, hx, rfl⟩))]
        exact hf x (List.mem_cons_of_mem _ hx)), bookIn_put L d k ha]
      by_cases q : d.f0 = k
      · have hno : l.find? (fun d => decide (d.f0 = k ∧ faultS d.f1 d.f2 d.f3 = 0)) = none := List.find?_eq_none.2 (fun x hx p => by
          simp only [decide_eq_true_eq] at p
          exact hc.1 (by rw [q, ← p.1]; exact List.mem_map.2 ⟨x, hx, rfl⟩))
        rw [hno, List.find?_cons_of_pos (by simpa using ⟨q, c⟩)]
        simp only [if_pos q.symm]
      · rw [List.find?_cons_of_neg (by simp; exact fun e => absurd e q), if_neg (fun e => q e.symm)]
    · have e : (bookAdd L d).1 = L := by
        unfold bookAdd
        rw [if_pos (by simpa using c)]
      rw [e, addAll_find l L k ha hc.2 (by omega) (fun x hx => hf x (List.mem_cons_of_mem _ hx)), List.find?_cons_of_neg (by simp; exact fun _ => c)]
theorem asc_mem_find {L : List S35} (h : Asc L) (d : S35) : d ∈ L ↔ bookIn L d.f0 = some d := by
  constructor
  · intro hm
    obtain ⟨i, hi, e⟩ := List.mem_iff_getElem.1 hm
    rw [← e]
    exact bookIn_at h.nodup hi
  · intro e
    exact List.mem_of_find?_eq_some e
theorem bookIn_key {L : List S35} {k : Int} {d : S35} (h : bookIn L k = some d) : d.f0 = k := by
  have := List.find?_some h
  simpa using this
theorem asc_ext {L M : List S35} (hL : Asc L) (hM : Asc M) (h : ∀ k, bookIn L k = bookIn M k) : L = M := by
  have nL : L.Nodup := List.Pairwise.imp (fun q e => by subst e; exact absurd q (Int.lt_irrefl _)) hL
  have nM : M.Nodup := List.Pairwise.imp (fun q e => by subst e; exact absurd q (Int.lt_irrefl _)) hM
  exact ((List.perm_ext_iff_of_nodup nL nM).2 (fun d => by rw [asc_mem_find hL, asc_mem_find hM, h])).eq_of_pairwise (le := fun x y : S35 => x.f0 < y.f0) (fun a b _ _ h1 h2 => absurd h1 (Int.lt_asymm h2)) hL hM
theorem find_unique {l : List S35} {p : S35 → Bool} {d : S35} (hm : d ∈ l) (hp : p d = true) (hu : ∀ x ∈ l, p x = true → x = d) : l.find? p = some d := by
  cases h : l.find? p with
  | none => exact absurd hp (by simpa using (List.find?_eq_none.1 h) d hm)
  | some x => rw [hu x (List.mem_of_find?_eq_some h) (List.find?_some h)]
theorem key_unique {l : List S35} (hn : (l.map fun d => d.f0).Nodup) {x y : S35} (hx : x ∈ l) (hy : y ∈ l) (e : x.f0 = y.f0) : x = y := by
  induction l with
  | nil => cases hx
  | cons a l ih =>
    have hc := List.nodup_cons.1 (show (a.f0 :: l.map fun d => d.f0).Nodup from hn)
    rcases List.mem_cons.1 hx with ex | hx
    · rcases List.mem_cons.1 hy with ey | hy
      · rw [ex, ey]
      · exact absurd (List.mem_map.2 ⟨y, hy, by rw [← e, ex]⟩) hc.1
    · rcases List.mem_cons.1 hy with ey | hy
      · exact absurd (List.mem_map.2 ⟨x, hx, by rw [e, ey]⟩) hc.1
      · exact ih hc.2 hx hy
theorem find_perm {l m : List S35} (hp : l.Perm m) (hn : (l.map fun d => d.f0).Nodup) (k : Int) : l.find? (fun d => decide (d.f0 = k ∧ faultS d.f1 d.f2 d.f3 = 0)) = m.find? (fun d => decide (d.f0 = k ∧ faultS d.f1 d.f2 d.f3 = 0)) := by
  cases h : m.find? (fun d => decide (d.f0 = k ∧ faultS d.f1 d.f2 d.f3 = 0)) with
  | none =>
    rw [List.find?_eq_none] at h ⊢
    exact fun x hx => h x (hp.mem_iff.1 hx)
  | some d =>
    have h1 := List.mem_of_find?_eq_some h
    have h2 := List.find?_some h
    refine find_unique (hp.mem_iff.2 h1) h2 (fun x hx px => ?_)
    simp only [decide_eq_true_eq] at h2 px
    exact key_unique hn hx (hp.mem_iff.2 h1) (px.1.trans h2.1.symm)
theorem addAll_order {l m : List S35} (hp : l.Perm m) (hn : (l.map fun d => d.f0).Nodup) (hl : l.length ≤ 256) : addAll [] l = addAll [] m := by
  have hn2 : (m.map fun d => d.f0).Nodup := (hp.map _).nodup_iff.1 hn
  refine asc_ext (addAll_asc l [] List.Pairwise.nil) (addAll_asc m [] List.Pairwise.nil) (fun k => ?_)
  rw [addAll_find l [] k List.Pairwise.nil hn (by simpa using hl) (fun _ _ => rfl), addAll_find m [] k List.Pairwise.nil hn2 (by rw [← hp.length_eq]; simpa using hl) (fun _ _ => rfl), find_perm hp hn k]

def tupO (o : Option S35) : Int × Int × ByteArray × ByteArray × Bool := match o with
  | some d => (d.f0, d.f1, d.f2, d.f3, true)
  | none => (0, 0, ⟨#[]⟩, ⟨#[]⟩, false)
theorem rfind_loop (L : List S35) (key : Int) (hl : L.length ≤ 1000000) : ∀ (g i : Nat), i + g = L.length → Ev (fun k => treemergeref36_Find.l0 k L key (i : Int)) (tupO (bookIn (L.drop i) key)) := by
  intro g
  induction g with
  | zero =>
    intro i hi
    rw [List.drop_of_length_le (by omega)]
    exact Ev.step (fun k => by rw [treemergeref36_Find.l0, if_neg (by omega)]; rfl) (Ev.now _)
  | succ g ih =>
    intro i hi
    have hil : i < L.length := by omega
    have wu : wrap64 ((i : Int) + 1) = ((i + 1 : Nat) : Int) := by unfold wrap64; omega
    have hrd : rd_T35 L (i : Int) = L[i] := by simp [rd_T35, List.getD_eq_getElem?_getD, List.getElem?_eq_getElem hil]
    rw [List.drop_eq_getElem_cons hil, bookIn_cons]
    refine Ev.step (fun k => by rw [treemergeref36_Find.l0, if_pos (by omega), if_pos (by omega), hrd, wu]) ?_
    by_cases c : L[i].f0 = key
    · simp only [if_pos c]
      exact Ev.now _
    · simp only [if_neg c]
      exact ih (i + 1) (by omega)
theorem rfind_ev (L : List S35) (key : Int) (hl : L.length ≤ 1000000) : Ev (fun k => treemergeref36_Find.f k L key) (tupO (bookIn L key)) := by
  unfold treemergeref36_Find.f
  exact rfind_loop L key hl L.length 0 (by omega)
def ValidL (l : List S35) : Prop := l.length ≤ 30 ∧ ∀ d ∈ l, d.f2.size ≤ 300 ∧ d.f3.size ≤ 600
instance (l : List S35) : Decidable (ValidL l) := inferInstanceAs (Decidable (_ ∧ _))
theorem plain36_is (d : S35) : treemergelaw36_plain.f d.f0 d.f1 d.f2 d.f3 = some (decide (d.f2.size ≤ 300 ∧ d.f3.size ≤ 600)) := by
  unfold treemergelaw36_plain.f
  by_cases c : (d.f2.size : Int) ≤ 300
  · rw [if_pos c]
    by_cases c2 : d.f3.size ≤ 600
    · rw [decide_eq_true (by omega), decide_eq_true (by omega)]
    · rw [decide_eq_false (by omega), decide_eq_false (by omega)]
  · rw [if_neg c, decide_eq_false (by omega)]
theorem valid36_loop (L : List S35) (hl : L.length ≤ 1000000) : ∀ (g i : Nat), i + g = L.length → Ev (fun k => treemergelaw36_valid.l0 k L (i : Int)) (decide (∀ d ∈ L.drop i, d.f2.size ≤ 300 ∧ d.f3.size ≤ 600)) := by
  intro g
  induction g with
  | zero =>
    intro i hi
    rw [List.drop_of_length_le (by omega)]
    exact Ev.step (fun k => by rw [treemergelaw36_valid.l0, if_neg (by omega)]; simp) (Ev.now _)
  | succ g ih =>
    intro i hi
    have hil : i < L.length := by omega
    have wu : wrap64 ((i : Int) + 1) = ((i + 1 : Nat) : Int) := by unfold wrap64; omega
    have hrd : rd_T35 L (i : Int) = L[i] := by simp [rd_T35, List.getD_eq_getElem?_getD, List.getElem?_eq_getElem hil]
    rw [List.drop_eq_getElem_cons hil]
    refine Ev.step (fun k => by rw [treemergelaw36_valid.l0, if_pos (by omega), if_pos (by omega), hrd, wu, plain36_is, Option.bind_some]) ?_
    by_cases c : L[i].f2.size ≤ 300 ∧ L[i].f3.size ≤ 600
    · simp only [decide_eq_true c, if_true]
      refine Ev.cast ?_ (ih (i + 1) (by omega))
      exact decide_eq_decide.2 ⟨fun h x hx => by rcases List.mem_cons.1 hx with e | hx; exact e ▸ c; exact h x hx, fun h x hx => h x (List.mem_cons_of_mem _ hx)⟩
    · simp only [decide_eq_false c]
      refine Ev.neg (by decide) (Ev.cast ?_ (Ev.now _))
      simp only [List.mem_cons, forall_eq_or_imp]
      exact (decide_eq_false (fun q => c q.1)).symm
theorem valid36_ev (L : List S35) (hl : L.length ≤ 140737488351232) : Ev (fun k => treemergelaw36_valid.f k L) (decide (ValidL L)) := by
  unfold treemergelaw36_valid.f ValidL
  by_cases c : L.length ≤ 30
  · refine Ev.neg (by omega) (Ev.cast ?_ (valid36_loop L (by omega) L.length 0 (by omega)))
    simp [c]
  · exact Ev.pos (by omega) (Ev.cast (decide_eq_false (fun q => c q.1)).symm (Ev.now _))
/-- Each key's first decision. -/
def onceK : List S35 → List S35 → List S35
  | [], o => o
  | d :: l, o => onceK l (if (bookIn o d.f0).isSome = true then o else o ++ [d])
theorem bookIn_app (o : List S35) (d : S35) (k : Int) : bookIn (o ++ [d]) k = if (bookIn o k).isSome = true then bookIn o k else if d.f0 = k then some d else none := by
  unfold bookIn
  rw [List.find?_append]
  cases h : o.find? (fun d => decide (d.f0 = k)) with
  | some x => simp
  | none =>
    by_cases c : d.f0 = k
    · simp [c]
    · simp [c]
theorem onceK_inv : ∀ (l o : List S35), (o.map fun d => d.f0).Nodup → ((onceK l o).map fun d => d.f0).Nodup ∧ (onceK l o).length ≤ o.length + l.length
  | [], o, h => ⟨h, Nat.le_add_right _ _⟩
  | d :: l, o, h => by
    rw [onceK]
    by_cases c : (bookIn o d.f0).isSome = true
    · rw [if_pos c]
      obtain ⟨h1, h2⟩ := onceK_inv l o h
      exact ⟨h1, by rw [List.length_cons]; omega⟩
    · rw [if_neg c]
      obtain ⟨h1, h2⟩ := onceK_inv l (o ++ [d]) (by
        rw [List.map_append]
        refine List.nodup_append.2 ⟨h, by simp, fun x hx y hy e => ?_⟩
        simp only [List.map_cons, List.map_nil, List.mem_singleton] at hy
        obtain ⟨z, hz, ez⟩ := List.mem_map.1 hx
        refine c ?_
        unfold bookIn
        rw [List.find?_isSome]
        exact ⟨z, hz, by simp; rw [ez, e, hy]⟩)
      exact ⟨h1, by rw [List.length_append, List.length_singleton] at h2; rw [List.length_cons]; omega⟩
theorem onceK_take (l : List S35) (k : Nat) (h : k < l.length) (o : List S35) : onceK (l.take (k + 1)) o = (if (bookIn (onceK (l.take k) o) l[k].f0).isSome = true then onceK (l.take k) o else onceK (l.take k) o ++ [l[k]]) := by
  induction k generalizing l o with
  | zero =>
    cases l with
    | nil => simp at h
    | cons d l => rfl
  | succ k ih =>
    cases l with
    | nil => simp at h
    | cons d l =>
      simp only [List.take_succ_cons, onceK, List.getElem_cons_succ]
      exact ih l (by simpa using h) _

set_option maxHeartbeats 8000000 in
set_option maxRecDepth 100000 in
theorem DecideOrders_calls (A0 : Option Addr) (c0 : Nat) (l0 : List S35) (w : World) (hG : Glob w) (hr0 : Kd.C k35 w A0 l0.length l0) (hc0 : l0.length ≤ c0) (hv : ValidL l0) : Calls Tryd.prog 6 #[.slice A0 l0.length c0] w fun e w' => e = .returned (.bool true) ∧ KeptS w w' (fun _ => False) := by
  obtain ⟨kv, hkv⟩ := (valid36_ev l0 (by have := hv.1; omega)).rounds
  rw [decide_eq_true hv] at hkv
  have HKV := Aside0.mk hkv
  have hlen := hv.1
  have HG := Aside0.mk hG
  have HC0 := Aside0.mk hr0
  clear hkv hG hv
  go_enter Tryd.func6, Tryd.ntmps6
  go_wp2_with (first | (go_at_call 20; go_loud ((with_reducible refine (treemergelaw36_valid.calls kv A0 c0 l0 true _ HC0.out hc0 HKV.out).mono ?_); rintro e w1 ⟨rfl, hb1⟩; have HB1 := Aside0.mk hb1; clear hb1)))
  have HB1s := Aside0.mk HB1.out.size
  go_loopg [3, 5] l0.length (fun gk v3 v5 w' => ∃ (k : Nat), v5 = .int .i64 k ∧ k + gk = l0.length ∧ Aside0 (k35.R 35 w' w.heap.size (fun _ => True) v3 (onceK (l0.take k) [])) ∧ Aside0 (Below w.heap.size w w'))
  case atStart => exact ⟨0, rfl, by omega, ⟨Kd.R_nil _ _ _ _ _⟩, HB1⟩
  case round =>
    obtain ⟨k, rfl, hk, HO, HB⟩ := hrel
    obtain ⟨go, rfl⟩ : ∃ go, go = gk := ⟨gk, rfl⟩
    have HK := Aside0.mk hk
    cases go with
    | succ g =>
      have hkl : k < l0.length := by omega
      have g1 : decide ((k : Int) < (l0.length : Int)) = true := decide_eq_true (by omega)
      have g2 : decide (k < l0.length) = true := decide_eq_true (by omega)
      have p12 : 0 ≤ (k : Int) := by omega
      have q12 : (k : Int) < (l0.length : Int) := by omega
      have HCk := Aside0.mk (Kd.C_below HC0.out HB.out)
      obtain ⟨ad, e, hx0, hx1, hx2, hx3⟩ := at_T35 HCk.out (k : Int) p12 q12
      cases e
      have hrd : rd_T35 l0 (k : Int) = l0[k] := by simp [rd_T35, List.getD_eq_getElem?_getD, List.getElem?_eq_getElem hkl]
      rw [Int.toNat_natCast, hrd] at hx0 hx1 hx2 hx3
      have HT := Aside0.mk (onceK_take l0 k hkl [])
      have hol := (onceK_inv (l0.take k) [] List.nodup_nil).2
      rw [List.length_take, List.length_nil] at hol
      generalize onceK (l0.take k) [] = O at *
      obtain ⟨Ao, co, eo⟩ := Kd.R_slice HO.out
      subst eo
      obtain ⟨kf, hkf⟩ := (rfind_ev O l0[k].f0 (by omega)).rounds
      obtain ⟨x, hxe⟩ : ∃ x, x = l0[k] := ⟨_, rfl⟩
      rw [← hxe] at hx0 hx1 hx2 hx3 HT hkf
      have hwk : IntKind.i64.wrap ((k : Int) + 1) = (k : Int) + 1 := (i64_w _).trans (by unfold wrap64; omega)
      have hb44 : O.length < 2932031007402 := by omega
      have hrd2 : rd_T35 l0 (k : Int) = x := hrd.trans hxe.symm
      clear hk hrd hxe
      cases hin : bookIn O x.f0 with
      | some y =>
        rw [hin] at hkf HT
        rw [Option.isSome_some, if_pos rfl] at HT
        have HKF := Aside0.mk (show treemergeref36_Find.f kf O x.f0 = some (y.f0, y.f1, y.f2, y.f3, true) from hkf)
        clear hkf hin
        go_wp2_with (first | (go_at_call 23; go_loud ((with_reducible refine (treemergeref36_Find.calls kf Ao co O x.f0 _ _ _ _ _ _ (Kd.R_reads' HO.out).2.2 (Kd.R_reads' HO.out).2.1 HKF.out).mono ?_); rintro e w2 ⟨rfl, hb2⟩; have hz : (w2.alloc (.cells #[.int .u64 0, .int .i64 0, .string ⟨#[]⟩, .string ⟨#[]⟩] 35 (0, 0))).heap[w2.heap.size]? = some (.cells #[.int .u64 0, .int .i64 0, .string ⟨#[]⟩, .string ⟨#[]⟩] 35 (0, 0)) := blk_new w2 _; have hz0 := (blk_cell hz 0).trans rfl; have hz1 := (blk_cell hz 1).trans rfl; have hz2 := (blk_cell hz 2).trans rfl; have hz3 := (blk_cell hz 3).trans rfl; have hf0 := blk_frozen hz 0; have hf1 := blk_frozen hz 1; have hf2 := blk_frozen hz 2; have hf3 := blk_frozen hz 3; have HB2 := Aside0.mk (below_alloc (below_step HB.out hb2) (.cells #[.int .u64 y.f0, .int .i64 y.f1, .string y.f2, .string y.f3] 35 (0, 0))); have HO2 := Aside0.mk (Kd.R_below HO.out (below_alloc hb2 (.cells #[.int .u64 y.f0, .int .i64 y.f1, .string y.f2, .string y.f3] 35 (0, 0)))); clear hb2 hz)))
        go_roundg g
        case measure => omega
        case rel => exact ⟨k + 1, by go_num, by have := HK.out; omega, ⟨by rw [HT.out]; exact HO2.out⟩, HB2⟩
      | none =>
        rw [hin] at hkf HT
        rw [Option.isSome_none, if_neg (by decide)] at HT
        have HKF := Aside0.mk (show treemergeref36_Find.f kf O x.f0 = some (0, 0, ⟨#[]⟩, ⟨#[]⟩, false) from hkf)
        clear hkf hin
        go_wp2_with (first | (go_at_call 23; go_loud ((with_reducible refine (treemergeref36_Find.calls kf Ao co O x.f0 _ _ _ _ _ _ (Kd.R_reads' HO.out).2.2 (Kd.R_reads' HO.out).2.1 HKF.out).mono ?_); rintro e w2 ⟨rfl, hb2⟩; have hz : (w2.alloc (.cells #[.int .u64 0, .int .i64 0, .string ⟨#[]⟩, .string ⟨#[]⟩] 35 (0, 0))).heap[w2.heap.size]? = some (.cells #[.int .u64 0, .int .i64 0, .string ⟨#[]⟩, .string ⟨#[]⟩] 35 (0, 0)) := blk_new w2 _; have hz0 := (blk_cell hz 0).trans rfl; have hz1 := (blk_cell hz 1).trans rfl; have hz2 := (blk_cell hz 2).trans rfl; have hz3 := (blk_cell hz 3).trans rfl; have hf0 := blk_frozen hz 0; have hf1 := blk_frozen hz 1; have hf2 := blk_frozen hz 2; have hf3 := blk_frozen hz 3; have HB2 := Aside0.mk (below_alloc (below_step HB.out hb2) (.cells #[.int .u64 0, .int .i64 0, .string ⟨#[]⟩, .string ⟨#[]⟩] 35 (0, 0))); have HO2 := Aside0.mk (Kd.R_below HO.out (below_alloc hb2 (.cells #[.int .u64 0, .int .i64 0, .string ⟨#[]⟩, .string ⟨#[]⟩] 35 (0, 0)))); obtain ⟨ad2, e2, hy0, hy1, hy2, hy3⟩ := at_T35 (Kd.C_below HC0.out HB2.out) (k : Int) p12 q12; cases e2; rw [Int.toNat_natCast, hrd2] at hy0 hy1 hy2 hy3; clear hb2 hz hx0 hx1 hx2 hx3)) | ((with_reducible refine gate_builtin (b := .append) (xs := #[.tmp 34, .tmp 39]) rfl ?_); at_builtin; refine Kd.R_append k35 (w0 := w) w.heap.size rfl (.tmp 34) (.tmp 39) 27 35 decZ 48 rfl Tryd.underlying27 info35 rfl (by decide) (by omega) (.slice Ao O.length co) (O) x [.int .u64 x.f0, .int .i64 x.f1, .string x.f2, .string x.f3] (fun _ => True) (fun _ => False) rfl ?aX ?aP (fun _ hk => hk.elim) ?aF ?aO ?aB ?aS ?aL ?_; (case aX => exact (congrArg (fun n => Value.slice (some ⟨n, 0, none⟩) 1 1) (sz_alloc w2 _).symm)); (case aP => exact k35_mkM _ _ _ x); (case aF => exact (fun _ _ => trivial)); (case aO => exact HO2.out); (case aB => exact (by repeat (first | (with_reducible first | exact HB2.out | apply below_alloc | apply pw_below_drewN | apply below_drew1) | exact HB2.out))); (case aS => exact (below_size (by repeat (first | (with_reducible first | exact HB2.out | apply below_alloc | apply pw_below_drewN | apply below_drew1) | exact HB2.out)))); (case aL => omega); intro v9 w9 ho hb hg hat; have HO9 := Aside0.mk ho; have HB9 := Aside0.mk hb; clear ho hb hg hat))
        go_roundg g
        case measure => omega
        case rel => exact ⟨k + 1, by go_num, by have := HK.out; omega, ⟨by rw [HT.out]; exact HO9.out⟩, HB9⟩
    | zero =>
      have g1 : decide ((k : Int) < (l0.length : Int)) = false := decide_eq_false (by omega)
      have g2 : decide (k < l0.length) = false := decide_eq_false (by omega)
      have hinv := onceK_inv l0 [] List.nodup_nil
      rw [List.take_of_length_le (show l0.length ≤ k by omega)] at HO
      generalize onceK l0 [] = O at *
      have hol : O.length ≤ 30 := by have := hinv.2; simp at this; omega
      have HN := Aside0.mk hinv.1
      obtain ⟨Ao, co, eo⟩ := Kd.R_slice HO.out
      subst eo
      have hwm : IntKind.i64.wrap ((O.length : Int) - 1) = (O.length : Int) - 1 := (i64_w _).trans (by unfold wrap64; omega)
      clear hk hinv
      clear HC0 HKV
      go_wp2
      obtain ⟨wa, hwa⟩ : ∃ wa, wa = wr := ⟨_, rfl⟩
      subst hwa
      go_loopg [4, 8] O.length (fun gk v4 v8 w' => ∃ (i : Int) (j : Nat), v8 = .int .i64 i ∧ i + 1 = (gk : Int) ∧ j + gk = O.length ∧ Aside0 (k35.R 35 w' wa.heap.size (fun _ => True) v4 (O.reverse.take j)) ∧ Aside0 (Below wa.heap.size wa w'))
      case atStart => exact ⟨_, 0, rfl, by omega, by omega, ⟨Kd.R_nil _ _ _ _ _⟩, ⟨Below.refl _ _⟩⟩
      case round =>
        obtain ⟨i, j, rfl, hi, hj, HOb, HBb⟩ := hrel
        obtain ⟨go, rfl⟩ : ∃ go, go = gk := ⟨gk, rfl⟩
        have HJ := Aside0.mk hj
        cases go with
        | succ g =>
          obtain rfl : i = (g : Int) := by omega
          have hgl : g < O.length := by omega
          have g1 : decide ((g : Int) ≥ 0) = true := decide_eq_true (by omega)
          have g2 : decide (0 ≤ (g : Int)) = true := decide_eq_true (by omega)
          have p12 : 0 ≤ (g : Int) := by omega
          have q12 : (g : Int) < (O.length : Int) := by omega
          obtain ⟨ad, e, hx0, hx1, hx2, hx3⟩ := at_T35 (Kd.C_below (Kd.R_reads' HO.out).2.2 HBb.out) (g : Int) p12 q12
          cases e
          have hrd : rd_T35 O (g : Int) = O[g] := by simp [rd_T35, List.getD_eq_getElem?_getD, List.getElem?_eq_getElem hgl]
          rw [Int.toNat_natCast, hrd] at hx0 hx1 hx2 hx3
          have HT := Aside0.mk (show O.reverse.take (j + 1) = O.reverse.take j ++ [O[g]] by
            rw [List.take_succ_eq_append_getElem (by rw [List.length_reverse]; omega), List.getElem_reverse]
            congr 2
            congr 1
            omega)
          obtain ⟨x, hxe⟩ : ∃ x, x = O[g] := ⟨_, rfl⟩
          rw [← hxe] at hx0 hx1 hx2 hx3 HT
          obtain ⟨Ab, cb, eb⟩ := Kd.R_slice HOb.out
          subst eb
          have hb44 : (O.reverse.take j).length < 2932031007402 := by rw [List.length_take, List.length_reverse]; omega
          have hwk : IntKind.i64.wrap ((g : Int) - 1) = (g : Int) - 1 := (i64_w _).trans (by unfold wrap64; omega)
          clear hxe hrd hi hj
          go_wp2_with (first | ((with_reducible refine gate_builtin (b := .append) (xs := #[.tmp 48, .tmp 53]) rfl ?_); at_builtin; refine Kd.R_append k35 (w0 := wa) wa.heap.size rfl (.tmp 48) (.tmp 53) 27 35 decZ 48 rfl Tryd.underlying27 info35 rfl (by decide) (by omega) (.slice Ab (O.reverse.take j).length cb) (O.reverse.take j) x [.int .u64 x.f0, .int .i64 x.f1, .string x.f2, .string x.f3] (fun _ => True) (fun _ => False) rfl rfl ?aP (fun _ hk => hk.elim) ?aF ?aO ?aB ?aS ?aL ?_; (case aP => exact k35_mkM _ _ _ x); (case aF => exact (fun _ _ => trivial)); (case aO => exact HOb.out); (case aB => exact HBb.out); (case aS => exact (below_size HBb.out)); (case aL => omega); intro v9 w9 ho hb hg hat; have HO9 := Aside0.mk ho; have HB9 := Aside0.mk hb; clear ho hb hg hat))
          go_roundg g
          case measure => omega
          case rel => exact ⟨(g : Int) - 1, j + 1, by go_num, by omega, by have := HJ.out; omega, ⟨by rw [HT.out]; exact HO9.out⟩, HB9⟩
        | zero =>
          obtain rfl : i = -1 := by omega
          rw [List.take_of_length_le (show O.reverse.length ≤ j by rw [List.length_reverse]; omega)] at HOb
          have g1 : decide ((-1 : Int) ≥ 0) = false := by decide
          have hrl : O.reverse.length = O.length := List.length_reverse
          obtain ⟨Ab, cb, eb⟩ := Kd.R_slice HOb.out
          subst eb
          have hM : addAll [] O.reverse = addAll [] O := addAll_order (List.reverse_perm O) (((List.reverse_perm O).map _).nodup_iff.2 HN.out) (by omega)
          have hA := addAll_asc O [] List.Pairwise.nil
          have hMl := addAll_len O [] List.Pairwise.nil
          simp only [List.length_nil, Nat.zero_max, Nat.max_le, Nat.le_refl] at hMl
          have HA1 := Aside0.mk (fun W (hC : Kd.C k35 W Ao O.length O) => added_calls Ao co O W hC (Kd.R_reads' HO.out).2.1 (by omega))
          have HA2 : Aside0 (∀ W, Kd.C k35 W Ab O.length O.reverse → Calls Tryd.prog 21 #[.slice Ab O.length cb] W fun e w' => ∃ b, e = .returned (.pointer (some ⟨b, 0, none⟩)) ∧ BookAt w' (fun k => W.heap.size ≤ k ∧ k < w'.heap.size) W.heap.size b (addAll [] O) ∧ KeptS W w' (fun _ => False)) := ⟨fun W hC => by
            have := added_calls Ab cb O.reverse W (by rw [hrl]; exact hC) (Kd.R_reads' HOb.out).2.1 (by omega)
            rw [hrl, hM] at this
            exact this⟩
          have HOc := Aside0.mk HOb.out
          rw [hrl] at HOc
          generalize addAll [] O = M at *
          generalize O.reverse = N at *
          obtain ⟨ks, hks⟩ := (same_ev M (by omega)).rounds
          have HKS := Aside0.mk hks
          have HASC := Aside0.mk hA
          have HK0 := Aside0.mk (KeptS.of_below (below_step HB.out HBb.out) (fun _ => False))
          have HC1 := Aside0.mk (Kd.C_below (Kd.R_reads' HO.out).2.2 HBb.out)
          clear hj hi hM hks hA
          go_wp2_with (first | (go_at_call 21; go_loud ((with_reducible refine (HA1.out _ HC1.out).mono ?_); rintro e w4 ⟨b1, rfl, hbk1, hk4⟩; have HBK1 := Aside0.mk hbk1; have HK4 := Aside0.mk (HK0.out.then_ hk4 (fun _ h => h.elim)); have HR4 := Aside0.mk (R_keptS HOc.out hk4 (fun _ _ h => h)); clear hbk1 hk4)) | (go_at_call 14; go_loud ((with_reducible refine (decide_Book_List.calls _ _ _ b1 M HBK1.out HASC.out.nodup (by omega)).mono ?_); rintro e w5 ⟨v5, rfl, hr5, hb5⟩; obtain ⟨A5, c5, rfl⟩ := Kd.R_slice hr5; have HR5 := Aside0.mk hr5; have HK5 := Aside0.mk (HK4.out.below hb5); have HC5 := Aside0.mk (show Kd.C k35 w5 Ab O.length N from hrl ▸ Kd.C_below (Kd.R_reads' HR4.out).2.2 hb5); clear hr5 hb5)) | (go_at_call 21; go_loud ((with_reducible refine (HA2.out _ HC5.out).mono ?_); rintro e w6 ⟨b2, rfl, hbk2, hk6⟩; have HBK2 := Aside0.mk hbk2; have HK6 := Aside0.mk (HK5.out.then_ hk6 (fun _ h => h.elim)); have HR6 := Aside0.mk (R_keptS HR5.out hk6 (fun _ _ h => h)); clear hbk2 hk6)) | (go_at_call 14; go_loud ((with_reducible refine (decide_Book_List.calls _ _ _ b2 M HBK2.out HASC.out.nodup (by omega)).mono ?_); rintro e w7 ⟨v7, rfl, hr7, hb7⟩; obtain ⟨A7, c7, rfl⟩ := Kd.R_slice hr7; have HR7 := Aside0.mk hr7; have HK7 := Aside0.mk (HK6.out.below hb7); have HQ7 := Aside0.mk (Kd.R_below HR6.out hb7); clear hr7 hb7)))
          go_loopg [11] (M.length - 1) (fun gk v11 w' => ∃ (k : Nat), v11 = .int .i64 ((k : Int) + 1) ∧ k + gk = M.length - 1 ∧ Aside0 (Below w7.heap.size w7 w'))
          case atStart => exact ⟨0, rfl, by omega, ⟨Below.refl _ _⟩⟩
          case round =>
            obtain ⟨k, rfl, hk, HB8⟩ := hrel
            obtain ⟨go, rfl⟩ : ∃ go, go = gk := ⟨gk, rfl⟩
            have HK := Aside0.mk hk
            have HC8 := Aside0.mk (Kd.C_below (Kd.R_reads' HQ7.out).2.2 HB8.out)
            cases go with
            | succ g =>
              have hkl : k + 1 < M.length := by omega
              have hkl0 : k < M.length := by omega
              have g1 : decide ((k : Int) + 1 < (M.length : Int)) = true := decide_eq_true (by omega)
              have p12 : 0 ≤ (k : Int) := by omega
              have q12 : (k : Int) < (M.length : Int) := by omega
              have p13 : 0 ≤ (k : Int) + 1 := by omega
              have q13 : (k : Int) + 1 < (M.length : Int) := by omega
              obtain ⟨ad, e, hx0, hx1, hx2, hx3⟩ := at_T35 HC8.out (k : Int) p12 q12
              obtain ⟨ad2, e2, hy0, hy1, hy2, hy3⟩ := at_T35 HC8.out ((k : Int) + 1) p13 q13
              obtain rfl : ad = ad2 := Option.some.inj (e.symm.trans e2)
              cases e
              have hrd : rd_T35 M (k : Int) = M[k] := by simp [rd_T35, List.getD_eq_getElem?_getD, List.getElem?_eq_getElem hkl0]
              have hrd2 : rd_T35 M ((k : Int) + 1) = M[k + 1] := by
                rw [show (k : Int) + 1 = ((k + 1 : Nat) : Int) by omega]
                simp [rd_T35, List.getD_eq_getElem?_getD, List.getElem?_eq_getElem hkl]
              rw [Int.toNat_natCast, hrd] at hx0
              rw [hrd2, show ((k : Int) + 1).toNat = k + 1 by omega] at hy0
              have hlt : M[k].f0 < M[k + 1].f0 := List.pairwise_iff_getElem.1 HASC.out k (k + 1) hkl0 hkl (by omega)
              obtain ⟨x, hxe⟩ : ∃ x, x = M[k].f0 := ⟨_, rfl⟩
              obtain ⟨y, hye⟩ : ∃ y, y = M[k + 1].f0 := ⟨_, rfl⟩
              rw [← hxe] at hx0 hlt
              rw [← hye] at hy0 hlt
              have g3 : decide (y ≤ x) = false := decide_eq_false (by omega)
              have w1 : IntKind.i64.wrap ((k : Int) + 1 - 1) = (k : Int) := (i64_w _).trans (by unfold wrap64; omega)
              have w2 : IntKind.i64.wrap ((k : Int) + 1 + 1) = (k : Int) + 1 + 1 := (i64_w _).trans (by unfold wrap64; omega)
              clear hxe hye hrd hrd2 hk hlt e2 hx1 hx2 hx3 hy1 hy2 hy3
              have w3 : IntKind.i64.wrap (k : Int) = (k : Int) := (i64_w _).trans (by unfold wrap64; omega)
              go_wp2
              go_region
              all_goals go_wp2
              all_goals go_roundg g
              all_goals first
                | (have := HK.out; omega)
                | exact ⟨k + 1, by go_num, by have := HK.out; omega, ⟨by repeat (first | (with_reducible first | exact HB8.out | apply pw_below_drewN | apply below_drew1) | exact HB8.out)⟩⟩
            | zero =>
              have g1 : decide ((k : Int) + 1 < (M.length : Int)) = false := decide_eq_false (by omega)
              have HK8 := Aside0.mk (HK7.out.below HB8.out)
              have HR8 := Aside0.mk (Kd.R_below HR7.out HB8.out)
              have HQ8 := Aside0.mk (Kd.R_below HQ7.out HB8.out)
              have HG8 := Aside0.mk (Glob.keptGS HK8.out (fun _ h => h.elim) HG.out)
              clear hk
              go_wp2_with (first | (go_at_call 10; go_loud ((with_reducible refine (awake_calls _ HG8.out).mono ?_); rintro e w9 ⟨rfl, hk9⟩; have HK9 := Aside0.mk (HK8.out.then_ hk9 (fun _ h => h.elim)); have HR9 := Aside0.mk (R_keptS HR8.out hk9 (fun _ _ h => h)); have HQ9 := Aside0.mk (R_keptS HQ8.out hk9 (fun _ _ h => h)); clear hk9)) | (go_at_call 13; go_loud ((with_reducible refine (treemergeref36_Same.calls ks _ _ M _ _ M true _ (Kd.R_reads' HQ9.out).2.2 (Kd.R_reads' HQ9.out).2.1 (Kd.R_reads' HR9.out).2.2 (Kd.R_reads' HR9.out).2.1 HKS.out).mono ?_); rintro e w10 ⟨rfl, hb10⟩; have HK10 := Aside0.mk (HK9.out.below hb10.below); clear hb10)))
              go_ret
              exact ⟨rfl, HK10.out⟩
set_option maxHeartbeats 8000000 in
set_option maxRecDepth 100000 in
theorem DecideOrders_wide (A0 : Option Addr) (c0 : Nat) (l0 : List S35) (w : World) (hG : Glob w) (hr0 : Kd.C k35 w A0 l0.length l0) (hc0 : l0.length ≤ c0) (hl : l0.length ≤ 140737488351232) (hv : ¬ ValidL l0) : Calls Tryd.prog 6 #[.slice A0 l0.length c0] w fun e w' => e = .returned (.bool true) ∧ KeptS w w' (fun _ => False) := by
  obtain ⟨kv, hkv⟩ := (valid36_ev l0 hl).rounds
  rw [decide_eq_false hv] at hkv
  have HKV := Aside0.mk hkv
  have HG := Aside0.mk hG
  have HC0 := Aside0.mk hr0
  clear hkv hG hv
  go_enter Tryd.func6, Tryd.ntmps6
  go_wp2_with (first | (go_at_call 20; go_loud ((with_reducible refine (treemergelaw36_valid.calls kv A0 c0 l0 false _ HC0.out hc0 HKV.out).mono ?_); rintro e w1 ⟨rfl, hb1⟩; have HK1 := Aside0.mk (KeptS.of_below hb1 (fun _ => False)); have HG1 := Aside0.mk (Glob.keptGS HK1.out (fun _ h => h.elim) HG.out); clear hb1)) | (go_at_call 10; go_loud ((with_reducible refine (awake_calls _ HG1.out).mono ?_); rintro e w9 ⟨rfl, hk9⟩; have HK9 := Aside0.mk (HK1.out.then_ hk9 (fun _ h => h.elim)); clear hk9)))
  go_ret
  exact ⟨rfl, HK9.out⟩
theorem DecideOrders_row {w : World} (A0 : Option Addr) (c0 : Nat) (l0 : List S35) (hr0 : Kd.C k35 w A0 l0.length l0) (hc0 : l0.length ≤ c0) (hy : l0.length * 48 ≤ 140737488351232) (hok : ∀ x ∈ l0, (Lit.int .u64 x.f0).wf = true ∧ (Lit.int .i64 x.f1).wf = true ∧ x.f2.size ≤ 140737488351232 ∧ x.f3.size ≤ 140737488351232) (hG : Glob w) : Calls Tryd.prog 6 #[.slice A0 l0.length c0] w fun e w' => e = .returned (.bool true) ∧ Below w.heap.size w w' := by
  by_cases hv : ValidL l0
  · exact (DecideOrders_calls A0 c0 l0 w hG hr0 hc0 hv).mono fun e w' q => ⟨q.1, q.2.asBelow⟩
  · exact (DecideOrders_wide A0 c0 l0 w hG hr0 hc0 (by omega) hv).mono fun e w' q => ⟨q.1, q.2.asBelow⟩

end Go.Proofs.YtfajgjmhfpabiaaDoor.Scratch
