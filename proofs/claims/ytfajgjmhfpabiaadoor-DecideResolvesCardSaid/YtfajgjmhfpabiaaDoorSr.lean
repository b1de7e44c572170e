/- DecideResolves returns true: proved here by steps through the program's text; no condition but those that stand in each theorem. -/
import Derived.WalkSpells
import Derived.Deep.RegionLaw
import Derived.Lib.OthersKept
import Derived.Test.YtfajgjmhfpabiaaDoorShelf
import Derived.Test.YtfajgjmhfpabiaaDoorQ0
import Derived.Test.YtfajgjmhfpabiaaDoorQ1
import Derived.Test.YtfajgjmhfpabiaaDoorQ2
import Derived.Test.YtfajgjmhfpabiaaDoorSg
import Derived.Test.YtfajgjmhfpabiaaDoorSj
import Derived.Test.YtfajgjmhfpabiaaDoorSk
import Derived.Test.YtfajgjmhfpabiaaDoorSm
import Derived.Test.YtfajgjmhfpabiaaDoorSq
import Derived.OpenShut
import Derived.Deep.QuietTactic
import Derived.BigQuiet
namespace Go.Proofs.YtfajgjmhfpabiaaDoor.Scratch
set_option linter.unusedVariables false
open Go.RowKit Go.Proofs.YtfajgjmhfpabiaaDoorW.PrintWords Go.Proofs.YtfajgjmhfpabiaaDoorW.PrintLast Go.Proofs.YtfajgjmhfpabiaaDoorW.PrintMore Go.Proofs.YtfajgjmhfpabiaaDoor.Q
attribute [local go_sem] max2_int min2_int max_two min_two max_three min_three max_four min_four
set_option maxHeartbeats 8000000 in
set_option maxRecDepth 100000 in
theorem nil_Find (w : World) (key : Int) : Calls Tryd.prog 19 #[.pointer none, .int .u64 key] w fun e w' => e = .returned (.tuple #[decV z35, .bool false]) ∧ Below w.heap.size w w' := by
  have hu35 := Tryd.underlying35
  go_enter Tryd.func19, Tryd.ntmps19
  go_wp2
  refine bodyPost_ret (results_ct rfl _ _ w.heap.size 35 #[.int .u64 0, .int .i64 0, .string ⟨#[]⟩, .string ⟨#[]⟩] (0, 0) _ rfl (blk_new w _) hu35 rfl (by kernel_rfl)) rfl ?_
  exact ⟨rfl, below_alloc (Below.refl _ _) _⟩
set_option maxHeartbeats 8000000 in
set_option maxRecDepth 100000 in
theorem nil_List (w : World) : Calls Tryd.prog 14 #[.pointer none] w fun e w' => e = .returned (.slice none 0 0) ∧ Below w.heap.size w w' := by
  go_enter Tryd.func14, Tryd.ntmps14
  go_wp2
  go_ret
  exact ⟨rfl, by repeat (first | exact Below.refl _ _ | apply below_alloc | apply pw_below_drewN | apply below_drew1)⟩
set_option maxHeartbeats 8000000 in
set_option maxRecDepth 100000 in
theorem nil_Picks (w : World) (A1 : Option Addr) (n1 c1 : Nat) : Calls Tryd.prog 27 #[.pointer none, .slice A1 n1 c1] w fun e w' => e = .returned (.tuple #[.slice none 0 0, .slice none 0 0]) ∧ Below w.heap.size w w' := by
  go_enter Tryd.func27, Tryd.ntmps27
  go_wp2
  go_ret2
  exact ⟨rfl, by repeat (first | exact Below.refl _ _ | apply below_alloc | apply pw_below_drewN | apply below_drew1)⟩
set_option maxHeartbeats 8000000 in
set_option maxRecDepth 100000 in
theorem nil_Remove (w : World) (key : Int) : Calls Tryd.prog 28 #[.pointer none, .int .u64 key] w fun e w' => e = .returned (.int .i64 5) ∧ Below w.heap.size w w' := by
  go_enter Tryd.func28, Tryd.ntmps28
  go_wp2
  go_ret
  exact ⟨rfl, by repeat (first | exact Below.refl _ _ | apply below_alloc | apply pw_below_drewN | apply below_drew1)⟩
set_option maxHeartbeats 8000000 in
set_option maxRecDepth 100000 in
theorem nil_Add (w : World) (d : S35) : Calls Tryd.prog 17 #[.pointer none, .agg #[.int .u64 d.f0, .int .i64 d.f1, .string d.f2, .string d.f3]] w fun e w' => e = .returned (.int .i64 5) ∧ Below w.heap.size w w' := by
  go_enter Tryd.func17, Tryd.ntmps17
  go_wp2
  go_ret
  exact ⟨rfl, by repeat (first | exact Below.refl _ _ | apply below_alloc | apply pw_below_drewN | apply below_drew1)⟩
set_option maxHeartbeats 8000000 in
set_option maxRecDepth 100000 in
theorem nil_Print (w : World) : Calls Tryd.prog 22 #[.pointer none] w fun e w' => e = .returned (.string ⟨#[]⟩) ∧ Below w.heap.size w w' := by
  have HB := Aside0.mk (Below.refl w.heap.size w)
  go_enter Tryd.func22, Tryd.ntmps22
  go_wp2_with (first | (go_at_call 14; go_loud ((with_reducible refine (nil_List _).mono ?_); rintro e w1 ⟨rfl, hb1⟩; have HBB1 := Aside0.mk hb1; clear hb1)))
  have hbl := blk_below (blk_new w (.cells #[.pointer none, .slice none 0 0] 80 (0, 0))) HBB1.out
  have HBD : Aside0 (Lib.IsBuilder 80 5 w.heap.size w.heap.size (Lib.byteCells ([] : List UInt8)) w1) := ⟨.inl ⟨Nat.le_refl _, _, hbl, ⟨rfl, .inl ⟨rfl, rfl⟩⟩, by simp [Value.ownBlock]⟩⟩
  have HBW := Aside0.mk (below_step (below_alloc (Below.refl _ _) _) HBB1.out)
  clear hbl
  go_loopg [9] 0 (fun gk v9 w' => v9 = .int .i64 0 ∧ Aside0 (Lib.IsBuilder 80 5 w.heap.size w.heap.size (Lib.byteCells ([] : List UInt8)) w') ∧ Aside0 (Below w.heap.size w w'))
  case atStart => exact ⟨rfl, HBD, HBW⟩
  case round =>
    obtain ⟨rfl, HD, HB2⟩ := hrel
    go_wp2_with (first | (go_at_call 40; go_loud ((with_reducible refine (Tryd.Builder_String_any w.heap.size w.heap.size _ _ HD.out HB2.out.size).mono ?_); rintro e w3 ⟨rfl, hb3⟩; have HB4 := Aside0.mk (HB2.out.trans hb3); clear hb3)))
    go_ret
    exact ⟨rfl, HB4.out⟩

def FewL (l : List S56) (n : Nat) : Prop := l.length ≤ n ∧ ∀ c ∈ l, c.f2.size ≤ 200 ∧ c.f3.size ≤ 200 ∧ c.f4.size ≤ 200
instance (l : List S56) (n : Nat) : Decidable (FewL l n) := inferInstanceAs (Decidable (_ ∧ _))
theorem few_no (l : List S56) (y : S56) (hy : y ∈ l) (c : ¬ (y.f2.size ≤ 200 ∧ y.f3.size ≤ 200 ∧ y.f4.size ≤ 200)) : false = decide (∀ x ∈ l, x.f2.size ≤ 200 ∧ x.f3.size ≤ 200 ∧ x.f4.size ≤ 200) := (decide_eq_false (fun q => c (q y hy))).symm
theorem few36_loop (L : List S56) (hl : L.length ≤ 1000000) : ∀ (g i : Nat), i + g = L.length → Ev (fun k => treemergelaw36_few.l0 k L (i : Int)) (decide (∀ c ∈ L.drop i, c.f2.size ≤ 200 ∧ c.f3.size ≤ 200 ∧ c.f4.size ≤ 200)) := by
  intro g
  induction g with
  | zero =>
    intro i hi
    rw [List.drop_of_length_le (by omega)]
    exact Ev.step (fun k => by rw [treemergelaw36_few.l0, if_neg (by omega)]; simp) (Ev.now _)
  | succ g ih =>
    intro i hi
    have hil : i < L.length := by omega
    have wu : wrap64 ((i : Int) + 1) = ((i + 1 : Nat) : Int) := by unfold wrap64; omega
    have hrd : rd_T56 L (i : Int) = L[i] := by simp [rd_T56, List.getD_eq_getElem?_getD, List.getElem?_eq_getElem hil]
    rw [List.drop_eq_getElem_cons hil]
    refine Ev.step (fun k => by rw [treemergelaw36_few.l0, if_pos (by omega), if_pos (by omega), hrd, wu]) ?_
    by_cases c2 : (L[i].f2.size : Int) > 200
    · exact Ev.pos c2 (Ev.cast (few_no _ L[i] List.mem_cons_self (by omega)) (Ev.now _))
    · refine Ev.neg c2 ?_
      by_cases c3 : (L[i].f3.size : Int) > 200
      · exact Ev.pos c3 (Ev.cast (few_no _ L[i] List.mem_cons_self (by omega)) (Ev.now _))
      · refine Ev.neg c3 ?_
        by_cases c4 : (L[i].f4.size : Int) > 200
        · exact Ev.pos c4 (Ev.cast (few_no _ L[i] List.mem_cons_self (by omega)) (Ev.now _))
        · refine Ev.neg c4 (Ev.cast ?_ (ih (i + 1) (by omega)))
          exact decide_eq_decide.2 ⟨fun h x hx => by rcases List.mem_cons.1 hx with e | hx; exact e ▸ ⟨by omega, by omega, by omega⟩; exact h x hx, fun h x hx => h x (List.mem_cons_of_mem _ hx)⟩
theorem few36_ev (L : List S56) (n : Nat) (hn : n ≤ 1000) (hl : L.length ≤ 140737488351232) : Ev (fun k => treemergelaw36_few.f k L (n : Int)) (decide (FewL L n)) := by
  unfold treemergelaw36_few.f FewL
  by_cases c : L.length ≤ n
  · refine Ev.neg (by omega) (Ev.cast ?_ (few36_loop L (by omega) L.length 0 (by omega)))
    simp [c]
  · exact Ev.pos (by omega) (Ev.cast (decide_eq_false (fun q => c q.1)).symm (Ev.now _))
def noneB (L : List S35) (c : S56) : Bool := (bookIn L (keyS c)).isNone
theorem picksGo_open (L : List S35) : ∀ (cs : List S56) (p : List S62) (o : List S56), (picksGo L cs p o).2 = o ++ cs.filter (noneB L)
  | [], p, o => by rw [picksGo]; simp
  | c :: cs, p, o => by
    rw [picksGo]
    cases h : bookIn L (keyS c) with
    | none =>
      dsimp only
      rw [picksGo_open L cs, List.filter_cons_of_pos (by unfold noneB; rw [h]; rfl)]
      simp
    | some d =>
      dsimp only
      rw [List.filter_cons_of_neg (by unfold noneB; rw [h]; simp)]
      split
      · exact picksGo_open L cs p o
      · exact picksGo_open L cs _ o
theorem picksGo_inv (L : List S35) : ∀ (cs : List S56) (p : List S62) (o : List S56), (p.map fun q => q.f0).Nodup → (∀ q ∈ p, ∃ d, bookIn L q.f0 = some d ∧ q.f1 = d.f1) →
    ((picksGo L cs p o).1.map fun q => q.f0).Nodup ∧ (∀ q ∈ (picksGo L cs p o).1, ∃ d, bookIn L q.f0 = some d ∧ q.f1 = d.f1) ∧ (∀ q ∈ p, q ∈ (picksGo L cs p o).1) ∧ (∀ c ∈ cs, (bookIn L (keyS c)).isSome = true → keyS c ∈ (picksGo L cs p o).1.map fun q => q.f0) ∧ (picksGo L cs p o).1.length ≤ p.length + cs.length
  | [], p, o, h1, h2 => by
    rw [picksGo]
    exact ⟨h1, h2, fun _ h => h, (fun _ h => by cases h), Nat.le_add_right _ _⟩
  | c :: cs, p, o, h1, h2 => by
    rw [picksGo]
    cases h : bookIn L (keyS c) with
    | none =>
      dsimp only
      obtain ⟨e1, e2, e3, e4, e5⟩ := picksGo_inv L cs p (o ++ [c]) h1 h2
      refine ⟨e1, e2, e3, fun x hx hs => ?_, by rw [List.length_cons]; omega⟩
      rcases List.mem_cons.1 hx with rfl | hx
      · rw [h] at hs
        cases hs
      · exact e4 x hx hs
    | some d =>
      dsimp only
      by_cases q : keyS c ∈ p.map (fun q => q.f0)
      · rw [if_pos q]
        obtain ⟨e1, e2, e3, e4, e5⟩ := picksGo_inv L cs p o h1 h2
        refine ⟨e1, e2, e3, fun x hx hs => ?_, by rw [List.length_cons]; omega⟩
        rcases List.mem_cons.1 hx with rfl | hx
        · obtain ⟨y, hy, ey⟩ := List.mem_map.1 q
          exact List.mem_map.2 ⟨y, e3 y hy, ey⟩
        · exact e4 x hx hs
      · rw [if_neg q]
        obtain ⟨e1, e2, e3, e4, e5⟩ := picksGo_inv L cs (p ++ [⟨keyS c, d.f1⟩]) o (by
          rw [List.map_append]
          exact List.nodup_append.2 ⟨h1, by simp, fun a ha b hb e => by simp at hb; exact q (by rw [← hb, ← e]; exact ha)⟩) (fun y hy => by
          rcases List.mem_append.1 hy with hy | hy
          · exact h2 y hy
          · rw [List.mem_singleton.1 hy]
            exact ⟨d, h, rfl⟩)
        refine ⟨e1, e2, fun y hy => e3 y (List.mem_append_left _ hy), fun x hx hs => ?_, by rw [List.length_append, List.length_singleton] at e5; rw [List.length_cons]; omega⟩
        rcases List.mem_cons.1 hx with rfl | hx
        · exact List.mem_map.2 ⟨_, e3 _ (List.mem_append_right _ (List.mem_singleton.2 rfl)), rfl⟩
        · exact e4 x hx hs
def cntP (P : List S62) (key side : Int) : Nat := (P.filter fun q => decide (q.f0 = key ∧ q.f1 = side)).length
theorem cntP_zero {P : List S62} {key side : Int} (h : ∀ q ∈ P, q.f0 ≠ key) : cntP P key side = 0 := by
  unfold cntP
  rw [List.filter_eq_nil_iff.2 (fun q hq => by simp; exact fun e => absurd e (h q hq))]
  rfl
theorem cntP_one : ∀ {P : List S62} {q : S62}, (P.map fun q => q.f0).Nodup → q ∈ P → cntP P q.f0 q.f1 = 1
  | [], q, _, h => by cases h
  | x :: P, q, hn, h => by
    have hc := List.nodup_cons.1 (show (x.f0 :: P.map fun q => q.f0).Nodup from hn)
    rcases List.mem_cons.1 h with e | h
    · subst e
      unfold cntP
      rw [List.filter_cons_of_pos (by simp), List.length_cons]
      have := cntP_zero (P := P) (key := q.f0) (side := q.f1) (fun y hy e => hc.1 (List.mem_map.2 ⟨y, hy, e⟩))
      unfold cntP at this
      omega
    · have := cntP_one hc.2 h
      unfold cntP at this ⊢
      rw [List.filter_cons_of_neg (by simp; exact fun e => absurd (List.mem_map.2 ⟨q, h, e.symm⟩) hc.1)]
      exact this
theorem cntP_snoc (P : List S62) (k : Nat) (h : k < P.length) (key side : Int) : cntP (P.take (k + 1)) key side = cntP (P.take k) key side + (if P[k].f0 = key ∧ P[k].f1 = side then 1 else 0) := by
  unfold cntP
  rw [List.take_succ_eq_append_getElem h, List.filter_append, List.length_append]
  congr 1
  by_cases c : P[k].f0 = key ∧ P[k].f1 = side
  · rw [if_pos c, List.filter_cons_of_pos (by simpa using c)]
    rfl
  · rw [if_neg c, List.filter_cons_of_neg (by simpa using c)]
    rfl
theorem picks_count (L : List S35) (cs : List S56) (c : S56) (hc : c ∈ cs) (d : S35) (h : bookIn L (keyS c) = some d) : cntP (picksGo L cs [] []).1 (keyS c) d.f1 = 1 := by
  obtain ⟨e1, e2, _, e4, _⟩ := picksGo_inv L cs [] [] List.nodup_nil (fun _ h => by cases h)
  obtain ⟨q, hq, eq⟩ := List.mem_map.1 (e4 c hc (by rw [h]; rfl))
  obtain ⟨d2, h2, h3⟩ := e2 q hq
  rw [eq, h] at h2
  have := cntP_one e1 hq
  rw [eq, h3, ← Option.some.inj h2] at this
  exact this
theorem picks_none (L : List S35) (cs : List S56) (c : S56) (side : Int) (h : bookIn L (keyS c) = none) : cntP (picksGo L cs [] []).1 (keyS c) side = 0 := by
  obtain ⟨e1, e2, _, e4, _⟩ := picksGo_inv L cs [] [] List.nodup_nil (fun _ h => by cases h)
  refine cntP_zero (fun q hq e => ?_)
  obtain ⟨d2, h2, h3⟩ := e2 q hq
  rw [e, h] at h2
  cases h2
theorem filter_at {α : Type} (p : α → Bool) (l : List α) (k : Nat) (h : k < l.length) (hp : p l[k] = true) : ∃ (hk : ((l.take k).filter p).length < (l.filter p).length), (l.filter p)[((l.take k).filter p).length] = l[k] := by
  have e : l.filter p = (l.take k).filter p ++ l[k] :: (l.drop (k + 1)).filter p := by
    conv => lhs; rw [← List.take_append_drop k l, List.drop_eq_getElem_cons h]
    rw [List.filter_append, List.filter_cons_of_pos hp]
  refine ⟨by rw [e]; simp, ?_⟩
  simp only [e]
  simp
theorem filter_snoc {α : Type} (p : α → Bool) (l : List α) (k : Nat) (h : k < l.length) : ((l.take (k + 1)).filter p).length = ((l.take k).filter p).length + (if p l[k] = true then 1 else 0) := by
  rw [List.take_succ_eq_append_getElem h, List.filter_append, List.length_append]
  congr 1
  by_cases c : p l[k] = true
  · rw [if_pos c, List.filter_cons_of_pos c]
    rfl
  · rw [if_neg c, List.filter_cons_of_neg c]
    rfl

set_option maxHeartbeats 8000000 in
set_option maxRecDepth 100000 in
theorem DecideResolves_calls (A0 : Option Addr) (c0 : Nat) (l0 : List S35) (A1 : Option Addr) (c1 : Nat) (l1 : List S56) (w : World) (hG : Glob w) (hr0 : Kd.C k35 w A0 l0.length l0) (hc0 : l0.length ≤ c0) (hr1 : Kd.C k56 w A1 l1.length l1) (hc1 : l1.length ≤ c1) (hv : ValidL l0) (hf : FewL l1 12) (hfc : ∀ c ∈ l1, FewC c) : Calls Tryd.prog 9 #[.slice A0 l0.length c0, .slice A1 l1.length c1] w fun e w' => e = .returned (.bool true) ∧ Below w.heap.size w w' := by
  obtain ⟨kv, hkv⟩ := (valid36_ev l0 (by have := hv.1; omega)).rounds
  rw [decide_eq_true hv] at hkv
  obtain ⟨kf, hkf⟩ := (few36_ev l1 12 (by decide) (by have := hf.1; omega)).rounds
  rw [decide_eq_true hf] at hkf
  have HKV := Aside0.mk hkv
  have HKF := Aside0.mk (show treemergelaw36_few.f kf l1 12 = some true from hkf)
  have hlen := hv.1
  have hlen1 := hf.1
  have HG := Aside0.mk (fun W (hb : Below w.heap.size w W) => Glob.below hb hG)
  have HC0 := Aside0.mk hr0
  have HC1 := Aside0.mk hr1
  have HFC := Aside0.mk hfc
  have hu35 := Tryd.underlying35
  have hu56 := Tryd.underlying56
  have HAD := Aside0.mk (fun W (hC : Kd.C k35 W A0 l0.length l0) => added_calls A0 c0 l0 W hC hc0 (by omega))
  generalize addAll [] l0 = L at *
  clear hkv hG hv hkf hf
  go_enter Tryd.func9, Tryd.ntmps9
  go_wp2_with (first | (go_at_call 20; go_loud ((with_reducible refine (treemergelaw36_valid.calls kv A0 c0 l0 true _ HC0.out hc0 HKV.out).mono ?_); rintro e w1 ⟨rfl, hb1⟩; have HB1 := Aside0.mk hb1; clear hb1)) | (go_at_call 24; go_loud ((with_reducible refine (treemergelaw36_few.calls kf A1 c1 l1 12 true _ (Kd.C_below HC1.out HB1.out) hc1 HKF.out).mono ?_); rintro e w2 ⟨rfl, hb2⟩; have HB2 := Aside0.mk (below_step HB1.out hb2.below); have HC02 := Aside0.mk (Kd.C_below HC0.out HB2.out); clear hb2)) | (go_at_call 21; go_loud ((with_reducible refine (HAD.out _ HC02.out).mono ?_); rintro e w3 ⟨b, rfl, hbk3, hk3⟩; have HBK3 := Aside0.mk hbk3; have HB3 := Aside0.mk (below_step HB2.out hk3.asBelow); clear hbk3 hk3)) | (go_at_call 27; go_loud ((with_reducible refine (decide_Book_Picks.calls _ (HG.out _ HB3.out) _ _ b L HBK3.out A1 c1 l1 (Kd.C_below HC1.out HB3.out) (by omega) HFC.out).mono ?_); rintro e wp ⟨v6, v7, rfl, hp4, ho4, hb4⟩; obtain ⟨Ap, cp, rfl⟩ := Kd.R_slice hp4; obtain ⟨Ao, co, rfl⟩ := Kd.R_slice ho4; have HPC := Aside0.mk (Kd.R_reads' hp4).2.2; have HOC := Aside0.mk (Kd.R_reads' ho4).2.2; have HBK := Aside0.mk (HBK3.out.below hb4); have HW := Aside0.mk (below_step HB3.out hb4); have HCP := Aside0.mk (Kd.C_below HC1.out HW.out); clear hb4 hp4 ho4)))
  have hpl : (picksGo L l1 [] []).1.length ≤ l1.length := by
    have := (picksGo_inv L l1 [] [] List.nodup_nil (fun _ h => by cases h)).2.2.2.2
    simpa using this
  obtain ⟨P, hP⟩ : ∃ P, P = (picksGo L l1 [] []).1 := ⟨_, rfl⟩
  obtain ⟨O, hO⟩ : ∃ O, O = (picksGo L l1 [] []).2 := ⟨_, rfl⟩
  rw [← hP] at HPC hpl
  rw [← hO] at HOC
  rw [← hP, ← hO]
  have HPP := Aside0.mk hP
  have HOO := Aside0.mk (show O = l1.filter (noneB L) by rw [hO, picksGo_open, List.nil_append])
  clear hP hO
  go_loopg [8, 9] l1.length (fun gk v8 v9 w' => ∃ (k nx : Nat), v9 = .int .i64 k ∧ v8 = .int .i64 nx ∧ k + gk = l1.length ∧ nx = ((l1.take k).filter (noneB L)).length ∧ Aside0 (Below wp.heap.size wp w'))
  case atStart => exact ⟨0, 0, rfl, rfl, by omega, rfl, ⟨Below.refl _ _⟩⟩
  case round =>
    obtain ⟨k, nx, rfl, rfl, hk, hnx, HB⟩ := hrel
    obtain ⟨go, rfl⟩ : ∃ go, go = gk := ⟨gk, rfl⟩
    have HK := Aside0.mk hk
    cases go with
    | succ g =>
      have hkl : k < l1.length := by omega
      have g1 : decide ((k : Int) < (l1.length : Int)) = true := decide_eq_true (by omega)
      have g2 : decide (k < l1.length) = true := decide_eq_true (by omega)
      have p12 : 0 ≤ (k : Int) := by omega
      have q12 : (k : Int) < (l1.length : Int) := by omega
      obtain ⟨ad, e, hx0, hx1, hx2, hx3, hx4⟩ := at_T56 (Kd.C_below HCP.out HB.out) (k : Int) p12 q12
      cases e
      have hrd : rd_T56 l1 (k : Int) = l1[k] := by simp [rd_T56, List.getD_eq_getElem?_getD, List.getElem?_eq_getElem hkl]
      rw [Int.toNat_natCast, hrd] at hx0 hx1 hx2 hx3 hx4
      have hfx := HFC.out l1[k] (List.getElem_mem hkl)
      obtain ⟨x, hxe⟩ : ∃ x, x = l1[k] := ⟨_, rfl⟩
      rw [← hxe] at hx0 hx1 hx2 hx3 hx4 hfx
      have hrx := Aside0.mk (hrd.trans hxe.symm)
      obtain ⟨kk, hkk⟩ := (conflict_key_ev x hfx).rounds
      have HKK := Aside0.mk hkk
      have hwk : IntKind.i64.wrap ((k : Int) + 1) = (k : Int) + 1 := (i64_w _).trans (by unfold wrap64; omega)
      obtain ⟨key, hkey⟩ : ∃ key, key = keyS l1[k] := ⟨_, rfl⟩
      rw [hxe, ← hkey, ← hxe] at HKK
      have hnl : nx ≤ k := by rw [hnx]; refine Nat.le_trans (List.length_filter_le _ _) ?_; rw [List.length_take]; omega
      clear hrd hkk hfx
      cases hin : bookIn L key with
      | some d =>
        have HIN := Aside0.mk hin
        have HCN := Aside0.mk (show cntP P key d.f1 = 1 by rw [HPP.out, hkey]; exact picks_count L l1 _ (List.getElem_mem hkl) d (by rw [← hkey]; exact hin))
        have HNX := Aside0.mk (show ((l1.take (k + 1)).filter (noneB L)).length = ((l1.take k).filter (noneB L)).length by rw [filter_snoc _ _ _ hkl, if_neg (by unfold noneB; rw [← hkey, hin]; simp), Nat.add_zero])
        rw [← hnx] at HNX
        clear hin hkey hxe hk hnx
        go_wp2_with (first | (go_at_call 26; go_loud ((with_reducible refine (conflict_Key.calls kk _ _ _ _ _ _ _ (HG.out _ (below_step HW.out HB.out)) HKK.out).mono ?_); rintro e w2 ⟨rfl, hb2⟩; have HB2 := Aside0.mk (below_step HB.out hb2); clear hb2 hx0 hx1 hx2 hx3 hx4)) | (go_at_call 19; go_loud (have h := decide_Book_Find.calls w2 _ _ b L (HBK.out.below HB2.out) key; rw [HIN.out, Option.getD_some, Option.isSome_some] at h; unfold decV at h; (with_reducible refine h.mono ?_); clear h; rintro e w3 ⟨rfl, hb3⟩; have hz : (w3.alloc (.cells #[.int .u64 0, .int .i64 0, .string ⟨#[]⟩, .string ⟨#[]⟩] 35 (0, 0))).heap[w3.heap.size]? = some (.cells #[.int .u64 0, .int .i64 0, .string ⟨#[]⟩, .string ⟨#[]⟩] 35 (0, 0)) := blk_new w3 _; have hz0 := (blk_cell hz 0).trans rfl; have hz1 := (blk_cell hz 1).trans rfl; have hz2 := (blk_cell hz 2).trans rfl; have hz3 := (blk_cell hz 3).trans rfl; have hf0 := blk_frozen hz 0; have hf1 := blk_frozen hz 1; have hf2 := blk_frozen hz 2; have hf3 := blk_frozen hz 3; have HD3 : Aside0 ((w3.alloc (.cells #[.int .u64 d.f0, .int .i64 d.f1, .string d.f2, .string d.f3] 35 (0, 0))).heap[w3.heap.size]? = some (.cells #[.int .u64 d.f0, .int .i64 d.f1, .string d.f2, .string d.f3] 35 (0, 0))) := ⟨blk_new w3 _⟩; have HB3 := Aside0.mk (below_alloc (below_step HB2.out hb3) (.cells #[.int .u64 d.f0, .int .i64 d.f1, .string d.f2, .string d.f3] 35 (0, 0))); clear hb3 hz)))
        clear hz0 hz1 hz2 hz3 hf0 hf1 hf2 hf3
        obtain ⟨wj, hwj⟩ : ∃ wj, wj = (w3.alloc (.cells #[.int .u64 d.f0, .int .i64 d.f1, .string d.f2, .string d.f3] 35 (0, 0))) := ⟨_, rfl⟩
        obtain ⟨gd, hgd⟩ : ∃ gd, gd = w3.heap.size := ⟨_, rfl⟩
        rw [← hwj] at HD3 HB3
        rw [← hgd] at HD3
        rw [← hwj, ← hgd]
        clear hwj hgd
        go_loopg [13, 14] P.length (fun gj v13 v14 w' => ∃ (j : Nat), v14 = .int .i64 j ∧ j + gj = P.length ∧ v13 = .int .i64 ((cntP (P.take j) key d.f1 : Nat) : Int) ∧ Aside0 (Below wj.heap.size wj w'))
        case atStart => exact ⟨0, rfl, by omega, rfl, ⟨Below.refl _ _⟩⟩
        case round =>
          obtain ⟨j, rfl, hj, rfl, HBJ⟩ := hrel
          obtain ⟨go, rfl⟩ : ∃ go, go = gk := ⟨gk, rfl⟩
          have HJ := Aside0.mk hj
          cases go with
          | succ g2 =>
            have hjl : j < P.length := by omega
            have g3 : decide ((j : Int) < (P.length : Int)) = true := decide_eq_true (by omega)
            have g4 : decide (j < P.length) = true := decide_eq_true (by omega)
            have p22 : 0 ≤ (j : Int) := by omega
            have q22 : (j : Int) < (P.length : Int) := by omega
            obtain ⟨ap, e, hy0, hy1⟩ := at_T62 (Kd.C_below (Kd.C_below HPC.out HB3.out) HBJ.out) (j : Int) p22 q22
            cases e
            have hrd : rd_T62 P (j : Int) = P[j] := by simp [rd_T62, List.getD_eq_getElem?_getD, List.getElem?_eq_getElem hjl]
            rw [Int.toNat_natCast, hrd] at hy0 hy1
            have hcs := cntP_snoc P j hjl key d.f1
            have hcl : cntP (P.take j) key d.f1 ≤ 1000 := by
              unfold cntP
              refine Nat.le_trans (List.length_filter_le _ _) ?_
              rw [List.length_take]
              omega
            obtain ⟨y, hye⟩ : ∃ y, y = P[j] := ⟨_, rfl⟩
            rw [← hye] at hy0 hy1 hcs
            obtain ⟨m, hm⟩ : ∃ m, m = cntP (P.take j) key d.f1 := ⟨_, rfl⟩
            rw [← hm] at hcs hcl
            rw [← hm]
            have hds := blk_below HD3.out HBJ.out
            have hd1 : wr.cell? ⟨gd, 1, none⟩ = some (.int .i64 d.f1) := (blk_cell hds 1).trans rfl
            have hwj2 : IntKind.i64.wrap ((j : Int) + 1) = (j : Int) + 1 := (i64_w _).trans (by unfold wrap64; omega)
            have hwm : IntKind.i64.wrap ((m : Int) + 1) = (m : Int) + 1 := (i64_w _).trans (by unfold wrap64; omega)
            clear hrd hye hj hds
            by_cases c1 : y.f0 = key
            · by_cases c2 : y.f1 = d.f1
              · rw [if_pos ⟨c1, c2⟩] at hcs
                have HCS := Aside0.mk hcs
                have k1 : (y.f0 == key) = true := beq_iff_eq.2 c1
                have k2 : (y.f1 == d.f1) = true := beq_iff_eq.2 c2
                have k3 : decide (y.f0 = key) = true := decide_eq_true c1
                have k4 : decide (y.f1 = d.f1) = true := decide_eq_true c2
                clear hcs c1 c2 hm
                go_wp2
                go_quiet (fail)
                go_wp2
                go_roundg g2
                case measure => omega
                case rel => exact ⟨j + 1, by go_num, by have := HJ.out; omega, by rw [HCS.out]; go_num, ⟨by repeat (first | (with_reducible first | exact HBJ.out | apply pw_below_drewN | apply below_drew1) | exact HBJ.out)⟩⟩
              · rw [if_neg (fun q => c2 q.2)] at hcs
                have HCS := Aside0.mk hcs
                have k1 : (y.f0 == key) = true := beq_iff_eq.2 c1
                have k2 : (y.f1 == d.f1) = false := beq_eq_false_iff_ne.2 c2
                have k3 : decide (y.f0 = key) = true := decide_eq_true c1
                have k4 : decide (y.f1 = d.f1) = false := decide_eq_false c2
                clear hcs c1 c2 hm
                go_wp2
                go_quiet (fail)
                go_wp2
                go_roundg g2
                case measure => omega
                case rel => exact ⟨j + 1, by go_num, by have := HJ.out; omega, by rw [HCS.out]; go_num, ⟨by repeat (first | (with_reducible first | exact HBJ.out | apply pw_below_drewN | apply below_drew1) | exact HBJ.out)⟩⟩
            · rw [if_neg (fun q => c1 q.1)] at hcs
              have HCS := Aside0.mk hcs
              have k1 : (y.f0 == key) = false := beq_eq_false_iff_ne.2 c1
              have k3 : decide (y.f0 = key) = false := decide_eq_false c1
              clear hcs c1 hm
              go_wp2
              go_quiet (fail)
              go_wp2
              go_roundg g2
              case measure => omega
              case rel => exact ⟨j + 1, by go_num, by have := HJ.out; omega, by rw [HCS.out]; go_num, ⟨by repeat (first | (with_reducible first | exact HBJ.out | apply pw_below_drewN | apply below_drew1) | exact HBJ.out)⟩⟩
          | zero =>
            have g3 : decide ((j : Int) < (P.length : Int)) = false := decide_eq_false (by omega)
            have g4 : decide (j < P.length) = false := decide_eq_false (by omega)
            have hcc : cntP (P.take j) key d.f1 = 1 := by rw [List.take_of_length_le (by omega)]; exact HCN.out
            rw [hcc]
            have HB6 := Aside0.mk (below_step HB3.out HBJ.out)
            clear hj hcc
            go_wp2
            go_roundg g
            case measure => omega
            case rel => exact ⟨k + 1, nx, by go_num, rfl, by have := HK.out; omega, HNX.out.symm, HB6⟩
      | none =>
        have HIN := Aside0.mk hin
        have HCN := Aside0.mk (show cntP P key (0 : Int) = 0 by rw [HPP.out, hkey]; exact picks_none L l1 _ _ (by rw [← hkey]; exact hin))
        have hnb : noneB L l1[k] = true := by unfold noneB; rw [← hkey, hin]; rfl
        have HNX := Aside0.mk (show ((l1.take (k + 1)).filter (noneB L)).length = ((l1.take k).filter (noneB L)).length + 1 by rw [filter_snoc _ _ _ hkl, if_pos hnb])
        obtain ⟨hfk, hfe⟩ := filter_at (noneB L) l1 k hkl hnb
        have HOE := Aside0.mk (show ∃ (h : nx < O.length), O[nx] = x by
          rw [hxe, hnx]
          simp only [HOO.out]
          exact ⟨hfk, hfe⟩)
        clear hnb hfk hfe
        rw [← hnx] at HNX
        clear hin hkey hxe hk hnx
        go_wp2_with (first | (go_at_call 26; go_loud ((with_reducible refine (conflict_Key.calls kk _ _ _ _ _ _ _ (HG.out _ (below_step HW.out HB.out)) HKK.out).mono ?_); rintro e w2 ⟨rfl, hb2⟩; have HB2 := Aside0.mk (below_step HB.out hb2); clear hb2 hx0 hx1 hx2 hx3 hx4)) | (go_at_call 19; go_loud (have h := decide_Book_Find.calls w2 _ _ b L (HBK.out.below HB2.out) key; rw [HIN.out, Option.getD_none, Option.isSome_none] at h; unfold decV z35 at h; (with_reducible refine h.mono ?_); clear h; rintro e w3 ⟨rfl, hb3⟩; have hz : (w3.alloc (.cells #[.int .u64 0, .int .i64 0, .string ⟨#[]⟩, .string ⟨#[]⟩] 35 (0, 0))).heap[w3.heap.size]? = some (.cells #[.int .u64 0, .int .i64 0, .string ⟨#[]⟩, .string ⟨#[]⟩] 35 (0, 0)) := blk_new w3 _; have hz0 := (blk_cell hz 0).trans rfl; have hz1 := (blk_cell hz 1).trans rfl; have hz2 := (blk_cell hz 2).trans rfl; have hz3 := (blk_cell hz 3).trans rfl; have hf0 := blk_frozen hz 0; have hf1 := blk_frozen hz 1; have hf2 := blk_frozen hz 2; have hf3 := blk_frozen hz 3; have HD3 : Aside0 ((w3.alloc (.cells #[.int .u64 0, .int .i64 0, .string ⟨#[]⟩, .string ⟨#[]⟩] 35 (0, 0))).heap[w3.heap.size]? = some (.cells #[.int .u64 0, .int .i64 0, .string ⟨#[]⟩, .string ⟨#[]⟩] 35 (0, 0))) := ⟨blk_new w3 _⟩; have HB3 := Aside0.mk (below_alloc (below_step HB2.out hb3) (.cells #[.int .u64 0, .int .i64 0, .string ⟨#[]⟩, .string ⟨#[]⟩] 35 (0, 0))); clear hb3 hz)))
        clear hz0 hz1 hz2 hz3 hf0 hf1 hf2 hf3
        obtain ⟨wj, hwj⟩ : ∃ wj, wj = (w3.alloc (.cells #[.int .u64 0, .int .i64 0, .string ⟨#[]⟩, .string ⟨#[]⟩] 35 (0, 0))) := ⟨_, rfl⟩
        obtain ⟨gd, hgd⟩ : ∃ gd, gd = w3.heap.size := ⟨_, rfl⟩
        rw [← hwj] at HD3 HB3
        rw [← hgd] at HD3
        rw [← hwj, ← hgd]
        clear hwj hgd
        go_loopg [13, 14] P.length (fun gj v13 v14 w' => ∃ (j : Nat), v14 = .int .i64 j ∧ j + gj = P.length ∧ v13 = .int .i64 ((cntP (P.take j) key (0 : Int) : Nat) : Int) ∧ Aside0 (Below wj.heap.size wj w'))
        case atStart => exact ⟨0, rfl, by omega, rfl, ⟨Below.refl _ _⟩⟩
        case round =>
          obtain ⟨j, rfl, hj, rfl, HBJ⟩ := hrel
          obtain ⟨go, rfl⟩ : ∃ go, go = gk := ⟨gk, rfl⟩
          have HJ := Aside0.mk hj
          cases go with
          | succ g2 =>
            have hjl : j < P.length := by omega
            have g3 : decide ((j : Int) < (P.length : Int)) = true := decide_eq_true (by omega)
            have g4 : decide (j < P.length) = true := decide_eq_true (by omega)
            have p22 : 0 ≤ (j : Int) := by omega
            have q22 : (j : Int) < (P.length : Int) := by omega
            obtain ⟨ap, e, hy0, hy1⟩ := at_T62 (Kd.C_below (Kd.C_below HPC.out HB3.out) HBJ.out) (j : Int) p22 q22
            cases e
            have hrd : rd_T62 P (j : Int) = P[j] := by simp [rd_T62, List.getD_eq_getElem?_getD, List.getElem?_eq_getElem hjl]
            rw [Int.toNat_natCast, hrd] at hy0 hy1
            have hcs := cntP_snoc P j hjl key (0 : Int)
            have hcl : cntP (P.take j) key (0 : Int) ≤ 1000 := by
              unfold cntP
              refine Nat.le_trans (List.length_filter_le _ _) ?_
              rw [List.length_take]
              omega
            obtain ⟨y, hye⟩ : ∃ y, y = P[j] := ⟨_, rfl⟩
            rw [← hye] at hy0 hy1 hcs
            obtain ⟨m, hm⟩ : ∃ m, m = cntP (P.take j) key (0 : Int) := ⟨_, rfl⟩
            rw [← hm] at hcs hcl
            rw [← hm]
            have hds := blk_below HD3.out HBJ.out
            have hd1 : wr.cell? ⟨gd, 1, none⟩ = some (.int .i64 0) := (blk_cell hds 1).trans rfl
            have hwj2 : IntKind.i64.wrap ((j : Int) + 1) = (j : Int) + 1 := (i64_w _).trans (by unfold wrap64; omega)
            have hwm : IntKind.i64.wrap ((m : Int) + 1) = (m : Int) + 1 := (i64_w _).trans (by unfold wrap64; omega)
            clear hrd hye hj hds
            by_cases c1 : y.f0 = key
            · by_cases c2 : y.f1 = (0 : Int)
              · rw [if_pos ⟨c1, c2⟩] at hcs
                have HCS := Aside0.mk hcs
                have k1 : (y.f0 == key) = true := beq_iff_eq.2 c1
                have k2 : (y.f1 == (0 : Int)) = true := beq_iff_eq.2 c2
                have k3 : decide (y.f0 = key) = true := decide_eq_true c1
                have k4 : decide (y.f1 = (0 : Int)) = true := decide_eq_true c2
                clear hcs c1 c2 hm
                go_wp2
                go_quiet (fail)
                go_wp2
                go_roundg g2
                case measure => omega
                case rel => exact ⟨j + 1, by go_num, by have := HJ.out; omega, by rw [HCS.out]; go_num, ⟨by repeat (first | (with_reducible first | exact HBJ.out | apply pw_below_drewN | apply below_drew1) | exact HBJ.out)⟩⟩
              · rw [if_neg (fun q => c2 q.2)] at hcs
                have HCS := Aside0.mk hcs
                have k1 : (y.f0 == key) = true := beq_iff_eq.2 c1
                have k2 : (y.f1 == (0 : Int)) = false := beq_eq_false_iff_ne.2 c2
                have k3 : decide (y.f0 = key) = true := decide_eq_true c1
                have k4 : decide (y.f1 = (0 : Int)) = false := decide_eq_false c2
                clear hcs c1 c2 hm
                go_wp2
                go_quiet (fail)
                go_wp2
                go_roundg g2
                case measure => omega
                case rel => exact ⟨j + 1, by go_num, by have := HJ.out; omega, by rw [HCS.out]; go_num, ⟨by repeat (first | (with_reducible first | exact HBJ.out | apply pw_below_drewN | apply below_drew1) | exact HBJ.out)⟩⟩
            · rw [if_neg (fun q => c1 q.1)] at hcs
              have HCS := Aside0.mk hcs
              have k1 : (y.f0 == key) = false := beq_eq_false_iff_ne.2 c1
              have k3 : decide (y.f0 = key) = false := decide_eq_false c1
              clear hcs c1 hm
              go_wp2
              go_quiet (fail)
              go_wp2
              go_roundg g2
              case measure => omega
              case rel => exact ⟨j + 1, by go_num, by have := HJ.out; omega, by rw [HCS.out]; go_num, ⟨by repeat (first | (with_reducible first | exact HBJ.out | apply pw_below_drewN | apply below_drew1) | exact HBJ.out)⟩⟩
          | zero =>
            have g3 : decide ((j : Int) < (P.length : Int)) = false := decide_eq_false (by omega)
            have g4 : decide (j < P.length) = false := decide_eq_false (by omega)
            have hcc : cntP (P.take j) key (0 : Int) = 0 := by rw [List.take_of_length_le (by omega)]; exact HCN.out
            rw [hcc]
            have HB6 := Aside0.mk (below_step HB3.out HBJ.out)
            clear hj hcc
            obtain ⟨hno, hoe⟩ := HOE.out
            have g5 : decide ((nx : Int) ≥ (O.length : Int)) = false := decide_eq_false (by omega)
            have g6 : decide ((O.length : Int) ≤ (nx : Int)) = false := decide_eq_false (by omega)
            have g7 : decide (O.length ≤ nx) = false := decide_eq_false (by omega)
            have p32 : 0 ≤ (nx : Int) := by omega
            have q32 : (nx : Int) < (O.length : Int) := by omega
            obtain ⟨ao, e, hu0, hu1, hu2, hu3, hu4⟩ := at_T56 (Kd.C_below HOC.out HB6.out) (nx : Int) p32 q32
            cases e
            have hrd : rd_T56 O (nx : Int) = x := by rw [← hoe]; simp [rd_T56, List.getD_eq_getElem?_getD, List.getElem?_eq_getElem hno]
            rw [Int.toNat_natCast, hrd] at hu0 hu1 hu2 hu3 hu4
            obtain ⟨ad2, e2, hv0, hv1, hv2, hv3, hv4⟩ := at_T56 (Kd.C_below HCP.out HB6.out) (k : Int) p12 q12
            cases e2
            rw [Int.toNat_natCast, hrx.out] at hv0 hv1 hv2 hv3 hv4
            have hwn : IntKind.i64.wrap ((nx : Int) + 1) = (nx : Int) + 1 := (i64_w _).trans (by unfold wrap64; omega)
            clear hrd hoe
            go_wp2
            go_quiet (fail)
            go_wp2
            go_roundg g
            case measure => omega
            case rel => exact ⟨k + 1, nx + 1, by go_num, by go_num, by have := HK.out; omega, HNX.out.symm, ⟨by repeat (first | (with_reducible first | exact HB6.out | apply pw_below_drewN | apply below_drew1) | exact HB6.out)⟩⟩
    | zero =>
      have g1 : decide ((k : Int) < (l1.length : Int)) = false := decide_eq_false (by omega)
      have g2 : decide (k < l1.length) = false := decide_eq_false (by omega)
      rw [List.take_of_length_le (by omega), ← HOO.out] at hnx
      subst hnx
      have g3 : decide ((P.length : Int) ≤ (l1.length : Int)) = true := decide_eq_true (by omega)
      have g4 : decide (P.length ≤ l1.length) = true := decide_eq_true (by omega)
      clear hk
      go_wp2_with (first | (go_at_call 27; go_loud ((with_reducible refine (nil_Picks _ _ _ _).mono ?_); rintro e w3 ⟨rfl, hb3⟩; have HB3 := Aside0.mk (below_step HB.out hb3); clear hb3)) | (go_at_call 19; go_loud (have h := nil_Find w3 1; unfold decV z35 at h; (with_reducible refine h.mono ?_); clear h; rintro e w4 ⟨rfl, hb4⟩; have hz : (w4.alloc (.cells #[.int .u64 0, .int .i64 0, .string ⟨#[]⟩, .string ⟨#[]⟩] 35 (0, 0))).heap[w4.heap.size]? = some (.cells #[.int .u64 0, .int .i64 0, .string ⟨#[]⟩, .string ⟨#[]⟩] 35 (0, 0)) := blk_new w4 _; have hz0 := (blk_cell hz 0).trans rfl; have hz1 := (blk_cell hz 1).trans rfl; have hz2 := (blk_cell hz 2).trans rfl; have hz3 := (blk_cell hz 3).trans rfl; have hf0 := blk_frozen hz 0; have hf1 := blk_frozen hz 1; have hf2 := blk_frozen hz 2; have hf3 := blk_frozen hz 3; have HB4 := Aside0.mk (below_alloc (below_step HB3.out hb4) (.cells #[.int .u64 0, .int .i64 0, .string ⟨#[]⟩, .string ⟨#[]⟩] 35 (0, 0))); clear hb4 hz)) | (go_at_call 10; go_loud ((with_reducible refine (awake_calls _ (HG.out _ (below_step HW.out HB4.out))).mono ?_); rintro e w5 ⟨rfl, hk5⟩; have HB5 := Aside0.mk (below_step HB4.out hk5.asBelow); clear hk5 hz0 hz1 hz2 hz3 hf0 hf1 hf2 hf3)) | (go_at_call 17; go_loud (have h : Calls Tryd.prog 17 #[.pointer none, .agg #[.int .u64 0, .int .i64 0, .string ⟨#[]⟩, .string ⟨#[]⟩]] w5 fun e w' => e = .returned (.int .i64 5) ∧ Below w5.heap.size w5 w' := nil_Add w5 z35; (with_reducible refine h.mono ?_); clear h; rintro e w6 ⟨rfl, hb6⟩; have HB6 := Aside0.mk (below_step HB5.out hb6); clear hb6)) | (go_at_call 28; go_loud ((with_reducible refine (nil_Remove _ 1).mono ?_); rintro e w7 ⟨rfl, hb7⟩; have HB7 := Aside0.mk (below_step HB6.out hb7); clear hb7)) | (go_at_call 22; go_loud ((with_reducible refine (nil_Print _).mono ?_); rintro e w8 ⟨rfl, hb8⟩; have HB8 := Aside0.mk (below_step HB7.out hb8); clear hb8)) | (go_at_call 14; go_loud ((with_reducible refine (nil_List _).mono ?_); rintro e w9 ⟨rfl, hb9⟩; have HB9 := Aside0.mk (below_step HB8.out hb9); clear hb9)))
      go_ret
      exact ⟨rfl, below_step HW.out HB9.out⟩
set_option maxHeartbeats 8000000 in
set_option maxRecDepth 100000 in
theorem DecideResolves_wide (A0 : Option Addr) (c0 : Nat) (l0 : List S35) (A1 : Option Addr) (c1 : Nat) (l1 : List S56) (w : World) (hG : Glob w) (hr0 : Kd.C k35 w A0 l0.length l0) (hc0 : l0.length ≤ c0) (hl : l0.length ≤ 140737488351232) (hv : ¬ ValidL l0) : Calls Tryd.prog 9 #[.slice A0 l0.length c0, .slice A1 l1.length c1] w fun e w' => e = .returned (.bool true) ∧ Below w.heap.size w w' := by
  obtain ⟨kv, hkv⟩ := (valid36_ev l0 hl).rounds
  rw [decide_eq_false hv] at hkv
  have HKV := Aside0.mk hkv
  have HG := Aside0.mk (fun W (hb : Below w.heap.size w W) => Glob.below hb hG)
  have HC0 := Aside0.mk hr0
  clear hkv hG hv
  go_enter Tryd.func9, Tryd.ntmps9
  go_wp2_with (first | (go_at_call 20; go_loud ((with_reducible refine (treemergelaw36_valid.calls kv A0 c0 l0 false _ HC0.out hc0 HKV.out).mono ?_); rintro e w1 ⟨rfl, hb1⟩; have HB1 := Aside0.mk hb1; clear hb1)) | (go_at_call 10; go_loud ((with_reducible refine (awake_calls _ (HG.out _ HB1.out)).mono ?_); rintro e w9 ⟨rfl, hk9⟩; have HB9 := Aside0.mk (below_step HB1.out hk9.asBelow); clear hk9)))
  go_ret
  exact ⟨rfl, HB9.out⟩
set_option maxHeartbeats 8000000 in
set_option maxRecDepth 100000 in
theorem DecideResolves_many (A0 : Option Addr) (c0 : Nat) (l0 : List S35) (A1 : Option Addr) (c1 : Nat) (l1 : List S56) (w : World) (hG : Glob w) (hr0 : Kd.C k35 w A0 l0.length l0) (hc0 : l0.length ≤ c0) (hr1 : Kd.C k56 w A1 l1.length l1) (hc1 : l1.length ≤ c1) (hl : l0.length ≤ 140737488351232) (hl1 : l1.length ≤ 140737488351232) (hv : ValidL l0) (hf : ¬ FewL l1 12) : Calls Tryd.prog 9 #[.slice A0 l0.length c0, .slice A1 l1.length c1] w fun e w' => e = .returned (.bool true) ∧ Below w.heap.size w w' := by
  obtain ⟨kv, hkv⟩ := (valid36_ev l0 hl).rounds
  rw [decide_eq_true hv] at hkv
  obtain ⟨kf, hkf⟩ := (few36_ev l1 12 (by decide) hl1).rounds
  rw [decide_eq_false hf] at hkf
  have HKV := Aside0.mk hkv
  have HKF := Aside0.mk (show treemergelaw36_few.f kf l1 12 = some false from hkf)
  have HG := Aside0.mk (fun W (hb : Below w.heap.size w W) => Glob.below hb hG)
  have HC0 := Aside0.mk hr0
  have HC1 := Aside0.mk hr1
  clear hkv hG hv hkf hf
  go_enter Tryd.func9, Tryd.ntmps9
  go_wp2_with (first | (go_at_call 20; go_loud ((with_reducible refine (treemergelaw36_valid.calls kv A0 c0 l0 true _ HC0.out hc0 HKV.out).mono ?_); rintro e w1 ⟨rfl, hb1⟩; have HB1 := Aside0.mk hb1; clear hb1)) | (go_at_call 24; go_loud ((with_reducible refine (treemergelaw36_few.calls kf A1 c1 l1 12 false _ (Kd.C_below HC1.out HB1.out) hc1 HKF.out).mono ?_); rintro e w2 ⟨rfl, hb2⟩; have HB2 := Aside0.mk (below_step HB1.out hb2.below); clear hb2)) | (go_at_call 10; go_loud ((with_reducible refine (awake_calls _ (HG.out _ HB2.out)).mono ?_); rintro e w9 ⟨rfl, hk9⟩; have HB9 := Aside0.mk (below_step HB2.out hk9.asBelow); clear hk9)))
  go_ret
  exact ⟨rfl, HB9.out⟩
def WfD (x : S35) : Prop := (Lit.int .u64 x.f0).wf = true ∧ (Lit.int .i64 x.f1).wf = true ∧ x.f2.size ≤ 140737488351232 ∧ x.f3.size ≤ 140737488351232
def WfC (x : S56) : Prop := (Lit.int .i64 x.f0).wf = true ∧ (Lit.int .i64 x.f1).wf = true ∧ x.f2.size ≤ 140737488351232 ∧ x.f3.size ≤ 140737488351232 ∧ x.f4.size ≤ 140737488351232
theorem fewC_of {c : S56} (h : WfC c) (h2 : c.f2.size ≤ 200 ∧ c.f3.size ≤ 200 ∧ c.f4.size ≤ 200) : FewC c := by
  have := bounds_i64 h.1
  exact ⟨⟨by omega, by omega⟩, by omega, by omega, by omega⟩
theorem DecideResolves_row {w : World} (A0 : Option Addr) (c0 : Nat) (l0 : List S35) (hr0 : Kd.C k35 w A0 l0.length l0) (hc0 : l0.length ≤ c0) (hy0 : l0.length * 48 ≤ 140737488351232) (hok0 : ∀ x ∈ l0, WfD x) (A1 : Option Addr) (c1 : Nat) (l1 : List S56) (hr1 : Kd.C k56 w A1 l1.length l1) (hc1 : l1.length ≤ c1) (hy1 : l1.length * 64 ≤ 140737488351232) (hok1 : ∀ x ∈ l1, WfC x) (hG : Glob w) : Calls Tryd.prog 9 #[.slice A0 l0.length c0, .slice A1 l1.length c1] w fun e w' => e = .returned (.bool true) ∧ Below w.heap.size w w' := by
  by_cases hv : ValidL l0
  · by_cases hf : FewL l1 12
    · exact DecideResolves_calls A0 c0 l0 A1 c1 l1 w hG hr0 hc0 hr1 hc1 hv hf (fun c hc => fewC_of (hok1 c hc) (hf.2 c hc))
    · exact DecideResolves_many A0 c0 l0 A1 c1 l1 w hG hr0 hc0 hr1 hc1 (by omega) (by omega) hv hf
  · exact DecideResolves_wide A0 c0 l0 A1 c1 l1 w hG hr0 hc0 (by omega) hv

end Go.Proofs.YtfajgjmhfpabiaaDoor.Scratch
