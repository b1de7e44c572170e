/- Picks of a book (the last three laws): proved here by steps through the program's text; no condition but those that stand in each theorem. -/
import Derived.WalkSpells
import Derived.Deep.RegionLaw
import Derived.Lib.OthersKept
import Derived.Test.YtfajgjmhfpabiaaDoorShelf
import Derived.Test.YtfajgjmhfpabiaaDoorQ0
import Derived.Test.YtfajgjmhfpabiaaDoorQ4
import Derived.Test.YtfajgjmhfpabiaaDoorQ5
import Derived.Test.YtfajgjmhfpabiaaDoorSg
import Derived.Test.YtfajgjmhfpabiaaDoorSj
import Derived.Test.YtfajgjmhfpabiaaDoorSm
import Derived.Test.YtfajgjmhfpabiaaDoorQ6
import Derived.Lib.ItoaLen
import Derived.Lib.ItoaMem
import Derived.OpenShut
namespace Go.Proofs.YtfajgjmhfpabiaaDoor.Scratch
set_option linter.unusedVariables false
open Go.RowKit Go.Proofs.YtfajgjmhfpabiaaDoorW.PrintWords Go.Proofs.YtfajgjmhfpabiaaDoorW.PrintLast Go.Proofs.YtfajgjmhfpabiaaDoorW.PrintMore Go.Proofs.YtfajgjmhfpabiaaDoor.Q
attribute [local go_sem] max2_int min2_int max_two min_two max_three min_three max_four min_four
theorem wrap_upI {i : Int} {n : Nat} (h0 : 0 ≤ i) (h : i < (n : Int)) (hn : n ≤ 140737488351232) : wrap64 (i + 1) = i + 1 := by
  unfold wrap64
  omega
def dsum (l : List UInt8) (d : Int) : Int := l.foldl (fun d c => dstep d (c.toNat : Int)) d
theorem size_len (s : ByteArray) : (s.size : Int) = (s.data.toList.length : Int) := by simp
theorem sum_loop (s : ByteArray) (hs : s.size ≤ 140737488351232) : ∀ (m i : Nat) (d : Int), i + m = s.size → Ev (fun k => digest_Sum.l0 k s d (s.size : Int) (i : Int)) (dsum (s.data.toList.drop i) d) := by
  intro m
  induction m with
  | zero =>
    intro i d hi
    refine Ev.step (fun k => by rw [digest_Sum.l0, if_neg (by omega)]) ?_
    rw [List.drop_of_length_le (by simp; omega)]
    exact Ev.now _
  | succ m ih =>
    intro i d hi
    have hlt : i < s.data.toList.length := by simp; omega
    refine Ev.step (fun k => by rw [digest_Sum.l0, if_pos (by omega), if_pos (by omega), if_pos (by omega), wrap_upI (n := s.size) (by omega) (by omega) hs]) ?_
    rw [List.drop_eq_getElem_cons hlt, bt_get s i hlt]
    exact ih (i + 1) _ (by omega)
theorem sum_ev (s : ByteArray) (hs : s.size ≤ 140737488351232) : Ev (fun k => digest_Sum.f k s) (dsum s.data.toList 14695981039346656037) := by
  have := sum_loop s hs s.size 0 14695981039346656037 (by omega)
  simpa [digest_Sum.f] using this
theorem mixp_ev (a b : Int) : Ev (fun _ => digest_Mix.f a b) (dnum b 8 (dnum a 8 14695981039346656037)) := ⟨0, fun _ _ => rfl⟩
/-- Bytes of a literal. -/
theorem rdOf_at (l : List ByteArray) (i : Nat) (h : i < l.length) : rdOf ByteArray.empty l (i : Int) = l[i] := by
  unfold rdOf
  simp [List.getD_eq_getElem?_getD, List.getElem?_eq_getElem h]
def dall (l : List ByteArray) (d : Int) : Int := l.foldl (fun d s => dnum (dsum s.data.toList 14695981039346656037) 8 (dnum d 8 14695981039346656037)) d
theorem dall_cons (s : ByteArray) (l : List ByteArray) (d : Int) : dall (s :: l) d = dall l (dnum (dsum s.data.toList 14695981039346656037) 8 (dnum d 8 14695981039346656037)) := by simp only [dall, List.foldl_cons]
def dlen (n : Nat) (d : Int) : Int := dnum (IntKind.u64.wrap (n : Int)) 8 (dnum d 8 14695981039346656037)
theorem all_loop (l : List ByteArray) (hl : l.length * 16 ≤ 140737488351232) (hs : ∀ s ∈ l, s.size ≤ 140737488351232) : ∀ (m i : Nat) (d : Int), i + m = l.length → Ev (fun k => digest_All.l0 k l d l (l.length : Int) (i : Int)) (dlen l.length (dall (l.drop i) d)) := by
  intro m
  induction m with
  | zero =>
    intro i d hi
    refine Ev.step (fun k => by rw [digest_All.l0, if_neg (by omega)]) ?_
    rw [List.drop_of_length_le (by omega)]
    simp only [digest_Mix.f, Option.bind_some, dall, List.foldl_nil, dlen]
    exact Ev.now _
  | succ m ih =>
    intro i d hi
    have hlt : i < l.length := by omega
    rw [List.drop_eq_getElem_cons hlt, dall_cons]
    refine Ev.step (fun k => by rw [digest_All.l0, if_pos (by omega), if_pos (by omega), if_pos (by omega), wrap_upI (n := l.length) (by omega) (by omega) (by omega), rdOf_at l i hlt]) ?_
    refine (sum_ev _ (hs _ (List.getElem_mem hlt))).bind ?_
    simp only [digest_Mix.f, Option.bind_some]
    exact ih (i + 1) _ (by omega)
theorem all_ev (l : List ByteArray) (hl : l.length * 16 ≤ 140737488351232) (hs : ∀ s ∈ l, s.size ≤ 140737488351232) : Ev (fun k => digest_All.f k l) (dlen l.length (dall l 14695981039346656037)) :=
  (sum_ev ⟨#[]⟩ (by decide)).bind (all_loop l hl hs l.length 0 _ (by omega))
theorem itoa_size (n : Int) (h0 : -9223372036854775808 ≤ n) (h1 : n ≤ 9223372036854775807) : (⟨(Lib.itoa n).toArray⟩ : ByteArray).size ≤ 21 := by
  have := Lib.itoa_length_le n h0 h1
  rw [← ba_len]
  simpa using this
theorem conflict_sum_ev (l : List ByteArray) (hl : l.length * 16 ≤ 140737488351232) (hs : ∀ s ∈ l, s.size ≤ 140737488351232) : Ev (fun k => conflict_sum.f k l) (dlen l.length (dall l 14695981039346656037)) := by
  unfold conflict_sum.f
  exact (all_ev l hl hs).bind (Ev.now _)
def keyS (c : S56) : Int := dlen 4 (dall [⟨(Lib.itoa c.f0).toArray⟩, c.f2, c.f3, c.f4] 14695981039346656037)
def FewC (c : S56) : Prop := (-9223372036854775808 ≤ c.f0 ∧ c.f0 ≤ 9223372036854775807) ∧ c.f2.size ≤ 1000000 ∧ c.f3.size ≤ 1000000 ∧ c.f4.size ≤ 1000000
theorem key_list (c : S56) (h : FewC c) : ∀ s ∈ [(⟨(Lib.itoa c.f0).toArray⟩ : ByteArray), c.f2, c.f3, c.f4], s.size ≤ 140737488351232 := by
  obtain ⟨h1, h2, h3, h4⟩ := h
  have hi := itoa_size c.f0 h1.1 h1.2
  intro s hs
  simp only [List.mem_cons, List.not_mem_nil, or_false] at hs
  rcases hs with rfl | rfl | rfl | rfl <;> omega
theorem conflict_key_ev (c : S56) (h : FewC c) : Ev (fun k => conflict_Key.f k c.f0 c.f1 c.f2 c.f3 c.f4) (keyS c) := by
  unfold conflict_Key.f keyS strconv_Itoa.f
  rw [if_pos h.1]
  simp only [Option.bind_some]
  exact (conflict_sum_ev [⟨(Lib.itoa c.f0).toArray⟩, c.f2, c.f3, c.f4] (by simp) (key_list c h)).bind (Ev.now _)

/-! ### Sets of whole numbers: a map with a bool -/
abbrev intE (a : Int) : Value := .int .i64 a
/-- The map of a list's elements. -/
def setM (l : List Int) : List (Int × Value) := l.foldl (fun m x => mput m x (.bool true)) []
theorem setM_snoc (l : List Int) (x : Int) : setM (l ++ [x]) = mput (setM l) x (.bool true) := by simp [setM]
theorem setM_look (s : Int) : ∀ (n : Nat) (l : List Int), l.length = n → mlook (setM l) s = if s ∈ l then some (.bool true) else none := by
  intro n
  induction n with
  | zero =>
    intro l hl
    rw [List.length_eq_zero_iff.1 hl]
    simp [setM, mlook]
  | succ n ih =>
    intro l hl
    obtain ⟨x, l', rfl⟩ : ∃ x l', l = l' ++ [x] := by
      rcases List.eq_nil_or_concat l with h | ⟨l', x, h⟩
      · rw [h] at hl; simp at hl
      · exact ⟨x, l', by rw [h, List.concat_eq_append]⟩
    rw [setM_snoc, mlook_put, ih l' (by simpa using hl)]
    by_cases h : s = x
    · subst h; simp
    · rw [if_neg h]
      have e : (s ∈ l' ++ [x]) ↔ s ∈ l' := by simp [h]
      by_cases h2 : s ∈ l'
      · rw [if_pos h2, if_pos (e.2 h2)]
      · rw [if_neg h2, if_neg (fun x => h2 (e.1 x))]
theorem setM_get (l : List Int) (s : Int) : (mlook (setM l) s).getD (.bool false) = .bool (decide (s ∈ l)) := by
  rw [setM_look s l.length l rfl]
  by_cases h : s ∈ l <;> simp [h]
theorem setM_some (l : List Int) (s : Int) : (mlook (setM l) s).isSome = decide (s ∈ l) := by
  rw [setM_look s l.length l rfl]
  by_cases h : s ∈ l <;> simp [h]
/-- A map is no row: what is written into a row leaves it. -/
theorem MapAt.ne_row {κ α : Type} {enc : κ → Value} {d : Kd α} {e base : Nat} {ok : Nat → Prop} {w : World} {b : Nat} {l : List (κ × Value)} {v : Value} {xs : List α} (h : MapAt enc w b l) (hR : d.R e w base ok v xs) : some b ≠ v.ownBlock := fun he => by
  obtain ⟨cells, hc⟩ := Kd.R_typed hR b he.symm
  obtain ⟨es, c, h1, _⟩ := h
  rw [h1] at hc
  cases hc
theorem MapAt.row {κ α : Type} {enc : κ → Value} {d : Kd α} {e base : Nat} {ok : Nat → Prop} {w w1 : World} {b : Nat} {l : List (κ × Value)} {v : Value} {xs : List α} (h : MapAt enc w b l) (hR : d.R e w base ok v xs) (hg : w.grownBy w1 v.ownBlock) : MapAt enc w1 b l := h.grown hg (MapAt.ne_row h hR)
/-- A row stays where a map is written. -/
theorem R_map {κ α : Type} {enc : κ → Value} {d : Kd α} {e base : Nat} {ok : Nat → Prop} {w w1 : World} {b : Nat} {l : List (κ × Value)} {v : Value} {xs : List α} (hR : d.R e w base ok v xs) (h : MapAt enc w b l) (hg : w.grownBy w1 (some b)) : d.R e w1 base ok v xs := by
  refine Kd.R_mono (Kd.R_grown (Kd.R_bound hR) hg (fun k hk he => ?_)) (fun k hk => hk.1)
  injection he with he
  subst he
  obtain ⟨_, _, _, q, _, cells, hc⟩ := hk
  obtain ⟨es, c, h1, _⟩ := h
  rw [h1] at hc
  cases hc

/-- What a book makes of conflicts: picks, and those that it does not resolve. -/
def picksGo (L : List S35) : List S56 → List S62 → List S56 → List S62 × List S56
  | [], p, o => (p, o)
  | c :: cs, p, o => match bookIn L (keyS c) with
    | none => picksGo L cs p (o ++ [c])
    | some d => if keyS c ∈ p.map (fun q => q.f0) then picksGo L cs p o else picksGo L cs (p ++ [⟨keyS c, d.f1⟩]) o
set_option maxHeartbeats 8000000 in
set_option maxRecDepth 100000 in
theorem decide_Book_Picks.calls (w : World) (hG : Glob w) (ok : Nat → Prop) (base b : Nat) (L : List S35) (hB : BookAt w ok base b L) (A1 : Option Addr) (c1 : Nat) (l1 : List S56) (hr1 : Kd.C k56 w A1 l1.length l1) (hl : l1.length ≤ 1000) (hz : ∀ c ∈ l1, FewC c) : Calls Tryd.prog 27 #[.pointer (some ⟨b, 0, none⟩), .slice A1 l1.length c1] w fun e w' => ∃ v0 v1, e = .returned (.tuple #[v0, v1]) ∧ k62.R 62 w' w.heap.size (fun _ => True) v0 (picksGo L l1 [] []).1 ∧ k56.R 56 w' w.heap.size (fun _ => True) v1 (picksGo L l1 [] []).2 ∧ Below w.heap.size w w' := by
  have HH := Aside0.mk (fun W (hb : Below w.heap.size w W) key => decide_Book_has.calls W ok base b L (hB.below hb) key)
  have HG := Aside0.mk (fun W (hb : Below w.heap.size w W) => Glob.below hb hG)
  obtain ⟨mb, v, ents, hb, hM, ⟨hE, hN⟩, hR, hne, hob, hom⟩ := hB.out
  have Hb := Aside0.mk hb
  have HE := Aside0.mk hE
  have HM := Aside0.mk hM
  have HC1 := Aside0.mk hr1
  have HZ := Aside0.mk hz
  obtain ⟨RES, hRES⟩ : ∃ R, R = picksGo L l1 [] [] := ⟨_, rfl⟩
  rw [← hRES]
  have HRES := Aside0.mk hRES
  clear hb hM hE hR hG hRES hz hne hob hom hN
  have hmm := @run_makeMap Tryd.prog
  have hu35 := Tryd.underlying35
  have hu62 := Tryd.underlying62
  go_enter Tryd.func27, Tryd.ntmps27
  go_wp2
  go_loopg [6, 7, 17] l1.length (fun gk v6 v7 v17 w' => ∃ (k : Nat) (P : List S62) (O : List S56), v17 = .int .i64 k ∧ k + gk = l1.length ∧ P.length ≤ k ∧ O.length ≤ k ∧ Aside0 (k62.R 62 w' w.heap.size (fun _ => True) v6 P) ∧ Aside0 (k56.R 56 w' w.heap.size (fun _ => True) v7 O) ∧ Aside0 (MapAt u64E w' w.heap.size (setM (P.map fun q => q.f0))) ∧ Aside0 (Below w.heap.size w w') ∧ Aside0 (picksGo L (l1.drop k) P O = RES))
  case atStart => exact ⟨0, [], [], rfl, by omega, Nat.le_refl _, Nat.le_refl _, ⟨Kd.R_nil _ _ _ _ _⟩, ⟨Kd.R_nil _ _ _ _ _⟩, ⟨MapAt.new u64E w⟩, ⟨below_alloc (Below.refl _ _) _⟩, ⟨HRES.out.symm⟩⟩
  case round =>
    obtain ⟨k, P, O, rfl, hk, hP, hO, HP, HO, HS, HB, HPG⟩ := hrel
    obtain ⟨go, rfl⟩ : ∃ go, go = gk := ⟨gk, rfl⟩
    have HK := Aside0.mk hk
    cases go with
    | succ g =>
      have hkl : k < l1.length := by omega
      have g1 : decide ((k : Int) < (l1.length : Int)) = true := decide_eq_true (by omega)
      have g2 : decide (k < l1.length) = true := decide_eq_true (by omega)
      have p12 : 0 ≤ (k : Int) := by omega
      have q12 : (k : Int) < (l1.length : Int) := by omega
      obtain ⟨ad, e, hx0, hx1, hx2, hx3, hx4⟩ := at_T56 (Kd.C_below HC1.out HB.out) (k : Int) p12 q12
      cases e
      have hrd : rd_T56 l1 (k : Int) = l1[k] := by simp [rd_T56, List.getD_eq_getElem?_getD, List.getElem?_eq_getElem hkl]
      rw [Int.toNat_natCast, hrd] at hx0 hx1 hx2 hx3 hx4
      have hpg := HPG.out
      rw [List.drop_eq_getElem_cons hkl, picksGo] at hpg
      have hfc := HZ.out l1[k] (List.getElem_mem hkl)
      obtain ⟨x, hxe⟩ : ∃ x, x = l1[k] := ⟨_, rfl⟩
      rw [← hxe] at hx0 hx1 hx2 hx3 hx4 hpg hfc
      obtain ⟨kk, hkk⟩ := (conflict_key_ev x hfc).rounds
      have HKK := Aside0.mk hkk
      have hwk : IntKind.i64.wrap ((k : Int) + 1) = (k : Int) + 1 := (i64_w _).trans (by unfold wrap64; omega)
      obtain ⟨key, hkey⟩ : ∃ key, key = keyS x := ⟨_, rfl⟩
      rw [← hkey] at hpg HKK
      obtain ⟨Ap, cp, ep⟩ := Kd.R_slice HP.out
      subst ep
      obtain ⟨Ao, co, eo⟩ := Kd.R_slice HO.out
      subst eo
      have hz : (wr.alloc (.cells #[.int .i64 0, .int .i64 0, .string ⟨#[]⟩, .string ⟨#[]⟩, .string ⟨#[]⟩] 56 (0, 0))).heap[wr.heap.size]? = some (.cells #[.int .i64 0, .int .i64 0, .string ⟨#[]⟩, .string ⟨#[]⟩, .string ⟨#[]⟩] 56 (0, 0)) := blk_new wr _
      have hz0 := (blk_cell hz 0).trans rfl
      have hz1 := (blk_cell hz 1).trans rfl
      have hz2 := (blk_cell hz 2).trans rfl
      have hz3 := (blk_cell hz 3).trans rfl
      have hz4 := (blk_cell hz 4).trans rfl
      have hf0 := blk_frozen hz 0
      have hf1 := blk_frozen hz 1
      have hf2 := blk_frozen hz 2
      have hf3 := blk_frozen hz 3
      have hf4 := blk_frozen hz 4
      have hc : (wr.alloc (.cells #[.int .i64 x.f0, .int .i64 x.f1, .string x.f2, .string x.f3, .string x.f4] 56 (0, 0))).heap[wr.heap.size]? = some (.cells #[.int .i64 x.f0, .int .i64 x.f1, .string x.f2, .string x.f3, .string x.f4] 56 (0, 0)) := blk_new wr _
      have HCB := Aside0.mk hc
      have hc0 := (blk_cell hc 0).trans rfl
      have hc1 := (blk_cell hc 1).trans rfl
      have hc2 := (blk_cell hc 2).trans rfl
      have hc3 := (blk_cell hc 3).trans rfl
      have hc4 := (blk_cell hc 4).trans rfl
      have HB1 := Aside0.mk (below_alloc HB.out (.cells #[.int .i64 x.f0, .int .i64 x.f1, .string x.f2, .string x.f3, .string x.f4] 56 (0, 0)))
      have hP5 : P.length < 8796093022208 := by omega
      have hO5 : O.length < 2199023255552 := by omega
      clear hk hrd hkk hfc hkey hz hc hxe
      cases hin : bookIn L key with
      | none =>
        rw [hin] at hpg
        have HPG2 := Aside0.mk hpg
        have HHK := Aside0.mk (fun W hb => HH.out W hb key)
        rw [hin] at HHK
        clear hpg hin
        go_wp2_with (first | (go_at_call 26; go_loud ((with_reducible refine (conflict_Key.calls kk _ _ _ _ _ _ _ (HG.out _ HB1.out) HKK.out).mono ?_); rintro e w2 ⟨rfl, hb2⟩; have HC2 := Aside0.mk (blk_below HCB.out hb2); have HB2 := Aside0.mk (below_step HB1.out hb2); have HX2 := Aside0.mk (below_step (below_alloc (Below.refl wr.heap.size wr) (.cells #[.int .i64 x.f0, .int .i64 x.f1, .string x.f2, .string x.f3, .string x.f4] 56 (0, 0))) hb2); clear hb2 hc0 hc1 hc2 hc3 hc4)) | (go_at_call 34; go_loud ((with_reducible refine (HHK.out _ HB2.out).mono ?_); rintro e w3 ⟨rfl, hb3⟩; have HC3 := Aside0.mk (blk_below HC2.out hb3); have HB3 := Aside0.mk (below_step HB2.out hb3); have hc0 := (blk_cell HC3.out 0).trans rfl; have hc1 := (blk_cell HC3.out 1).trans rfl; have hc2 := (blk_cell HC3.out 2).trans rfl; have hc3 := (blk_cell HC3.out 3).trans rfl; have hc4 := (blk_cell HC3.out 4).trans rfl; have HW3 := Aside0.mk (below_step HX2.out hb3); have HP3 := Aside0.mk (Kd.R_below HP.out HW3.out); have HO3 := Aside0.mk (Kd.R_below HO.out HW3.out); have HS3 := Aside0.mk (HS.out.below HW3.out); clear hb3)) | ((with_reducible refine gate_builtin (b := .append) (xs := #[.tmp 27, .tmp 29]) rfl ?_); at_builtin; refine Kd.R_append k56 (w0 := w) w.heap.size rfl (.tmp 27) (.tmp 29) 48 56 _ 64 rfl Tryd.underlying48 info56 rfl (by decide) (by omega) (.slice Ao O.length co) (O) x [.int .i64 x.f0, .int .i64 x.f1, .string x.f2, .string x.f3, .string x.f4] (fun _ => True) (fun _ => False) rfl rfl ?aP (fun _ hk => hk.elim) ?aF ?aO ?aB ?aS ?aL ?_; (case aP => exact k56_mkM _ _ _ x); (case aF => exact (fun _ _ => trivial)); (case aO => exact HO3.out); (case aB => exact HB3.out); (case aS => exact (below_size HB3.out)); (case aL => omega); intro v9 w9 ho hb hg hat; have HO9 := Aside0.mk ho; have HB9 := Aside0.mk hb; have HP9 := Aside0.mk (Kd.R_over' HP3.out (Kd.R_typed HO3.out) (by decide) hg); have HS9 := Aside0.mk (MapAt.row HS3.out HO3.out hg); clear ho hb hg hat))
        go_roundg g
        case measure => omega
        case rel => exact ⟨k + 1, P, O ++ [x], by go_num, by have := HK.out; omega, by omega, by rw [List.length_append, List.length_singleton]; omega, HP9, HO9, HS9, HB9, HPG2⟩
      | some d =>
        rw [hin] at hpg
        have HHK := Aside0.mk (fun W hb => HH.out W hb key)
        rw [hin] at HHK
        have hfl : ∀ W : World, (Instr.field 35 (.agg #[.int .u64 d.f0, .int .i64 d.f1, .string d.f2, .string d.f3]) 1).run Tryd.prog W = .ok (.int .i64 d.f1) W := fun W => rfl
        have HLD := Aside0.mk (show mlook ents key = some (.agg #[.int .u64 d.f0, .int .i64 d.f1, .string d.f2, .string d.f3]) by rw [HE.out, hin, Option.map_some, decV])
        by_cases hp : key ∈ P.map (fun q => q.f0)
        · have HPG2 := Aside0.mk (show picksGo L (l1.drop (k + 1)) P O = RES by rw [← hpg]; exact (if_pos hp).symm)
          have HLK := Aside0.mk (show (mlook (setM (P.map fun q => q.f0)) key).getD (.bool false) = .bool true by rw [setM_get, decide_eq_true hp])
          clear hpg hin hp
          go_wp2_with (first | (go_at_call 26; go_loud ((with_reducible refine (conflict_Key.calls kk _ _ _ _ _ _ _ (HG.out _ HB1.out) HKK.out).mono ?_); rintro e w2 ⟨rfl, hb2⟩; have HC2 := Aside0.mk (blk_below HCB.out hb2); have HB2 := Aside0.mk (below_step HB1.out hb2); have HX2 := Aside0.mk (below_step (below_alloc (Below.refl wr.heap.size wr) (.cells #[.int .i64 x.f0, .int .i64 x.f1, .string x.f2, .string x.f3, .string x.f4] 56 (0, 0))) hb2); clear hb2 hc0 hc1 hc2 hc3 hc4)) | (go_at_call 34; go_loud ((with_reducible refine (HHK.out _ HB2.out).mono ?_); rintro e w3 ⟨rfl, hb3⟩; have HC3 := Aside0.mk (blk_below HC2.out hb3); have HB3 := Aside0.mk (below_step HB2.out hb3); have hc0 := (blk_cell HC3.out 0).trans rfl; have hc1 := (blk_cell HC3.out 1).trans rfl; have hc2 := (blk_cell HC3.out 2).trans rfl; have hc3 := (blk_cell HC3.out 3).trans rfl; have hc4 := (blk_cell HC3.out 4).trans rfl; have HW3 := Aside0.mk (below_step HX2.out hb3); have HP3 := Aside0.mk (Kd.R_below HP.out HW3.out); have HO3 := Aside0.mk (Kd.R_below HO.out HW3.out); have HS3 := Aside0.mk (HS.out.below HW3.out); clear hb3)) | ((with_reducible refine wpList_lookup (z := .bool false) rfl _ _ rfl (KeyOk.int Tryd.underlying33) Tryd.underlying95 (by kernel_rfl) rfl HS3.out key rfl ?_); rw [HLK.out]))
          go_roundg g
          case measure => omega
          case rel => exact ⟨k + 1, P, O, by go_num, by have := HK.out; omega, by omega, by omega, HP3, HO3, HS3, HB3, HPG2⟩
        · have HPG2 := Aside0.mk (show picksGo L (l1.drop (k + 1)) (P ++ [⟨key, d.f1⟩]) O = RES by rw [← hpg]; exact (if_neg hp).symm)
          have HLK := Aside0.mk (show (mlook (setM (P.map fun q => q.f0)) key).getD (.bool false) = .bool false by rw [setM_get, decide_eq_false hp])
          clear hpg hin hp
          go_wp2_with (first | (go_at_call 26; go_loud ((with_reducible refine (conflict_Key.calls kk _ _ _ _ _ _ _ (HG.out _ HB1.out) HKK.out).mono ?_); rintro e w2 ⟨rfl, hb2⟩; have HC2 := Aside0.mk (blk_below HCB.out hb2); have HB2 := Aside0.mk (below_step HB1.out hb2); have HX2 := Aside0.mk (below_step (below_alloc (Below.refl wr.heap.size wr) (.cells #[.int .i64 x.f0, .int .i64 x.f1, .string x.f2, .string x.f3, .string x.f4] 56 (0, 0))) hb2); clear hb2 hc0 hc1 hc2 hc3 hc4)) | (go_at_call 34; go_loud ((with_reducible refine (HHK.out _ HB2.out).mono ?_); rintro e w3 ⟨rfl, hb3⟩; have HC3 := Aside0.mk (blk_below HC2.out hb3); have HB3 := Aside0.mk (below_step HB2.out hb3); have hc0 := (blk_cell HC3.out 0).trans rfl; have hc1 := (blk_cell HC3.out 1).trans rfl; have hc2 := (blk_cell HC3.out 2).trans rfl; have hc3 := (blk_cell HC3.out 3).trans rfl; have hc4 := (blk_cell HC3.out 4).trans rfl; have HW3 := Aside0.mk (below_step HX2.out hb3); have HP3 := Aside0.mk (Kd.R_below HP.out HW3.out); have HO3 := Aside0.mk (Kd.R_below HO.out HW3.out); have HS3 := Aside0.mk (HS.out.below HW3.out); clear hb3)) | ((with_reducible refine wpList_lookup (z := .bool false) rfl _ _ rfl (KeyOk.int Tryd.underlying33) Tryd.underlying95 (by kernel_rfl) rfl HS3.out key rfl ?_); rw [HLK.out]) | (with_reducible refine wpList_mapUpdate rfl _ _ _ rfl (KeyOk.int Tryd.underlying33) Tryd.underlying95 rfl HS3.out key rfl _ rfl ?_; intro w4 hm4 hg4; have HM4 := Aside0.mk hm4; have HB4 := Aside0.mk (HB3.out.grown hg4 (by have := HB3.out.size; omega) (fun j hj => by cases hj; exact Nat.le_refl _)); have HP4 := Aside0.mk (R_map HP3.out HS3.out hg4); have HO4 := Aside0.mk (R_map HO3.out HS3.out hg4); have HMB4 := Aside0.mk (HM.out.below HB4.out); have hbk4 := (book_cells (blk_below Hb.out HB4.out)).1; clear hm4 hg4) | ((with_reducible refine wpList_lookup (z := decZ) rfl _ _ rfl (KeyOk.int Tryd.underlying33) Tryd.underlying69 (by kernel_rfl) rfl HMB4.out key rfl ?_); rw [HLD.out]) | ((with_reducible refine gate_builtin (b := .append) (xs := #[.tmp 37, .tmp 47]) rfl ?_); at_builtin; refine Kd.R_append k62 (w0 := w) w.heap.size rfl (.tmp 37) (.tmp 47) 58 62 _ 16 rfl Tryd.underlying58 info62 rfl (by decide) (by omega) (.slice Ap P.length cp) (P) (⟨key, d.f1⟩ : S62) [.int .u64 key, .int .i64 d.f1] (fun _ => True) (fun _ => False) rfl rfl ?aP (fun _ hk => hk.elim) ?aF ?aO ?aB ?aS ?aL ?_; (case aP => exact k62_mkM _ _ _ (⟨key, d.f1⟩ : S62)); (case aF => exact (fun _ _ => trivial)); (case aO => exact HP4.out); (case aB => exact HB4.out); (case aS => exact (below_size HB4.out)); (case aL => omega); intro v9 w9 ho hb hg hat; have HO9 := Aside0.mk ho; have HB9 := Aside0.mk hb; have HQ9 := Aside0.mk (Kd.R_over' HO4.out (Kd.R_typed HP4.out) (by decide) hg); have HS9 := Aside0.mk (MapAt.row HM4.out HP4.out hg); clear ho hb hg hat))
          go_roundg g
          case measure => omega
          case rel => exact ⟨k + 1, P ++ [⟨key, d.f1⟩], O, by go_num, by have := HK.out; omega, by rw [List.length_append, List.length_singleton]; omega, by omega, HO9, HQ9, ⟨by rw [List.map_append, List.map_singleton, setM_snoc]; exact HS9.out⟩, HB9, HPG2⟩
    | zero =>
      have g1 : decide ((k : Int) < (l1.length : Int)) = false := decide_eq_false (by omega)
      have g2 : decide (k < l1.length) = false := decide_eq_false (by omega)
      have HE2 := Aside0.mk (show RES = (P, O) by rw [← HPG.out, List.drop_of_length_le (by omega), picksGo])
      clear hk
      go_wp2
      go_ret2
      exact ⟨_, _, rfl, by rw [HE2.out]; exact HP.out, by rw [HE2.out]; exact HO.out, HB.out⟩

def FewL (l : List S56) (n : Nat) : Prop := l.length ≤ n ∧ ∀ c ∈ l, c.f2.size ≤ 200 ∧ c.f3.size ≤ 200 ∧ c.f4.size ≤ 200
instance (l : List S56) (n : Nat) : Decidable (FewL l n) := inferInstanceAs (Decidable (_ ∧ _))
theorem few_no (l : List S56) (y : S56) (hy : y ∈ l) (c : ¬ (y.f2.size ≤ 200 ∧ y.f3.size ≤ 200 ∧ y.f4.size ≤ 200)) : false = decide (∀ x ∈ l, x.f2.size ≤ 200 ∧ x.f3.size ≤ 200 ∧ x.f4.size ≤ 200) := (decide_eq_false (fun q => c (q y hy))).symm
theorem few36_loop (L : List S56) (hl : L.length ≤ 1000000) : ∀ (g i : Nat), i + g = L.length → Ev (fun k => treemergelaw36_few.l0 k L (i : Int)) (decide (∀ c ∈ L.drop i, c.f2.size ≤ 200 ∧ c.f3.size ≤ 200 ∧ c.f4.size ≤ 200)) := by
  intro g
  induction g with
  | zero =>
    intro i hi
    rw [List.drop_of_length_le (by omega)]
    exact Ev.step (fun k => by rw [treemergelaw36_few.l0, if_neg (by omega)]; simp) (Ev.now _)
  | succ g ih =>
    intro i hi
    have hil : i < L.length := by omega
    have wu : wrap64 ((i : Int) + 1) = ((i + 1 : Nat) : Int) := by unfold wrap64; omega
    have hrd : rd_T56 L (i : Int) = L[i] := by simp [rd_T56, List.getD_eq_getElem?_getD, List.getElem?_eq_getElem hil]
    rw [List.drop_eq_getElem_cons hil]
    refine Ev.step (fun k => by rw [treemergelaw36_few.l0, if_pos (by omega), if_pos (by omega), hrd, wu]) ?_
    by_cases c2 : (L[i].f2.size : Int) > 200
    · exact Ev.pos c2 (Ev.cast (few_no _ L[i] List.mem_cons_self (by omega)) (Ev.now _))
    · refine Ev.neg c2 ?_
      by_cases c3 : (L[i].f3.size : Int) > 200
      · exact Ev.pos c3 (Ev.cast (few_no _ L[i] List.mem_cons_self (by omega)) (Ev.now _))
      · refine Ev.neg c3 ?_
        by_cases c4 : (L[i].f4.size : Int) > 200
        · exact Ev.pos c4 (Ev.cast (few_no _ L[i] List.mem_cons_self (by omega)) (Ev.now _))
        · refine Ev.neg c4 (Ev.cast ?_ (ih (i + 1) (by omega)))
          exact decide_eq_decide.2 ⟨fun h x hx => by rcases List.mem_cons.1 hx with e | hx; exact e ▸ ⟨by omega, by omega, by omega⟩; exact h x hx, fun h x hx => h x (List.mem_cons_of_mem _ hx)⟩
theorem few36_ev (L : List S56) (n : Nat) (hn : n ≤ 1000) (hl : L.length ≤ 140737488351232) : Ev (fun k => treemergelaw36_few.f k L (n : Int)) (decide (FewL L n)) := by
  unfold treemergelaw36_few.f FewL
  by_cases c : L.length ≤ n
  · refine Ev.neg (by omega) (Ev.cast ?_ (few36_loop L (by omega) L.length 0 (by omega)))
    simp [c]
  · exact Ev.pos (by omega) (Ev.cast (decide_eq_false (fun q => c q.1)).symm (Ev.now _))
def noneB (L : List S35) (c : S56) : Bool := (bookIn L (keyS c)).isNone
theorem picksGo_open (L : List S35) : ∀ (cs : List S56) (p : List S62) (o : List S56), (picksGo L cs p o).2 = o ++ cs.filter (noneB L)
  | [], p, o => by rw [picksGo]; simp
  | c :: cs, p, o => by
    rw [picksGo]
    cases h : bookIn L (keyS c) with
    | none =>
      dsimp only
      rw [picksGo_open L cs, List.filter_cons_of_pos (by unfold noneB; rw [h]; rfl)]
      simp
    | some d =>
      dsimp only
      rw [List.filter_cons_of_neg (by unfold noneB; rw [h]; simp)]
      split
      · exact picksGo_open L cs p o
      · exact picksGo_open L cs _ o
theorem picksGo_inv (L : List S35) : ∀ (cs : List S56) (p : List S62) (o : List S56), (p.map fun q => q.f0).Nodup → (∀ q ∈ p, ∃ d, bookIn L q.f0 = some d ∧ q.f1 = d.f1) →
    ((picksGo L cs p o).1.map fun q => q.f0).Nodup ∧ (∀ q ∈ (picksGo L cs p o).1, ∃ d, bookIn L q.f0 = some d ∧ q.f1 = d.f1) ∧ (∀ q ∈ p, q ∈ (picksGo L cs p o).1) ∧ (∀ c ∈ cs, (bookIn L (keyS c)).isSome = true → keyS c ∈ (picksGo L cs p o).1.map fun q => q.f0) ∧ (picksGo L cs p o).1.length ≤ p.length + cs.length
  | [], p, o, h1, h2 => by
    rw [picksGo]
    exact ⟨h1, h2, fun _ h => h, (fun _ h => by cases h), Nat.le_add_right _ _⟩
  | c :: cs, p, o, h1, h2 => by
    rw [picksGo]
    cases h : bookIn L (keyS c) with
    | none =>
      dsimp only
      obtain ⟨e1, e2, e3, e4, e5⟩ := picksGo_inv L cs p (o ++ [c]) h1 h2
      refine ⟨e1, e2, e3, fun x hx hs => ?_, by rw [List.length_cons]; omega⟩
      rcases List.mem_cons.1 hx with rfl | hx
      · rw [h] at hs
        cases hs
      · exact e4 x hx hs
    | some d =>
      dsimp only
      by_cases q : keyS c ∈ p.map (fun q => q.f0)
      · rw [if_pos q]
        obtain ⟨e1, e2, e3, e4, e5⟩ := picksGo_inv L cs p o h1 h2
        refine ⟨e1, e2, e3, fun x hx hs => ?_, by rw [List.length_cons]; omega⟩
        rcases List.mem_cons.1 hx with rfl | hx
        · obtain ⟨y, hy, ey⟩ := List.mem_map.1 q
          exact List.mem_map.2 ⟨y, e3 y hy, ey⟩
        · exact e4 x hx hs
      · rw [if_neg q]
        obtain ⟨e1, e2, e3, e4, e5⟩ := picksGo_inv L cs (p ++ [⟨keyS c, d.f1⟩]) o (by
          rw [List.map_append]
          exact List.nodup_append.2 ⟨h1, by simp, fun a ha b hb e => by simp at hb; exact q (by rw [← hb, ← e]; exact ha)⟩) (fun y hy => by
          rcases List.mem_append.1 hy with hy | hy
          · exact h2 y hy
          · rw [List.mem_singleton.1 hy]
            exact ⟨d, h, rfl⟩)
        refine ⟨e1, e2, fun y hy => e3 y (List.mem_append_left _ hy), fun x hx hs => ?_, by rw [List.length_append, List.length_singleton] at e5; rw [List.length_cons]; omega⟩
        rcases List.mem_cons.1 hx with rfl | hx
        · exact List.mem_map.2 ⟨_, e3 _ (List.mem_append_right _ (List.mem_singleton.2 rfl)), rfl⟩
        · exact e4 x hx hs
def cntP (P : List S62) (key side : Int) : Nat := (P.filter fun q => decide (q.f0 = key ∧ q.f1 = side)).length
theorem cntP_zero {P : List S62} {key side : Int} (h : ∀ q ∈ P, q.f0 ≠ key) : cntP P key side = 0 := by
  unfold cntP
  rw [List.filter_eq_nil_iff.2 (fun q hq => by simp; exact fun e => absurd e (h q hq))]
  rfl
theorem cntP_one : ∀ {P : List S62} {q : S62}, (P.map fun q => q.f0).Nodup → q ∈ P → cntP P q.f0 q.f1 = 1
  | [], q, _, h => by cases h
  | x :: P, q, hn, h => by
    have hc := List.nodup_cons.1 (show (x.f0 :: P.map fun q => q.f0).Nodup from hn)
    rcases List.mem_cons.1 h with e | h
    · subst e
      unfold cntP
      rw [List.filter_cons_of_pos (by simp), List.length_cons]
      have := cntP_zero (P := P) (key := q.f0) (side := q.f1) (fun y hy e => hc.1 (List.mem_map.2 ⟨y, hy, e⟩))
      unfold cntP at this
      omega
    · have := cntP_one hc.2 h
      unfold cntP at this ⊢
      rw [List.filter_cons_of_neg (by simp; exact fun e => absurd (List.mem_map.2 ⟨q, h, e.symm⟩) hc.1)]
      exact this
theorem cntP_snoc (P : List S62) (k : Nat) (h : k < P.length) (key side : Int) : cntP (P.take (k + 1)) key side = cntP (P.take k) key side + (if P[k].f0 = key ∧ P[k].f1 = side then 1 else 0) := by
  unfold cntP
  rw [List.take_succ_eq_append_getElem h, List.filter_append, List.length_append]
  congr 1
  by_cases c : P[k].f0 = key ∧ P[k].f1 = side
  · rw [if_pos c, List.filter_cons_of_pos (by simpa using c)]
    rfl
  · rw [if_neg c, List.filter_cons_of_neg (by simpa using c)]
    rfl
theorem picks_count (L : List S35) (cs : List S56) (c : S56) (hc : c ∈ cs) (d : S35) (h : bookIn L (keyS c) = some d) : cntP (picksGo L cs [] []).1 (keyS c) d.f1 = 1 := by
  obtain ⟨e1, e2, _, e4, _⟩ := picksGo_inv L cs [] [] List.nodup_nil (fun _ h => by cases h)
  obtain ⟨q, hq, eq⟩ := List.mem_map.1 (e4 c hc (by rw [h]; rfl))
  obtain ⟨d2, h2, h3⟩ := e2 q hq
  rw [eq, h] at h2
  have := cntP_one e1 hq
  rw [eq, h3, ← Option.some.inj h2] at this
  exact this
theorem picks_none (L : List S35) (cs : List S56) (c : S56) (side : Int) (h : bookIn L (keyS c) = none) : cntP (picksGo L cs [] []).1 (keyS c) side = 0 := by
  obtain ⟨e1, e2, _, e4, _⟩ := picksGo_inv L cs [] [] List.nodup_nil (fun _ h => by cases h)
  refine cntP_zero (fun q hq e => ?_)
  obtain ⟨d2, h2, h3⟩ := e2 q hq
  rw [e, h] at h2
  cases h2
theorem filter_at {α : Type} (p : α → Bool) (l : List α) (k : Nat) (h : k < l.length) (hp : p l[k] = true) : ∃ (hk : ((l.take k).filter p).length < (l.filter p).length), (l.filter p)[((l.take k).filter p).length] = l[k] := by
  have e : l.filter p = (l.take k).filter p ++ l[k] :: (l.drop (k + 1)).filter p := by
    conv => lhs; rw [← List.take_append_drop k l, List.drop_eq_getElem_cons h]
    rw [List.filter_append, List.filter_cons_of_pos hp]
  refine ⟨by rw [e]; simp, ?_⟩
  simp only [e]
  simp
theorem filter_snoc {α : Type} (p : α → Bool) (l : List α) (k : Nat) (h : k < l.length) : ((l.take (k + 1)).filter p).length = ((l.take k).filter p).length + (if p l[k] = true then 1 else 0) := by
  rw [List.take_succ_eq_append_getElem h, List.filter_append, List.length_append]
  congr 1
  by_cases c : p l[k] = true
  · rw [if_pos c, List.filter_cons_of_pos c]
    rfl
  · rw [if_neg c, List.filter_cons_of_neg c]
    rfl

def WfD (x : S35) : Prop := (Lit.int .u64 x.f0).wf = true ∧ (Lit.int .i64 x.f1).wf = true ∧ x.f2.size ≤ 140737488351232 ∧ x.f3.size ≤ 140737488351232
def WfC (x : S56) : Prop := (Lit.int .i64 x.f0).wf = true ∧ (Lit.int .i64 x.f1).wf = true ∧ x.f2.size ≤ 140737488351232 ∧ x.f3.size ≤ 140737488351232 ∧ x.f4.size ≤ 140737488351232
theorem fewC_of {c : S56} (h : WfC c) (h2 : c.f2.size ≤ 200 ∧ c.f3.size ≤ 200 ∧ c.f4.size ≤ 200) : FewC c := by
  have := bounds_i64 h.1
  exact ⟨⟨by omega, by omega⟩, by omega, by omega, by omega⟩

end Go.Proofs.YtfajgjmhfpabiaaDoor.Scratch
