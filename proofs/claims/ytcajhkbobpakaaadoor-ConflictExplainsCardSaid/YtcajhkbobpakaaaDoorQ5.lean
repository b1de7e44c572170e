-- Written by a program of this session (mk.py) out of the translation; Lean checks it.
import Derived.Test.YtcajhkbobpakaaaDoorQ0
import Derived.Test.YtcajhkbobpakaaaDoorQ1
namespace Go.Proofs.YtcajhkbobpakaaaDoor.Q
open Go.RowKit Go.Proofs.YtcajhkbobpakaaaDoorW.PrintWords Go.Proofs.YtcajhkbobpakaaaDoorW.PrintLast Go.Proofs.YtcajhkbobpakaaaDoorW.PrintMore
attribute [local go_sem] max2_int min2_int max_two min_two max_three min_three max_four min_four   -- for this text's walks alone
set_option linter.unusedVariables false
set_option linter.unusedSimpArgs false

/-! ### conflict_Order: function 19 (by hand) -/
def insC_ren : Go.Shelf.Ren := ⟨fun | 20 => 73 | n => n, fun | 24 => 23 | 22 => 36 | 3 => 3 | 25 => 64 | 4 => 4 | 0 => 0 | n => n, fun | n => n⟩
theorem insC : Go.Proofs.SlLaysF0.n20 Tryd.prog insC_ren := {
  mixed := by kernel_rfl
  f20 := ⟨Tryd.f73.name, by decide, Tryd.func73.trans (congrArg some (by kernel_rfl))⟩
  t0 := Tryd.underlying0
  a0 := Tryd.isAgg0
  z0 := Tryd.sizeOf0
  v0 := Tryd.zeroValue0
  t3 := Tryd.underlying3
  a3 := Tryd.isAgg3
  z3 := Tryd.sizeOf3
  v3 := Tryd.zeroValue3
  t4 := Tryd.underlying4
  a4 := Tryd.isAgg4
  z4 := Tryd.sizeOf4
  v4 := Tryd.zeroValue4
  t22 := Tryd.underlying36
  a22 := Tryd.isAgg36
  z22 := Tryd.sizeOf36
  v22 := Tryd.zeroValue36
  t25 := Tryd.underlying64
  a25 := Tryd.isAgg64
  z25 := Tryd.sizeOf64
  v25 := Tryd.zeroValue64 }
def contP_ren : Go.Shelf.Ren := ⟨fun | 8 => 46 | 6 => 64 | n => n, fun | 22 => 37 | 23 => 48 | 25 => 67 | 4 => 4 | 3 => 3 | 0 => 0 | n => n, fun | n => n⟩
theorem contP : Go.Proofs.SlLaysH0.n8 Tryd.prog contP_ren := {
  mixed := by kernel_rfl
  f6 := ⟨Tryd.f64.name, by decide, Tryd.func64.trans (congrArg some (by kernel_rfl))⟩
  f8 := ⟨Tryd.f46.name, by decide, Tryd.func46.trans (congrArg some (by kernel_rfl))⟩
  t0 := Tryd.underlying0
  a0 := Tryd.isAgg0
  z0 := Tryd.sizeOf0
  v0 := Tryd.zeroValue0
  t3 := Tryd.underlying3
  a3 := Tryd.isAgg3
  z3 := Tryd.sizeOf3
  v3 := Tryd.zeroValue3
  t4 := Tryd.underlying4
  a4 := Tryd.isAgg4
  z4 := Tryd.sizeOf4
  v4 := Tryd.zeroValue4
  t22 := Tryd.underlying37
  a22 := Tryd.isAgg37
  z22 := Tryd.sizeOf37
  v22 := Tryd.zeroValue37
  t25 := Tryd.underlying67
  a25 := Tryd.isAgg67
  z25 := Tryd.sizeOf67
  v25 := Tryd.zeroValue67 }

theorem stP : StP Tryd.prog 5 where
  mixed := by kernel_rfl
  f62 := Tryd.func62
  f74 := Tryd.func74
  f82 := Tryd.func82
  f88 := Tryd.func88
  t0 := Tryd.underlying0
  a0 := Tryd.isAgg0
  z0 := Tryd.sizeOf0
  v0 := Tryd.zeroValue0
  t3 := Tryd.underlying3
  a3 := Tryd.isAgg3
  z3 := Tryd.sizeOf3
  v3 := Tryd.zeroValue3
  t4 := Tryd.underlying4
  a4 := Tryd.isAgg4
  z4 := Tryd.sizeOf4
  v4 := Tryd.zeroValue4
  t36 := Tryd.underlying36
  a36 := Tryd.isAgg36
  z36 := Tryd.sizeOf36
  v36 := Tryd.zeroValue36
  t64 := Tryd.underlying64
  a64 := Tryd.isAgg64
  z64 := Tryd.sizeOf64
  v64 := Tryd.zeroValue64
  t92 := Tryd.underlying92
  a92 := Tryd.isAgg92
  z92 := Tryd.sizeOf92
  v92 := Tryd.zeroValue92
  aE := Tryd.isAgg23
  zE := Tryd.sizeOf23
instance : Inhabited S23 := ⟨z23⟩
def enc23 (x : S23) : List Value := [.int .i64 x.f0, .int .i64 x.f1, .string x.f2, .string x.f3, .string x.f4]
/-- cmp.Or of the two comparisons. -/
def ordC (x y : S23) : Int := if Lib.compareInt x.f1 y.f1 = 0 then Lib.compareInt x.f0 y.f0 else Lib.compareInt x.f1 y.f1
set_option maxHeartbeats 4000000 in
/-- cmp.Or of two numbers. -/
theorem Or_two (g : Nat) (a b : Int) (w : World) (h0 : w.cell? ⟨g, 0, none⟩ = some (.int .i64 a)) (h1 : w.cell? ⟨g, 1, none⟩ = some (.int .i64 b)) : Calls Tryd.prog 43 #[.slice (some ⟨g, 0, none⟩) 2 2] w fun e w' => e = .returned (.int .i64 (if a = 0 then b else a)) ∧ w' = w := by
  by_cases ha : a = 0
  · subst ha
    by_cases hb : b = 0
    · subst hb
      go_enter Tryd.func43, Tryd.ntmps43
      go_wp2
      go_loopg [5, 8] 2 (fun kx _ s8 wr => ∃ i : Nat, s8 = .int .i64 i ∧ i + kx = 2 ∧ wr = w)
      case atStart => exact ⟨0, rfl, rfl, rfl⟩
      case round =>
        obtain ⟨i, rfl, hi, rfl⟩ := hrel
        match i, hi with
        | 0, hi =>
          go_wp2
          go_roundg 1
          case measure => omega
          case rel => exact ⟨1, rfl, rfl, rfl⟩
        | 1, hi =>
          go_wp2
          go_roundg 0
          case measure => omega
          case rel => exact ⟨2, rfl, rfl, rfl⟩
        | 2, hi =>
          go_wp2
          go_ret
          exact ⟨rfl, rfl⟩
        | i + 3, hi => omega
    · have hb1 : (b == 0) = false := beq_eq_false_iff_ne.mpr hb
      have hb2 : (b != 0) = true := bne_iff_ne.mpr hb
      go_enter Tryd.func43, Tryd.ntmps43
      go_wp2
      go_loopg [5, 8] 2 (fun kx _ s8 wr => ∃ i : Nat, s8 = .int .i64 i ∧ i + kx = 2 ∧ i ≤ 1 ∧ wr = w)
      case atStart => exact ⟨0, rfl, rfl, by omega, rfl⟩
      case round =>
        obtain ⟨i, rfl, hi, hi1, rfl⟩ := hrel
        match i, hi, hi1 with
        | 0, hi, _ =>
          go_wp2
          go_roundg 1
          case measure => omega
          case rel => exact ⟨1, rfl, rfl, by omega, rfl⟩
        | 1, hi, _ =>
          go_wp2
          go_ret
          exact ⟨rfl, rfl⟩
  · have hb1 : (a == 0) = false := beq_eq_false_iff_ne.mpr ha
    have hb2 : (a != 0) = true := bne_iff_ne.mpr ha
    rw [if_neg ha]
    go_enter Tryd.func43, Tryd.ntmps43
    go_wp2
    go_loopg [5, 8] 2 (fun kx _ s8 wr => ∃ i : Nat, s8 = .int .i64 i ∧ i + kx = 2 ∧ i = 0 ∧ wr = w)
    case atStart => exact ⟨0, rfl, rfl, rfl, rfl⟩
    case round =>
      obtain ⟨i, rfl, hi, rfl, rfl⟩ := hrel
      go_wp2
      go_ret
      exact ⟨rfl, rfl⟩

set_option maxHeartbeats 4000000 in
set_option maxRecDepth 100000 in
/-- The comparison of conflict.Order. -/
theorem ord_closure (x y : S23) (W : World) : Calls Tryd.prog 42 #[.agg (enc23 x).toArray, .agg (enc23 y).toArray] W fun e w' => e = .returned (.int .i64 (ordC x y)) ∧ ∃ q os', w' = Go.Sort.grow (W.drewN q) os' := by
  have h1 := fun W' => Tryd.cmp_Compare_int x.f1 y.f1 W'
  have h0 := fun W' => Tryd.cmp_Compare_int x.f0 y.f0 W'
  have HO := Aside0.mk (fun (g : Nat) (w : World) (h0 : w.cell? ⟨g, 0, none⟩ = some (.int .i64 (Lib.compareInt x.f1 y.f1))) (h1 : w.cell? ⟨g, 1, none⟩ = some (.int .i64 (Lib.compareInt x.f0 y.f0))) => Or_two g _ _ w h0 h1)
  unfold ordC
  show Calls Tryd.prog _ #[.agg #[.int .i64 x.f0, .int .i64 x.f1, .string x.f2, .string x.f3, .string x.f4], .agg #[.int .i64 y.f0, .int .i64 y.f1, .string y.f2, .string y.f3, .string y.f4]] W _
  generalize Lib.compareInt x.f1 y.f1 = c1 at h1 HO ⊢
  generalize Lib.compareInt x.f0 y.f0 = c0 at h0 HO ⊢
  generalize (if c1 = 0 then c0 else c1) = rr at HO ⊢
  go_enter Tryd.func42, Tryd.ntmps42
  go_wp2
  have z10 : ((W.alloc (Obj.cells #[.int .i64 x.f0, .int .i64 x.f1, .string x.f2, .string x.f3, .string x.f4] 23)).alloc (Obj.cells #[.int .i64 y.f0, .int .i64 y.f1, .string y.f2, .string y.f3, .string y.f4] 23)).cell? ⟨W.heap.size, 0, none⟩ = some (.int .i64 x.f0) := by simp
  have z11 : ((W.alloc (Obj.cells #[.int .i64 x.f0, .int .i64 x.f1, .string x.f2, .string x.f3, .string x.f4] 23)).alloc (Obj.cells #[.int .i64 y.f0, .int .i64 y.f1, .string y.f2, .string y.f3, .string y.f4] 23)).cell? ⟨W.heap.size, 1, none⟩ = some (.int .i64 x.f1) := by simp
  have z20 : ((W.alloc (Obj.cells #[.int .i64 x.f0, .int .i64 x.f1, .string x.f2, .string x.f3, .string x.f4] 23)).alloc (Obj.cells #[.int .i64 y.f0, .int .i64 y.f1, .string y.f2, .string y.f3, .string y.f4] 23)).cell? ⟨W.heap.size + 1, 0, none⟩ = some (.int .i64 y.f0) := by simp
  have z21 : ((W.alloc (Obj.cells #[.int .i64 x.f0, .int .i64 x.f1, .string x.f2, .string x.f3, .string x.f4] 23)).alloc (Obj.cells #[.int .i64 y.f0, .int .i64 y.f1, .string y.f2, .string y.f3, .string y.f4] 23)).cell? ⟨W.heap.size + 1, 1, none⟩ = some (.int .i64 y.f1) := by simp
  have HW : Aside0 (∃ q os', (W.alloc (Obj.cells #[.int .i64 x.f0, .int .i64 x.f1, .string x.f2, .string x.f3, .string x.f4] 23)).alloc (Obj.cells #[.int .i64 y.f0, .int .i64 y.f1, .string y.f2, .string y.f3, .string y.f4] 23) = Go.Sort.grow (W.drewN q) os') := ⟨0, _, by rw [Go.Sort.alloc_eq_grow, Go.Sort.alloc_eq_grow, Go.Sort.grow_grow]; rfl⟩
  generalize ((W.alloc (Obj.cells #[.int .i64 x.f0, .int .i64 x.f1, .string x.f2, .string x.f3, .string x.f4] 23)).alloc (Obj.cells #[.int .i64 y.f0, .int .i64 y.f1, .string y.f2, .string y.f3, .string y.f4] 23)) = W2 at z10 z11 z20 z21 HW ⊢
  generalize W.heap.size = g0 at z10 z11 z20 z21 ⊢
  go_region_held3 (fun w' => w'.cell? ⟨g0, 0, none⟩ = some (.int .i64 x.f0) ∧ w'.cell? ⟨g0, 1, none⟩ = some (.int .i64 x.f1) ∧ w'.cell? ⟨g0 + 1, 0, none⟩ = some (.int .i64 y.f0) ∧ w'.cell? ⟨g0 + 1, 1, none⟩ = some (.int .i64 y.f1)) (first | go_keep) (first | (go_at_call 44; first | ((with_reducible refine (h1 _).mono ?_); rintro e w' ⟨rfl, rfl⟩) | ((with_reducible refine (h0 _).mono ?_); rintro e w' ⟨rfl, rfl⟩)) | (go_at_call 43; ((with_reducible refine (HO.out _ _ (by simp) (by simp)).mono ?_); rintro e w' ⟨rfl, rfl⟩)))
  go_wp2
  go_ret
  refine ⟨rfl, ?_⟩
  obtain ⟨q, os', hq⟩ := HW.out
  exact ⟨q + 1, _, by rw [hq, Go.Sort.alloc_eq_grow, Go.Sort.grow_grow]; exact (Go.Sort.drew_grow _ _).trans rfl⟩
theorem ord_lays (blk off size : Nat) (w : World) : CmpLays Tryd.prog 42 #[] enc23 5 ordC blk off size w := fun _ _ _ _ x y => ord_closure x y _
theorem compareInt_lt (a b : Int) : Lib.compareInt a b < 0 ↔ a < b := by
  unfold Lib.compareInt
  split
  · simp_all
  · split <;> simp_all
theorem compareInt_zero (a b : Int) : Lib.compareInt a b = 0 ↔ a = b := by
  unfold Lib.compareInt
  split
  · simp_all; omega
  · split <;> simp_all <;> omega
/-- The order: by f1, then by f0. -/
theorem ordC_lt (x y : S23) : ltOf ordC x y = decide (x.f1 < y.f1 ∨ x.f1 = y.f1 ∧ x.f0 < y.f0) := by
  unfold ltOf ordC
  rw [decide_eq_decide]
  split
  · rename_i h
    rw [compareInt_zero] at h
    rw [compareInt_lt]
    omega
  · rename_i h
    rw [compareInt_zero] at h
    rw [compareInt_lt]
    omega
theorem ordSWO : Go.Sort.SWO (ltOf ordC) where
  irrefl := fun x => by rw [ordC_lt]; exact decide_eq_false (by omega)
  trans := fun x y z h1 h2 => by
    rw [ordC_lt] at *
    have h1 := of_decide_eq_true h1
    have h2 := of_decide_eq_true h2
    exact decide_eq_true (by omega)
  ntrans := fun x y z h1 h2 => by
    rw [ordC_lt] at *
    have h1 := of_decide_eq_false h1
    have h2 := of_decide_eq_false h2
    exact decide_eq_false (by omega)
theorem enter_ord : ∀ args w, (callFunc 42 args).run Tryd.prog w = .ok (.enter 42 args) w := enters_of Tryd.func42 (by kernel_rfl) rfl
theorem enter_ins : ∀ args w, (callFunc 73 args).run Tryd.prog w = .ok (.enter 73 args) w := enters_of Tryd.func73 (by kernel_rfl) rfl
theorem enter_stable : ∀ args w, (callFunc 62 args).run Tryd.prog w = .ok (.enter 62 args) w := enters_of Tryd.func62 (by kernel_rfl) rfl
theorem rowK23 {w : World} {blk off : Nat} {d : Array S23} (hH : Go.Sort.HoldsK enc23 5 w blk off d) (hb : blk < w.heap.size) : RowK enc23 5 w blk off d := ⟨fun _ => rfl, fun x v hv => by simp [enc23] at hv; rcases hv with rfl | rfl | rfl | rfl | rfl <;> rfl, hH, hb⟩
theorem insAt (blk off cap : Nat) (d0 : Array S23) (w0 : World) (R : RowK enc23 5 w0 blk off d0) (hsz : d0.size < 1152921504606846976) : InsAt Tryd.prog enc23 5 (ltOf ordC) w0 blk off d0.size cap 42 #[] := by
  intro a b Pr X Sf W hS ha hb
  obtain ⟨d, hds, hl, S⟩ := hS
  have hsz2 := st_size hl
  simp only [List.length_append] at hsz2
  have hC : CmpLays Tryd.prog 42 #[] enc23 5 ordC blk off d.size W := ord_lays _ _ _ _
  have h := AnyQ.insertionSortCmpFunc insC 5 Tryd.isAgg23 Tryd.sizeOf23 enc23 R.hk R.h1 ordC 42 #[] blk off cap a b d W enter_ord hC (S.holds R.hblk R.hH hds) (S.lt R.hblk) (by omega) (by omega) (by omega)
  change Calls Tryd.prog 73 _ _ _ at h
  rw [hds] at h
  refine h.mono ?_
  rintro e w' ⟨rfl, n, os, rfl⟩
  have hl2 := st_insertion ordSWO a b d Pr X Sf ha.symm hb hl
  have hs2 : (Go.Sort.insertionSort (ltOf ordC) d a b).size = d.size := by rw [← Array.length_toList, hl2, hsz2]; simp only [List.length_append, stSrt_length]
  exact ⟨rfl, _, hs2.trans hds, hl2, S.on R.hblk n _ os hs2⟩
set_option maxHeartbeats 4000000 in
/-- slices.SortStableFunc of a row of conflicts. -/
theorem SortStable_calls (blk off cap : Nat) (d0 : Array S23) (w : World) (hH : Go.Sort.HoldsK enc23 5 w blk off d0) (hb : blk < w.heap.size) (hsz : d0.size < 1152921504606846976) :
    Calls Tryd.prog 41 #[.slice (some ⟨blk, off, none⟩) d0.size cap, .func (.func 42) #[] #[]] w fun e w' => e = .returned (.tuple #[]) ∧ StAt enc23 5 w blk off d0.size (stSrt (ltOf ordC) d0.toList) w' := by
  have R := rowK23 hH hb
  have hc := st_stable stP enc23 ordC 42 #[] blk off cap d0 w enter_ord (ord_lays _ _ _ _) ordSWO R hsz enter_ins (insAt blk off cap d0 w R hsz) w d0.toList ⟨d0, rfl, rfl, SWK.start hH⟩
  have HC := Aside0.mk hc
  clear hc hH R
  go_enter Tryd.func41, Tryd.ntmps41
  go_wp2_with (go_at_call 62; refine HC.out.mono ?_; rintro e w1 ⟨rfl, hs⟩; have HS := Aside0.mk hs; clear hs)
  go_end0
  exact ⟨rfl, HS.out⟩

theorem at_own {W : World} {g : Nat} {e : Nat} (h : W.heap[g]? = some (.cells #[] e (0, 0))) {base : Nat} (hb : base ≤ g) : Kd.R k23 e W base (fun _ => True) (.slice (some ⟨g, 0, none⟩) 0 0) ([] : List S23) :=
  ⟨fun _ _ => trivial, [], ⟨rfl, Or.inr ⟨g, 0, _, rfl, hb, h, Nat.le_refl _, Nat.zero_le _, rfl, rfl⟩⟩, ⟨rfl, fun j p hj => by simp at hj⟩⟩
set_option maxHeartbeats 4000000 in
set_option maxRecDepth 100000 in
theorem Clone_calls (A : Option Addr) (c : Nat) (l0 : List S23) (w : World) (hC : Kd.C k23 w A l0.length l0) (hc : l0.length ≤ c) (hn : l0.length ≤ 1000000) : Calls Tryd.prog 40 #[.slice A l0.length c] w fun e w' => ∃ v, e = .returned v ∧ Kd.R k23 23 w' w.heap.size (fun _ => True) v l0 ∧ Below w.heap.size w w' := by
  have HC := Aside0.mk hC
  have HN := Aside0.mk hn
  have q22 : ∀ (w : World) (a : Option Addr) (n c n' c' : Nat), (binOp .eql 36 (.slice a n c) (.slice none n' c')).run Tryd.prog w = .ok (.bool a.isNone) w := fun w a n c n' c' => Lib.run_eql_slice_nil w _ _ a n c n' c' Tryd.underlying36
  clear hC hn
  cases A with
  | none => 
    have h0 : l0 = [] := by
      have hC := HC.out
      rcases Nat.eq_zero_or_pos l0.length with h | h
      · exact List.length_eq_zero_iff.1 h
      · obtain ⟨ad, h, _⟩ := hC.2.2 h
        cases h
    subst h0
    go_enter Tryd.func40, Tryd.ntmps40
    go_wp2
    go_ret
    exact ⟨_, rfl, Kd.R_nil _ _ _ _ _, Below.refl _ _⟩
  | some ad =>
    have HROW := Aside0.mk (at_own (blk_new w (Obj.cells #[] 23)) (Nat.le_refl w.heap.size))
    have HCW := Aside0.mk (Kd.C_below HC.out (below_alloc (Below.refl w.heap.size w) (Obj.cells #[] 23)))
    have HBA := Aside0.mk (below_alloc (Below.refl w.heap.size w) (Obj.cells #[] 23))
    go_enter Tryd.func40, Tryd.ntmps40
    go_wp2_with ((with_reducible refine gate_builtin (b := .append) (xs := #[.tmp 5, .tmp 6]) rfl ?_); refine Kd.R_append_rows k23 (Rr := k23.K _) (w0 := w) w.heap.size rfl (.tmp 5) (.tmp 6) 36 23 (.agg #[(.int .i64 0), (.int .i64 0), (.string ⟨#[]⟩), (.string ⟨#[]⟩), (.string ⟨#[]⟩)]) 64 rfl Tryd.underlying36 info23 rfl (by decide) (by decide) _ [] l0 (some ad) l0.length c (fun _ => True) (fun _ => False) rfl rfl HROW.out HCW.out (fun x cs h => by rw [k23_open h]; exact k23_mkM _ _ _ _) (fun _ h => h.elim) (fun _ _ => trivial) HBA.out HBA.out.size (by have := HN.out; simp; omega) ?_; intro v7 w7 ho hb hg hat; have HO := Aside0.mk ho; have HBN := Aside0.mk hb; clear ho hb hg hat)
    go_ret
    exact ⟨_, rfl, by simpa using HO.out, HBN.out⟩

theorem reps23 {w : World} {base : Nat} {ok : Nat → Prop} {xs : List S23} {inner : List Value} (h : Reps (k23.M w base ok) 5 xs inner) (t : Nat) (ht : t < xs.length * 5) : inner[t]? = some (enc23 (xs.getD (t / 5) z23))[t % 5]! := by
  have hj : t / 5 < xs.length := by omega
  have hM := h.2 (t / 5) _ (List.getElem?_eq_getElem hj)
  have hcs := k23_openM hM
  have h1 : ((inner.drop (t / 5 * 5)).take 5)[t % 5]? = inner[t]? := by
    rw [List.getElem?_take_of_lt (Nat.mod_lt _ (by omega)), List.getElem?_drop]
    congr 1
    omega
  rw [← h1, hcs, List.getD_eq_getElem?_getD, List.getElem?_eq_getElem hj, Option.getD_some]
  have h5 : t % 5 < 5 := Nat.mod_lt _ (by omega)
  generalize t % 5 = r at h5
  match r, h5 with
  | 0, _ => rfl
  | 1, _ => rfl
  | 2, _ => rfl
  | 3, _ => rfl
  | 4, _ => rfl
theorem getD_arr (xs : List S23) (i : Nat) : xs.toArray[i]! = xs.getD i z23 := by
  rw [getElem!_def, List.getElem?_toArray, List.getD_eq_getElem?_getD]
  cases xs[i]? <;> rfl
theorem holds_of_R {W : World} {base g n cap : Nat} {ok : Nat → Prop} {xs : List S23} (h : Kd.R k23 23 W base ok (.slice (some ⟨g, 0, none⟩) n cap) xs) : Go.Sort.HoldsK enc23 5 W g 0 xs.toArray ∧ g < W.heap.size ∧ base ≤ g ∧ n = xs.length := by
  obtain ⟨_, inner, ⟨hlen, hor⟩, hr⟩ := h
  rcases hor with ⟨hv, _⟩ | ⟨g', cap', cur, hv, hb, hh, hnc, hcm, hcs, htk⟩
  · cases hv
  simp only [Value.slice.injEq, Option.some.injEq, Addr.mk.injEq, and_true] at hv
  obtain ⟨rfl, rfl, rfl⟩ := hv
  refine ⟨fun t ht => ?_, (Array.getElem?_eq_some_iff.mp hh).1, hb, rfl⟩
  rw [Go.Sort.size_flatK, List.size_toArray] at ht
  have h1 := reps23 hr t ht
  have h2 : cur[t]? = inner[t]? := by
    have : inner[t]? = (cur.toList.take (xs.length * 5))[t]? := by rw [← htk]; rfl
    rw [this, List.getElem?_take_of_lt ht, Array.getElem?_toList]
  refine ⟨?_, by rw [Nat.zero_add]; exact blk_frozen hh _⟩
  rw [Nat.zero_add, blk_cell hh, h2, h1, Go.Sort.get_flatK _ _ _ _ (by rw [List.size_toArray]; exact ht), getD_arr]
  rfl
theorem R_of_StAt {W W' : World} {base g n cap : Nat} {xs l : List S23} (h : Kd.R k23 23 W base (fun _ => True) (.slice (some ⟨g, 0, none⟩) n cap) xs) (hS : StAt enc23 5 W g 0 xs.length l W') (hl : l.length = xs.length) : Kd.R k23 23 W' base (fun _ => True) (.slice (some ⟨g, 0, none⟩) n cap) l ∧ W.grownBy W' (some g) := by
  obtain ⟨_, inner, ⟨hlen, hor⟩, hr⟩ := h
  rcases hor with ⟨hv, _⟩ | ⟨g', cap', cur, hv, hb, hh, hnc, hcm, hcs, htk⟩
  · cases hv
  simp only [Value.slice.injEq, Option.some.injEq, Addr.mk.injEq, and_true] at hv
  obtain ⟨rfl, rfl, rfl⟩ := hv
  obtain ⟨dk, hds, hdl, m, os, rfl⟩ := hS
  subst hdl
  have hlt := (Array.getElem?_eq_some_iff.mp hh).1
  have hheap : ∀ j, j < W.heap.size → (sortWorldK enc23 5 W g 0 m dk os).heap[j]? = if j = g then some (.cells (Go.Sort.putCells id 0 (Go.Sort.flatK enc23 5 dk) cur) 23 (0, 0)) else W.heap[j]? := by
    intro j hj
    unfold sortWorldK Go.Sort.grow Go.Sort.putRowK Go.Sort.putRow Go.Sort.mapBlock Go.Sort.ahead
    show (W.heap.modify g _ ++ os)[j]? = _
    rw [Array.getElem?_append_left (by simpa using hj), Array.getElem?_modify]
    by_cases hjg : g = j
    · subst hjg
      rw [if_pos rfl, if_pos rfl, hh]
      rfl
    · rw [if_neg hjg, if_neg (Ne.symm hjg)]
  have hsz : W.heap.size ≤ (sortWorldK enc23 5 W g 0 m dk os).heap.size := size_sortWorldK_c enc23 5 W g 0 m dk os
  refine ⟨⟨fun _ _ => trivial, (Go.Sort.flatK enc23 5 dk).toList, ⟨?_, Or.inr ⟨g, cap, _, by rw [hl], hb, by rw [hheap g hlt, if_pos rfl], by rw [hl]; exact hnc, hcm, ?_, ?_⟩⟩, ?_, ?_⟩, ?_⟩
  · rw [Array.length_toList, Go.Sort.size_flatK, Array.length_toList]; rfl
  · unfold Go.Sort.putCells; rw [Array.size_mapIdx]; exact hcs
  · have h5 : k23.sz = 5 := rfl
    rw [h5] at hcs ⊢
    rw [hl]
    apply List.ext_getElem?
    intro t
    rcases Nat.lt_or_ge t (xs.length * 5) with ht | ht
    · have htc : t < cur.size := by rw [hcs]; omega
      rw [List.getElem?_take_of_lt ht, Array.getElem?_toList, Array.getElem?_toList]
      unfold Go.Sort.putCells
      rw [Array.getElem?_mapIdx, Array.getElem?_eq_getElem htc, Option.map_some, if_pos ⟨Nat.zero_le _, by rw [Go.Sort.size_flatK, hds]; omega⟩, Nat.sub_zero]
      have ht2 : t < (Go.Sort.flatK enc23 5 dk).size := by rw [Go.Sort.size_flatK, hds]; exact ht
      rw [getElem!_pos (Go.Sort.flatK enc23 5 dk) t ht2, Array.getElem?_eq_getElem ht2]
      rfl
    · rw [List.getElem?_eq_none (by rw [List.length_take]; omega), List.getElem?_eq_none (by rw [Array.length_toList, Go.Sort.size_flatK, hds]; exact ht)]
  · rw [Array.length_toList, Go.Sort.size_flatK, Array.length_toList]; rfl
  · intro j p hj
    have h5 : k23.sz = 5 := rfl
    rw [h5]
    have hjl := (List.getElem?_eq_some_iff.1 hj).1
    have hjs : j < dk.size := by simpa using hjl
    have hp : dk[j]! = p := by
      rw [Array.getElem?_toList] at hj
      rw [getElem!_def, hj]
    have : ((Go.Sort.flatK enc23 5 dk).toList.drop (j * 5)).take 5 = enc23 p := by
      apply List.ext_getElem?
      intro t
      rcases Nat.lt_or_ge t 5 with ht | ht
      · have hb2 : j * 5 + t < dk.size * 5 := by omega
        have hb3 : j * 5 + t < (Go.Sort.flatK enc23 5 dk).size := by rw [Go.Sort.size_flatK]; exact hb2
        have hg := Go.Sort.get_flatK enc23 5 dk (j * 5 + t) hb2
        rw [List.getElem?_take_of_lt ht, List.getElem?_drop, Array.getElem?_toList, Array.getElem?_eq_getElem hb3, ← getElem!_pos (Go.Sort.flatK enc23 5 dk) _ hb3, hg, show (j * 5 + t) / 5 = j by omega, show (j * 5 + t) % 5 = t by omega, hp]
        match t, ht with
        | 0, _ => rfl
        | 1, _ => rfl
        | 2, _ => rfl
        | 3, _ => rfl
        | 4, _ => rfl
      · rw [List.getElem?_eq_none (by rw [List.length_take]; omega), List.getElem?_eq_none (by show (enc23 p).length ≤ t; exact ht)]
    rw [this]
    exact k23_mkM _ _ _ _
  · refine ⟨rfl, rfl, rfl, hsz, fun k hk hne => ?_⟩
    rw [hheap k hk, if_neg (fun h => hne (by rw [h]))]
set_option maxHeartbeats 4000000 in
theorem ins_nil (c : Nat) (fv : Value) (w : World) : Calls Tryd.prog 73 #[.slice none 0 c, .int .i64 0, .int .i64 0, fv] w fun e w' => e = .returned (.tuple #[]) ∧ w' = w := by
  go_enter Tryd.func73, Tryd.ntmps73
  go_wp2
  go_loopg [8] 0 (fun kx s8 wr => s8 = .int .i64 1 ∧ wr = w)
  case atStart => exact ⟨rfl, rfl⟩
  case round =>
    obtain ⟨rfl, rfl⟩ := hrel
    go_wp2
    go_end0
    exact ⟨rfl, rfl⟩
set_option maxHeartbeats 4000000 in
theorem stable_nil (c : Nat) (fv : Value) (w : World) : Calls Tryd.prog 62 #[.slice none 0 c, .int .i64 0, fv] w fun e w' => e = .returned (.tuple #[]) ∧ w' = w := by
  have H := Aside0.mk (fun W => ins_nil c fv W)
  go_enter Tryd.func62, Tryd.ntmps62
  go_wp2
  go_loopg [7, 8] 0 (fun kx s7 s8 wr => s7 = .int .i64 0 ∧ s8 = .int .i64 20 ∧ Aside0 (wr = w))
  case atStart => exact ⟨rfl, rfl, ⟨rfl⟩⟩
  case round =>
    obtain ⟨rfl, rfl, HW⟩ := hrel
    go_wp2_with (go_at_call 73; refine (H.out _).mono ?_; rintro e w1 ⟨rfl, hw1⟩; have HW1 := Aside0.mk (hw1.trans HW.out); clear hw1)
    go_loopg [6, 7, 8, 9] 0 (fun kx s6 s7 s8 s9 wr2 => s6 = .int .i64 20 ∧ Aside0 (wr2 = w))
    case atStart => exact ⟨rfl, HW1⟩
    case round =>
      obtain ⟨rfl, HW2⟩ := hrel
      go_wp2
      go_end0
      exact ⟨rfl, HW2.out⟩
set_option maxHeartbeats 4000000 in
theorem SortStable_nil (c : Nat) (fv : Value) (w : World) : Calls Tryd.prog 41 #[.slice none 0 c, fv] w fun e w' => e = .returned (.tuple #[]) ∧ w' = w := by
  have H := Aside0.mk (fun W => stable_nil c fv W)
  go_enter Tryd.func41, Tryd.ntmps41
  go_wp2_with (go_at_call 62; refine (H.out _).mono ?_; rintro e w1 ⟨rfl, rfl⟩)
  go_end0
  exact ⟨rfl, rfl⟩
/-- SortStableFunc of a row of the call's own. -/
theorem SortStable_row {w0 W : World} {base : Nat} {v : Value} {xs : List S23} (h : Kd.R k23 23 W base (fun _ => True) v xs) (hb0 : Below base w0 W) (hbase : base ≤ w0.heap.size) (hn : xs.length ≤ 1000000) :
    Calls Tryd.prog 41 #[v, .func (.func 42) #[] #[]] W fun e w' => e = .returned (.tuple #[]) ∧ Kd.R k23 23 w' base (fun _ => True) v (stSrt (ltOf ordC) xs) ∧ Below base w0 w' := by
  obtain ⟨A, c, rfl⟩ := Kd.R_slice h
  have hcase : (A = none ∧ xs = [] ∧ c = 0) ∨ ∃ g, A = some ⟨g, 0, none⟩ := by
    obtain ⟨_, inner, ⟨hlen, hor⟩, hr⟩ := h
    rcases hor with ⟨hv, h0⟩ | ⟨g', cap', cur, hv, _⟩
    · simp only [Value.slice.injEq] at hv
      exact Or.inl ⟨hv.1, List.length_eq_zero_iff.1 h0, hv.2.2⟩
    · simp only [Value.slice.injEq] at hv
      exact Or.inr ⟨g', hv.1⟩
  rcases hcase with ⟨rfl, rfl, rfl⟩ | ⟨g, rfl⟩
  · refine (SortStable_nil 0 _ W).mono ?_
    rintro e w' ⟨rfl, rfl⟩
    exact ⟨rfl, h, hb0⟩
  · obtain ⟨hH, hlt, hbg, _⟩ := holds_of_R h
    have hc := SortStable_calls g 0 c xs.toArray W hH hlt (by rw [List.size_toArray]; omega)
    rw [List.size_toArray] at hc
    refine hc.mono ?_
    rintro e w' ⟨rfl, hS⟩
    have hl : (stSrt (ltOf ordC) xs).length = xs.length := stSrt_length _ _
    have hS' : StAt enc23 5 W g 0 xs.length (stSrt (ltOf ordC) xs) w' := by simpa using hS
    obtain ⟨hR, hg⟩ := R_of_StAt h hS' hl
    exact ⟨rfl, hR, hb0.grown hg (Nat.le_trans hbase hb0.size) (by intro k hk; simp at hk; omega)⟩
set_option maxHeartbeats 4000000 in
set_option maxRecDepth 100000 in
/-- conflict.Order sorts, equals in their order. -/
theorem Order_calls (A : Option Addr) (c : Nat) (l0 : List S23) (w : World) (hC : Kd.C k23 w A l0.length l0) (hc : l0.length ≤ c) (hn : l0.length ≤ 1000000) : Calls Tryd.prog 19 #[.slice A l0.length c] w fun e w' => ∃ v, e = .returned v ∧ Kd.R k23 23 w' w.heap.size (fun _ => True) v (stSrt (ltOf ordC) l0) ∧ Below w.heap.size w w' := by
  have HN := Aside0.mk hn
  have HCL := Aside0.mk (fun (W : World) (hW : W = w) => Clone_calls A c l0 w hC hc hn)
  have HC1 := Aside0.mk (Clone_calls A c l0 w hC hc hn)
  clear hC hn
  go_enter Tryd.func19, Tryd.ntmps19
  go_wp2_with (first | (go_at_call 40; refine HC1.out.mono ?_; rintro e w1 ⟨v, rfl, hR, hB⟩; have HR := Aside0.mk hR; have HB := Aside0.mk hB; clear hR hB) | (go_at_call 41; refine (SortStable_row HR.out HB.out (Nat.le_refl _) HN.out).mono ?_; rintro e w2 ⟨rfl, hR2, hB2⟩; have HR2 := Aside0.mk hR2; have HB2 := Aside0.mk hB2; clear hR2 hB2))
  go_ret
  exact ⟨_, rfl, HR2.out, HB2.out⟩

def conflict_Order.f (l0 : List (S23)) : Option (List (S23)) := if l0.length ≤ 1000000 then some (stSrt (ltOf ordC) l0) else none
theorem conflict_Order.calls (A0 : Option Addr) (c0 : Nat) (l0 : List (S23)) (r : List (S23)) (w : World) (hr0 : Kd.C k23 w A0 l0.length l0) (hc0 : l0.length ≤ c0) (h : conflict_Order.f l0 = some r) :
    Calls Tryd.prog 19 #[.slice A0 l0.length c0] w fun e w' => ∃ v0_ : Value, e = .returned (v0_) ∧ Kd.R k23 23 w' w.heap.size (fun _ => True) v0_ r ∧ Below w.heap.size w w' := by
  unfold conflict_Order.f at h
  split at h
  case isFalse => cases h
  rename_i hn
  obtain rfl := Option.some.inj h
  exact Order_calls A0 c0 l0 w hr0 hc0 hn

/-! ### conflict_Open: function 21 (by hand) -/
def enc48 (x : S48) : List Value := [.int .u64 x.f0, .int .i64 x.f1]
instance : Inhabited S48 := ⟨z48⟩
/-- A pick decides a key. -/
def pickP (key : Int) (p : S48) : Bool := decide (p.f0 = key) && (decide (p.f1 = 1) || decide (p.f1 = 2))
set_option maxHeartbeats 2000000 in
/-- The predicate of conflict.Open. -/
theorem open_pred (key : Int) (B : Nat) (w : World) (hB : B < w.heap.size) (hcell : w.cell? ⟨B, 0, none⟩ = some (.int .u64 key)) :
    PredBelow Tryd.prog 47 #[.pointer (some ⟨B, 0, none⟩)] (fun x => .agg (enc48 x).toArray) (pickP key) w := fun W x hb => by
  have hc : W.cell? ⟨B, 0, none⟩ = some (.int .u64 key) := (hb.cell (p := ⟨B, 0, none⟩) hB).trans hcell
  have hBW : B < W.heap.size := Nat.lt_of_lt_of_le hB hb.size
  have hne : B ≠ W.heap.size := by omega
  show Calls Tryd.prog 47 #[.agg #[.int .u64 x.f0, .int .i64 x.f1], .pointer (some ⟨B, 0, none⟩)] W _
  have HB := Aside0.mk hb
  clear hcell hb
  by_cases c1 : x.f0 = key
  · have e1 : (x.f0 == key) = true := beq_iff_eq.mpr c1
    by_cases c2 : x.f1 = 1
    · have e2 : (x.f1 == 1) = true := beq_iff_eq.mpr c2
      have hp : pickP key x = true := by unfold pickP; simp [c1, c2]
      rw [hp]
      clear hp c1 c2
      go_enter Tryd.func47, Tryd.ntmps47
      go_wp2
      go_ret
      exact ⟨rfl, HB.out.alloc HB.out.size _⟩
    · have e2 : (x.f1 == 1) = false := beq_eq_false_iff_ne.mpr c2
      by_cases c3 : x.f1 = 2
      · have e3 : (x.f1 == 2) = true := beq_iff_eq.mpr c3
        have hp : pickP key x = true := by unfold pickP; simp [c1, c3]
        rw [hp]
        clear hp c1 c2 c3
        go_enter Tryd.func47, Tryd.ntmps47
        go_wp2
        go_ret
        exact ⟨rfl, HB.out.alloc HB.out.size _⟩
      · have e3 : (x.f1 == 2) = false := beq_eq_false_iff_ne.mpr c3
        have hp : pickP key x = false := by unfold pickP; simp [c2, c3]
        rw [hp]
        clear hp c1 c2 c3
        go_enter Tryd.func47, Tryd.ntmps47
        go_wp2
        go_ret
        exact ⟨rfl, HB.out.alloc HB.out.size _⟩
  · have e1 : (x.f0 == key) = false := beq_eq_false_iff_ne.mpr c1
    have hp : pickP key x = false := by unfold pickP; simp [c1]
    rw [hp]
    clear hp c1
    go_enter Tryd.func47, Tryd.ntmps47
    go_wp2
    go_ret
    exact ⟨rfl, HB.out.alloc HB.out.size _⟩
theorem enter_open1 : ∀ args w, (callFunc 47 args).run Tryd.prog w = .ok (.enter 47 args) w := enters_of Tryd.func47 (by kernel_rfl) rfl
set_option maxHeartbeats 2000000 in
theorem index_nil (A : Option Addr) (c : Nat) (fv : Value) (w : World) : Calls Tryd.prog 64 #[.slice A 0 c, fv] w fun e w' => e = .returned (.int .i64 (-1)) ∧ w' = w := by
  go_enter Tryd.func64, Tryd.ntmps64
  go_wp2
  go_loopg [5, 8] 0 (fun kx s5 s8 wr => s8 = .int .i64 0 ∧ Aside0 (wr = w))
  case atStart => exact ⟨rfl, ⟨rfl⟩⟩
  case round =>
    obtain ⟨rfl, HW⟩ := hrel
    go_wp2
    go_ret
    exact ⟨rfl, HW.out⟩
set_option maxHeartbeats 2000000 in
theorem contains_nil (A : Option Addr) (c : Nat) (fv : Value) (w : World) : Calls Tryd.prog 46 #[.slice A 0 c, fv] w fun e w' => e = .returned (.bool false) ∧ w' = w := by
  have H := Aside0.mk (fun W => index_nil A c fv W)
  go_enter Tryd.func46, Tryd.ntmps46
  go_wp2_with (go_at_call 64; refine (H.out _).mono ?_; rintro e w1 ⟨rfl, rfl⟩)
  go_ret
  exact ⟨rfl, rfl⟩
/-- slices.ContainsFunc at the picks. -/
theorem contains_calls (A : Option Addr) (c : Nat) (ps : List S48) (key : Int) (B : Nat) (w : World) (hC : Kd.C k48 w A ps.length ps) (hn : ps.length ≤ 1000000) (hB : w.cell? ⟨B, 0, none⟩ = some (.int .u64 key)) : Calls Tryd.prog 46 #[.slice A ps.length c, .func (.func 47) #[] #[.pointer (some ⟨B, 0, none⟩)]] w fun e w' => e = .returned (.bool (ps.any (pickP key))) ∧ Below w.heap.size w w' := by
  have hBl : B < w.heap.size := World.block_lt_of_cell? w _ hB
  cases ps with
  | nil =>
    refine (contains_nil A c _ w).mono ?_
    rintro e w' ⟨rfl, rfl⟩
    exact ⟨rfl, Below.refl _ _⟩
  | cons x l =>
    obtain ⟨ad, hA, hc⟩ := hC.2.2 (Nat.succ_pos _)
    obtain ⟨cs0, _, hk0, hi0⟩ := hc 0 x rfl
    obtain rfl := k48_open hk0
    have h00 := hi0 0 _ rfl
    obtain ⟨b, off, sp⟩ := ad
    have hsp : sp = none := by
      cases sp with
      | none => rfl
      | some s =>
        exfalso
        rw [World.cell?] at h00
        simp [Addr.add] at h00
        split at h00 <;> simp_all
    subst hsp
    have hbw : b < w.heap.size := World.block_lt_of_cell? w _ h00
    have h := AnyQ.slices_ContainsFunc contP 2 Tryd.isAgg48 Tryd.sizeOf48 enc48 (fun _ => rfl) (pickP key) 47 #[.pointer (some ⟨B, 0, none⟩)] enter_open1 b off (x :: l).length c (x :: l) w (open_pred key B w hBl hB) (Nat.le_refl _) (by omega) hbw (fun j hj i v hv => by
      obtain ⟨cs, _, hk, hi⟩ := hc j _ (List.getElem?_eq_getElem hj)
      obtain rfl := k48_open hk
      have := hi i v (by
        rw [getElem!_pos (x :: l) j hj] at hv
        exact hv)
      rw [Addr.add_lit] at this
      rw [Nat.add_assoc]
      exact this)
    change Calls Tryd.prog 46 _ _ _ at h
    rw [List.take_length] at h
    subst hA
    exact h
def openL (k : Nat) (ps : List S48) : List S23 → List S23 → Option (List S23)
  | [], out => some out
  | c :: l, out => (conflict_Key.f k c.f0 c.f1 c.f2 c.f3 c.f4).bind fun key => openL k ps l (if ps.any (pickP key) = true then out else out ++ [c])
def conflict_Open.f (k : Nat) (l0 : List S23) (l1 : List S48) : Option (List S23) := if l0.length ≤ 1000000 ∧ l1.length ≤ 1000000 then openL k l1 l0 [] else none
theorem openL_length (k : Nat) (ps : List S48) : ∀ (l out r : List S23), openL k ps l out = some r → r.length ≤ out.length + l.length := by
  intro l
  induction l with
  | nil => intro out r h; obtain rfl := Option.some.inj h; simp
  | cons c l ih =>
    intro out r h
    obtain ⟨key, _, h⟩ := Option.bind_eq_some_iff.1 h
    have := ih _ _ h
    split at this <;> simp at * <;> omega
set_option maxHeartbeats 8000000 in
set_option maxRecDepth 100000 in
theorem conflict_Open.calls (k : Nat) (A0 : Option Addr) (c0 : Nat) (l0 : List (S23)) (A1 : Option Addr) (c1 : Nat) (l1 : List (S48)) (r : List (S23)) (w : World) (hr0 : Kd.C k23 w A0 l0.length l0) (hc0 : l0.length ≤ c0) (hr1 : Kd.C k48 w A1 l1.length l1) (hc1 : l1.length ≤ c1) (hG : Glob w) (h : conflict_Open.f k l0 l1 = some r) :
    Calls Tryd.prog 21 #[.slice A0 l0.length c0, .slice A1 l1.length c1] w fun e w' => ∃ v0_ : Value, e = .returned (v0_) ∧ Kd.R k23 23 w' w.heap.size (fun _ => True) v0_ r ∧ Below w.heap.size w w' := by
  unfold conflict_Open.f at h
  split at h
  case isFalse => cases h
  rename_i hn
  have hu23 := Tryd.underlying23
  have HN := Aside0.mk hn
  have HR0 := Aside0.mk hr0
  have HR1 := Aside0.mk hr1
  have HG := Aside0.mk hG
  have H0 := Aside0.mk h
  clear hr0 hr1 hG h hn
  go_enter Tryd.func21, Tryd.ntmps21
  go_wp2
  go_loopg [5, 7, 8, 11] l0.length (fun kx v5 v7 v8 v11 w' => ∃ (j : Nat) (out : List S23), v11 = .int .i64 j ∧ j + kx = l0.length ∧ Aside0 (openL k l1 (l0.drop j) out = some r) ∧ Aside0 (out.length ≤ j) ∧ Aside0 (Kd.R k23 23 w' w.heap.size (fun _ => True) v5 out) ∧ Aside0 (Below w.heap.size w w'))
  case atStart => exact ⟨0, [], rfl, by omega, ⟨by rw [List.drop_zero]; exact H0.out⟩, ⟨Nat.le_refl _⟩, ⟨Kd.R_nil _ _ _ _ _⟩, ⟨Below.refl _ _⟩⟩
  case round =>
    clear H0
    obtain ⟨j, out, rfl, hj, HL, HOL, HO, HB⟩ := hrel
    obtain ⟨go, rfl⟩ : ∃ go, go = gk := ⟨gk, rfl⟩
    cases go with
    | zero =>
      have g1 : decide ((j : Int) < (l0.length : Int)) = false := decide_eq_false (by omega)
      have g2 : decide (j < l0.length) = false := decide_eq_false (by omega)
      have HL2 := Aside0.mk (show out = r by have h := HL.out; rw [List.drop_of_length_le (by omega)] at h; exact Option.some.inj h)
      clear hj
      go_wp2
      go_ret
      exact ⟨_, rfl, by rw [← HL2.out]; exact HO.out, HB.out⟩
    | succ g =>
      have hjl : j < l0.length := by omega
      have g1 : decide ((j : Int) < (l0.length : Int)) = true := decide_eq_true (by omega)
      have g2 : decide (j < l0.length) = true := decide_eq_true hjl
      have g3 : (j < l0.length) = True := eq_true hjl
      obtain ⟨ad, hA, q0, q1, q2, q3, q4⟩ := at_T23 HR0.out (j : Int) (by omega) (by omega)
      rw [Int.toNat_natCast] at q0 q1 q2 q3 q4
      replace q0 := pw_cell_below HB.out q0
      replace q1 := pw_cell_below HB.out q1
      replace q2 := pw_cell_below HB.out q2
      replace q3 := pw_cell_below HB.out q3
      replace q4 := pw_cell_below HB.out q4
      subst hA
      obtain ⟨x, hx⟩ : ∃ x, x = rd_T23 l0 (j : Int) := ⟨_, rfl⟩
      have hd : l0.drop j = x :: l0.drop (j + 1) := by
        rw [List.drop_eq_getElem_cons hjl, hx]
        unfold rd_T23
        rw [Int.toNat_natCast, List.getD_eq_getElem?_getD, List.getElem?_eq_getElem hjl, Option.getD_some]
      rw [← hx] at q0 q1 q2 q3 q4
      have hl := HL.out
      rw [hd] at hl
      obtain ⟨key, hkey, hl⟩ := Option.bind_eq_some_iff.1 hl
      have HKEY := Aside0.mk hkey
      have HJ := Aside0.mk hj
      clear hx hd hkey HL hj hjl
      obtain ⟨x0, x1, x2, x3, x4⟩ := x
      have HB0 := Aside0.mk HB.out.size
      cases hp : l1.any (pickP key) with
      | true =>
        rw [hp, if_pos rfl] at hl
        have HP := Aside0.mk hp
        have HL := Aside0.mk hl
        clear hp hl
        go_wp2_with (first
          | (go_at_call 11; go_loud ((with_reducible refine (conflict_Key.calls k x0 x1 x2 x3 x4 key _ (HG.out.below (below_alloc HB.out _)) HKEY.out).mono ?_); rintro e w1 ⟨rfl, hb1⟩; have HBK := Aside0.mk (blk_below (blk_new wr (Obj.cells #[.int .i64 x0, .int .i64 x1, .string x2, .string x3, .string x4] 23)) hb1); have HO1 := Aside0.mk (Kd.R_below (Kd.R_alloc HO.out _) hb1); have HB1 := Aside0.mk (below_step (below_alloc HB.out _) hb1); clear hb1))
          | (go_at_call 46; go_loud ((with_reducible refine (contains_calls A1 c1 l1 key w1.heap.size _ (Kd.C_below HR1.out (below_alloc HB1.out _)) HN.out.2 (by simp)).mono ?_); rintro e w2 ⟨he, hb2⟩; rw [HP.out] at he; subst he; have HO2 := Aside0.mk (Kd.R_below (Kd.R_alloc HO1.out _) hb2); have HB2 := Aside0.mk (below_step (below_alloc HB1.out _) hb2); have BK2 := Aside0.mk (blk_below (blk_alloc HBK.out _) hb2); clear hb2)))
        go_roundg g
        case measure => omega
        case rel => exact ⟨j + 1, out, by have := HJ.out; have := HN.out; exact congrArg (Value.int .i64) (show wrap64 ((j : Int) + 1) = ((j + 1 : Nat) : Int) from by unfold wrap64; omega), by have := HJ.out; omega, HL, ⟨by have := HOL.out; omega⟩, HO2, HB2⟩
      | false =>
        rw [hp, if_neg (by decide)] at hl
        have HP := Aside0.mk hp
        have HL := Aside0.mk hl
        clear hp hl
        go_wp2_with (first
          | (go_at_call 11; go_loud ((with_reducible refine (conflict_Key.calls k x0 x1 x2 x3 x4 key _ (HG.out.below (below_alloc HB.out _)) HKEY.out).mono ?_); rintro e w1 ⟨rfl, hb1⟩; have HBK := Aside0.mk (blk_below (blk_new wr (Obj.cells #[.int .i64 x0, .int .i64 x1, .string x2, .string x3, .string x4] 23)) hb1); have HO1 := Aside0.mk (Kd.R_below (Kd.R_alloc HO.out _) hb1); have HB1 := Aside0.mk (below_step (below_alloc HB.out _) hb1); clear hb1))
          | (go_at_call 46; go_loud ((with_reducible refine (contains_calls A1 c1 l1 key w1.heap.size _ (Kd.C_below HR1.out (below_alloc HB1.out _)) HN.out.2 (by simp)).mono ?_); rintro e w2 ⟨he, hb2⟩; rw [HP.out] at he; subst he; have HO2 := Aside0.mk (Kd.R_below (Kd.R_alloc HO1.out _) hb2); have HB2 := Aside0.mk (below_step (below_alloc HB1.out _) hb2); have BK2 := Aside0.mk (blk_below (blk_alloc HBK.out _) hb2); clear hb2; have z0 := (blk_cell BK2.out 0).trans rfl; have z1 := (blk_cell BK2.out 1).trans rfl; have z2 := (blk_cell BK2.out 2).trans rfl; have z3 := (blk_cell BK2.out 3).trans rfl; have z4 := (blk_cell BK2.out 4).trans rfl))
          | ((with_reducible refine gate_builtin (b := .append) (xs := #[.tmp 21, .tmp 23]) rfl ?_); at_builtin; refine Kd.R_append k23 (w0 := w) w.heap.size rfl (.tmp 21) (.tmp 23) 36 23 (.agg #[(.int .i64 0), (.int .i64 0), (.string ⟨#[]⟩), (.string ⟨#[]⟩), (.string ⟨#[]⟩)]) 64 rfl Tryd.underlying36 info23 rfl (by decide) (by omega) _ out (⟨x0, x1, x2, x3, x4⟩ : S23) [.int .i64 x0, .int .i64 x1, .string x2, .string x3, .string x4] (fun _ => True) (fun _ => False) rfl rfl (k23_mkM _ _ _ (⟨x0, x1, x2, x3, x4⟩ : S23)) (fun _ hk => hk.elim) (fun _ _ => trivial) HO2.out HB2.out HB2.out.size (by have := HOL.out; have := HN.out; have := HJ.out; omega) ?_; intro v24 w4 ho hb hg hat; have HO3 := Aside0.mk ho; have HB3 := Aside0.mk hb; clear ho hb hg hat))
        go_roundg g
        case measure => omega
        case rel => exact ⟨j + 1, out ++ [⟨x0, x1, x2, x3, x4⟩], by have := HJ.out; have := HN.out; exact congrArg (Value.int .i64) (show wrap64 ((j : Int) + 1) = ((j + 1 : Nat) : Int) from by unfold wrap64; omega), by have := HJ.out; omega, HL, ⟨by have := HOL.out; rw [List.length_append]; simp; omega⟩, HO3, HB3⟩

theorem openL_mono (k : Nat) (ps : List S48) : ∀ (l out : List S23), LeO (openL k ps l out) (openL (k + 1) ps l out) := by
  intro l
  induction l with
  | nil => intro out; exact LeO.refl _
  | cons c l ih => intro out; exact LeO.bnd (conflict_Key.mono _ _ _ _ _ _) (fun _ => ih _)
theorem conflict_Open.mono : ∀ a0 a1 k, LeO (conflict_Open.f k a0 a1) (conflict_Open.f (k + 1) a0 a1) := by
  intro a0 a1 k
  unfold conflict_Open.f
  exact LeO.ifs (openL_mono _ _ _ _) (LeO.refl _)

end Go.Proofs.YtcajhkbobpakaaaDoor.Q
