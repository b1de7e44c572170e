-- Written by a program of this session (mk.py) out of the translation; Lean checks it.
import Derived.Test.YtcajhkbobpakaaaDoorQ0
import Derived.Test.YtcajhkbobpakaaaDoorQ1
import Derived.Test.YtcajhkbobpakaaaDoorQ2
import Derived.Test.YtcajhkbobpakaaaDoorQ3
namespace Go.Proofs.YtcajhkbobpakaaaDoor.Q
open Go.RowKit Go.Proofs.YtcajhkbobpakaaaDoorW.PrintWords Go.Proofs.YtcajhkbobpakaaaDoorW.PrintLast Go.Proofs.YtcajhkbobpakaaaDoorW.PrintMore
attribute [local go_sem] max2_int min2_int max_two min_two max_three min_three max_four min_four   -- for this text's walks alone
set_option linter.unusedVariables false
set_option linter.unusedSimpArgs false

/-! ### conflict_Explain: function 15 (by hand) -/
theorem append_step {P : Program} {ops : Array Oper} {rest : List Oper} {o : Oper} {a : Act} {Q : Exit → Act → World → Prop} {W : World} (hgd : o.guard = none) (s x : Operand) (t t' : TypeId) (ho : o.op = .call { callee := .builtin .append, args := #[s, x], argTypes := #[t, t'] }) (v1 v2 v : Value) (w1 : World) (hs : a.eval s = v1) (hx : a.eval x = v2) (hr : (Builtin.append_ #[t, t'] o.type #[v1, v2]).run P W = .ok v w1) (h : wpList P ops Q rest (a.put o.dst v) w1) : wpList P ops Q (o :: rest) a W := by
  refine Kd.event_run hgd (v := v) ?_ h
  unfold execOp
  simp only [ho, resolve, invoke, builtin, Sem.run_bind, Sem.run_pure, Result.andThen_ok, List.map_toArray, List.map_cons, List.map_nil, hs, hx, hr]
set_option maxHeartbeats 8000000 in
set_option maxRecDepth 100000 in
theorem Grow_nil (n : Nat) (w : World) (h0 : 0 < n) (hn : n ≤ 1000000) : Calls Tryd.prog 57 #[.slice none 0 0, .int .i64 (n : Int)] w fun e w' => ∃ v, e = .returned v ∧ Kd.R Kd.string 9 w' w.heap.size (fun _ => True) v ([] : List ByteArray) ∧ Below w.heap.size w w' := by
  have hi9 := info9
  obtain ⟨i0, hi, hzz⟩ := Option.map_eq_some_iff.1 hi9
  simp only [Prod.mk.injEq] at hzz
  obtain ⟨hz0, hz1, hz2⟩ := hzz
  have hr := Aside0.mk (fun W : World => Lib.run_append_nil_zeros (P := Tryd.prog) W 28 3 28 9 i0 (.string ⟨#[]⟩) .i64 .i64 Tryd.underlying28 Tryd.underlying3 hi hz0 n h0 (by omega) (by omega) (by rw [hz2]; omega))
  have e1 : decide ((n : Int) < 0) = false := decide_eq_false (by omega)
  have e2 : decide ((n : Int) > 0) = true := decide_eq_true (by omega)
  have e3 : decide ((0 : Int) < (n : Int)) = true := decide_eq_true (by omega)
  have e4 : decide (0 < n) = true := decide_eq_true (by omega)
  have e5 : IntKind.i64.wrap (n : Int) = (n : Int) := (i64_w _).trans (by unfold wrap64; omega)
  clear hi9 hi hz0 hz1 hz2
  go_enter Tryd.func57, Tryd.ntmps57
  go_wp2_with ((with_reducible refine gate_builtin (b := .append) (xs := #[.tmp 20, .tmp 21]) rfl ?_); refine append_step rfl _ _ _ _ rfl _ _ _ _ rfl rfl (hr.out _) ?_)
  go_ret
  have hge := grownCap_ge w n 0 9
  have hle := grownCap_le_maxLen w n 0 9 (Nat.le_trans hn (by decide))
  refine ⟨_, rfl, ⟨fun _ _ => trivial, [], ⟨rfl, Or.inr ⟨w.heap.size, _, _, rfl, Nat.le_refl _, heap_alloc_new _ _, Nat.zero_le _, hle, ?_, rfl⟩⟩, Reps.none _ _⟩, below_drew1 (below_alloc (Below.refl _ _) _)⟩
  rw [Array.size_append, size_zeroCells, size_zeroCells, ← Nat.add_mul, Nat.add_sub_cancel' hge]
  rfl

def rd_LS (xs : List (List ByteArray)) (i : Int) : (List ByteArray) := xs.getD i.toNat ([] : List ByteArray)
theorem at_LS {w : World} {A : Option Addr} {n : Nat} {xs : List (List ByteArray)} (h : Kd.C (Kd.slice 9 Kd.string) w A n xs) (i : Int) (h0 : 0 ≤ i) (h1 : i < n) : ∃ ad A0 c0, A = some ad ∧ w.cell? (ad.add i.toNat) = some (.slice A0 (rd_LS xs i).length c0) ∧ (rd_LS xs i).length ≤ c0 ∧ Kd.string.C w A0 (rd_LS xs i).length (rd_LS xs i) := by
  obtain ⟨ad, c, e, _, hK, hc0⟩ := Kd.C_get h ([] : List ByteArray) i h0 h1
  have hc : ∀ j u, c[j]? = some u → w.cell? (ad.add (i.toNat * 1 + j)) = some u := hc0
  obtain ⟨A0, c0, rfl, l0, g0⟩ := hK
  exact ⟨ad, A0, c0, e, by have hq := hc 0 _ rfl; rwa [Nat.mul_one, Nat.add_zero] at hq, l0, g0⟩
theorem sum_take_le (xss : List (List ByteArray)) (j : Nat) : ((xss.take j).flatten).length ≤ xss.flatten.length := by
  conv => rhs; rw [← List.take_append_drop j xss, List.flatten_append, List.length_append]
  omega
theorem rd_LS_take (xss : List (List ByteArray)) (j : Nat) (h : j < xss.length) : (xss.take (j + 1)).flatten = (xss.take j).flatten ++ rd_LS xss (j : Int) := by
  rw [List.take_add_one, List.flatten_append, List.getElem?_eq_getElem h]
  unfold rd_LS
  rw [Int.toNat_natCast, List.getD_eq_getElem?_getD, List.getElem?_eq_getElem h]
  simp
set_option maxHeartbeats 8000000 in
set_option maxRecDepth 100000 in
theorem Concat_calls (A : Option Addr) (c : Nat) (xss : List (List ByteArray)) (w : World) (hC : Kd.C (Kd.slice 9 Kd.string) w A xss.length xss) (h0 : 0 < xss.flatten.length) (hn : xss.flatten.length ≤ 1000000) (hm : xss.length ≤ 1000) : Calls Tryd.prog 34 #[.slice A xss.length c] w fun e w' => ∃ v, e = .returned v ∧ Kd.R Kd.string 9 w' w.heap.size (fun _ => True) v xss.flatten ∧ Below w.heap.size w w' := by
  have HC := Aside0.mk hC
  have H0 := Aside0.mk h0
  have HN := Aside0.mk hn
  have HM := Aside0.mk hm
  clear hC h0 hn hm
  go_enter Tryd.func34, Tryd.ntmps34
  go_wp2
  go_loopg [3, 11] xss.length (fun gk v3 v11 w' => ∃ (j : Nat), v3 = .int .i64 (((xss.take j).flatten.length : Nat) : Int) ∧ v11 = .int .i64 j ∧ j + gk = xss.length ∧ Aside0 (Below w.heap.size w w'))
  case atStart => exact ⟨0, rfl, rfl, by omega, ⟨Below.refl _ _⟩⟩
  case round =>
    obtain ⟨j, rfl, rfl, hj, HB⟩ := hrel
    obtain ⟨go, rfl⟩ : ∃ go, go = gk := ⟨gk, rfl⟩
    cases go with
    | succ g =>
      have hjl : j < xss.length := by omega
      have g1 : decide ((j : Int) < (xss.length : Int)) = true := decide_eq_true (by omega)
      have g2 : decide (j < xss.length) = true := decide_eq_true hjl
      have g3 : (j < xss.length) = True := eq_true hjl
      obtain ⟨ad, B, d, hA, q0, m0, G0⟩ := at_LS HC.out (j : Int) (by omega) (by omega)
      rw [Int.toNat_natCast] at q0
      replace q0 := pw_cell_below HB.out q0
      subst hA
      have hs := rd_LS_take xss j hjl
      have hle := sum_take_le xss (j + 1)
      rw [hs, List.length_append] at hle
      have hN := HN.out
      have hs2 : (xss.take (j + 1)).flatten.length = (xss.take j).flatten.length + (rd_LS xss (j : Int)).length := by rw [hs, List.length_append]
      have hw : IntKind.i64.wrap ((((xss.take j).flatten.length : Nat) : Int) + (((rd_LS xss (j : Int)).length : Nat) : Int)) = (((xss.take (j + 1)).flatten.length : Nat) : Int) := (i64_w _).trans (by rw [hs2]; unfold wrap64; omega)
      have hw0 : decide ((((xss.take (j + 1)).flatten.length : Nat) : Int) < 0) = false := decide_eq_false (by omega)
      have HJ := Aside0.mk hj
      clear hs hs2 hle hN m0 G0 hj hjl
      obtain ⟨S1, hS1⟩ : ∃ S1, (xss.take (j + 1)).flatten.length = S1 := ⟨_, rfl⟩
      rw [hS1] at hw hw0
      have HS1 := Aside0.mk hS1
      clear hS1
      generalize ((xss.take j).flatten.length : Nat) = S0 at hw ⊢
      generalize (rd_LS xss (j : Int)).length = L0 at hw q0
      go_wp2
      go_roundg g
      case measure => omega
      case rel => exact ⟨j + 1, by rw [HS1.out], by have := HJ.out; have := HM.out; exact congrArg (Value.int .i64) (show wrap64 ((j : Int) + 1) = ((j + 1 : Nat) : Int) from by unfold wrap64; omega), by have := HJ.out; omega, HB⟩
    | zero =>
      have g1 : decide ((j : Int) < (xss.length : Int)) = false := decide_eq_false (by omega)
      have g2 : decide (j < xss.length) = false := decide_eq_false (by omega)
      obtain ⟨S, hS⟩ : ∃ S, xss.flatten.length = S := ⟨_, rfl⟩
      rw [List.take_of_length_le (show xss.length ≤ j by omega), hS]
      have HSp := Aside0.mk (show 0 < S by rw [← hS]; exact H0.out)
      have HSn := Aside0.mk (show S ≤ 1000000 by rw [← hS]; exact HN.out)
      clear hj hS
      go_wp2_with (go_at_call 57; go_loud ((with_reducible refine (Grow_nil S _ HSp.out HSn.out).mono ?_); rintro e w3 ⟨v6, rfl, hR3, hb3⟩; have HR := Aside0.mk (Kd.R_lower hR3 HB.out.size); have n0_ := Aside0.mk (below_step HB.out hb3); clear HB; have HB := n0_; clear n0_ hR3 hb3))
      go_loopg [6, 27] xss.length (fun gk v6 v27 w' => ∃ (j : Nat), v27 = .int .i64 j ∧ j + gk = xss.length ∧ Aside0 (Kd.R Kd.string 9 w' w.heap.size (fun _ => True) v6 (xss.take j).flatten) ∧ Aside0 (Below w.heap.size w w'))
      case atStart => exact ⟨0, rfl, by omega, ⟨by rw [List.take_zero, List.flatten_nil]; exact HR.out⟩, HB⟩
      case round =>
        clear HR HB g1 g2
        obtain ⟨j, rfl, hj, HR, HB⟩ := hrel
        obtain ⟨go, rfl⟩ : ∃ go, go = gk := ⟨gk, rfl⟩
        cases go with
        | zero =>
          have g1 : decide ((j : Int) < (xss.length : Int)) = false := decide_eq_false (by omega)
          have g2 : decide (j < xss.length) = false := decide_eq_false (by omega)
          have HR2 := Aside0.mk (show Kd.R Kd.string 9 _ w.heap.size (fun _ => True) _ xss.flatten by have := HR.out; rwa [List.take_of_length_le (show xss.length ≤ j by omega)] at this)
          clear hj
          go_wp2
          go_ret
          exact ⟨_, rfl, HR2.out, HB.out⟩
        | succ g =>
          have hjl : j < xss.length := by omega
          have g1 : decide ((j : Int) < (xss.length : Int)) = true := decide_eq_true (by omega)
          have g2 : decide (j < xss.length) = true := decide_eq_true hjl
          have g3 : (j < xss.length) = True := eq_true hjl
          obtain ⟨ad, B, d, hA, q0, m0, G0⟩ := at_LS HC.out (j : Int) (by omega) (by omega)
          rw [Int.toNat_natCast] at q0
          replace q0 := pw_cell_below HB.out q0
          subst hA
          have hs := rd_LS_take xss j hjl
          have hle := sum_take_le xss (j + 1)
          rw [hs, List.length_append] at hle
          have HLE := Aside0.mk hle
          have HS := Aside0.mk hs
          have HJ := Aside0.mk hj
          have HG0 := Aside0.mk (Kd.C_below G0 HB.out)
          obtain ⟨L0, hL0⟩ : ∃ L0, rd_LS xss (j : Int) = L0 := ⟨_, rfl⟩
          rw [hL0] at q0 HG0 HLE HS
          clear hs hle m0 G0 hj hjl hL0
          go_wp2_with ((with_reducible refine gate_builtin (b := .append) (xs := #[.tmp 31, .tmp 32]) rfl ?_); refine Kd.R_append_row Value.string (⟨#[]⟩ : ByteArray) (h1 := fun _ => rfl) (w0 := w) w.heap.size rfl (.tmp 31) (.tmp 32) 28 9 (.string ⟨#[]⟩) 16 rfl Tryd.underlying28 info9 rfl (by decide) _ (xss.take j).flatten L0 B L0.length d (fun _ => True) rfl rfl (fun _ _ => trivial) HR.out HG0.out HB.out HB.out.size (by have := HLE.out; have := HN.out; omega) ?_; intro v33 w4 ho hb hg hat; rw [← HS.out] at ho; have HO := Aside0.mk ho; have HBN := Aside0.mk hb; clear ho hb hg hat)
          go_roundg g
          case measure => omega
          case rel => exact ⟨j + 1, by have := HJ.out; have := HM.out; exact congrArg (Value.int .i64) (show wrap64 ((j : Int) + 1) = ((j + 1 : Nat) : Int) from by unfold wrap64; omega), by have := HJ.out; omega, HO, HBN⟩

theorem C_one_str {W : World} {g : Nat} {s : ByteArray} (h : W.heap[g]? = some (.cells #[.string s] 9 (0, 0))) : Kd.C Kd.string W (some ⟨g, 0, none⟩) 1 [s] := by
  refine ⟨rfl, by omega, fun _ => ⟨_, rfl, fun j p hj => ?_⟩⟩
  have h0 : j = 0 := by
    have := (List.getElem?_eq_some_iff.1 hj).1
    simp at this
    omega
  subst h0
  obtain rfl := Option.some.inj hj
  refine ⟨[.string s], rfl, rfl, fun i u hu => ?_⟩
  have h0 : i = 0 := by
    have := (List.getElem?_eq_some_iff.1 hu).1
    simp at this
    omega
  subst h0
  obtain rfl := Option.some.inj hu
  exact (blk_cell h 0).trans rfl
theorem C_rows {W : World} {g t : Nat} {cs : Array Value} (h : W.heap[g]? = some (.cells cs t (0, 0))) (xs : List (List ByteArray)) (hn : xs.length ≤ 1000) (hrow : ∀ (j : Nat) (p : List ByteArray), xs[j]? = some p → ∃ (A : Option Addr) (c : Nat), cs[j]? = some (Value.slice A p.length c) ∧ p.length ≤ c ∧ Kd.C Kd.string W A p.length p) : Kd.C (Kd.slice 9 Kd.string) W (some ⟨g, 0, none⟩) xs.length xs := by
  refine ⟨rfl, by omega, fun _ => ⟨_, rfl, fun j p hj => ?_⟩⟩
  obtain ⟨A, c, hc, hl, hC⟩ := hrow j p hj
  refine ⟨[Value.slice A p.length c], rfl, ⟨A, c, rfl, hl, hC⟩, fun i u hu => ?_⟩
  have h0 : i = 0 := by
    have := (List.getElem?_eq_some_iff.1 hu).1
    simp at this
    omega
  subst h0
  obtain rfl := Option.some.inj hu
  rw [add_plain]
  exact (blk_cell h _).trans (by show cs[j * 1 + 0]? = _; rw [Nat.mul_one, Nat.add_zero]; exact hc)
theorem C_four {W : World} {g t : Nat} {A0 A1 A2 A3 : Option Addr} {c0 c1 c2 c3 : Nat} {a b c d : List ByteArray} (h : W.heap[g]? = some (.cells #[.slice A0 a.length c0, .slice A1 b.length c1, .slice A2 c.length c2, .slice A3 d.length c3] t (0, 0))) (h0 : a.length ≤ c0 ∧ Kd.C Kd.string W A0 a.length a) (h1 : b.length ≤ c1 ∧ Kd.C Kd.string W A1 b.length b) (h2 : c.length ≤ c2 ∧ Kd.C Kd.string W A2 c.length c) (h3 : d.length ≤ c3 ∧ Kd.C Kd.string W A3 d.length d) : Kd.C (Kd.slice 9 Kd.string) W (some ⟨g, 0, none⟩) 4 [a, b, c, d] := by
  refine C_rows h [a, b, c, d] (by simp) (fun j p hj => ?_)
  match j, hj with
  | 0, hj => obtain rfl := Option.some.inj hj; exact ⟨A0, c0, rfl, h0.1, h0.2⟩
  | 1, hj => obtain rfl := Option.some.inj hj; exact ⟨A1, c1, rfl, h1.1, h1.2⟩
  | 2, hj => obtain rfl := Option.some.inj hj; exact ⟨A2, c2, rfl, h2.1, h2.2⟩
  | 3, hj => obtain rfl := Option.some.inj hj; exact ⟨A3, c3, rfl, h3.1, h3.2⟩
  | j + 4, hj => exact absurd (List.getElem?_eq_some_iff.1 hj).1 (by simp)

mutual
def locF : Nat → S31 → Int → Option (S31 × Int × Bool)
  | 0, _, _ => none
  | k + 1, n, i => if i = 0 then some (n, 0, true) else if n.f3.length < 4611686018427387904 then locL k n.f3 i 1 else none
def locL : Nat → List S31 → Int → Int → Option (S31 × Int × Bool)
  | 0, _, _, _ => none
  | _ + 1, [], _, p => some (z31, p, false)
  | k + 1, x :: l, i, p => (locF k x (wrap64 (i - p))).bind fun t => if t.2.2 = true then some (t.1, 0, true) else locL k l i (wrap64 (p + t.2.1))
end
/-- What tree.locate returns: a node whose slices lie as given. -/
def LocOut (w0 w : World) (r : S31 × Int × Bool) (e : Ending) (w' : World) : Prop := (∃ B2 d2 B3 d3, e = .returned (.tuple #[.agg #[.int .i64 r.1.f0, .string r.1.f1, .slice B2 r.1.f2.length d2, .slice B3 r.1.f3.length d3], .int .i64 r.2.1, .bool r.2.2]) ∧ r.1.f2.length ≤ d2 ∧ Kd.C Kd.string w0 B2 r.1.f2.length r.1.f2 ∧ r.1.f3.length ≤ d3 ∧ Kd.C k31 w0 B3 r.1.f3.length r.1.f3) ∧ Below w.heap.size w w'
set_option maxHeartbeats 8000000 in
set_option maxRecDepth 100000 in
theorem locate_calls (k : Nat) : ∀ (x : S31) (A2 : Option Addr) (c2 : Nat) (A3 : Option Addr) (c3 : Nat) (i : Int) (r : S31 × Int × Bool) (w0 w : World) (hb0 : Below w0.heap.size w0 w) (h2 : Kd.C Kd.string w0 A2 x.f2.length x.f2) (l2 : x.f2.length ≤ c2) (h3 : Kd.C k31 w0 A3 x.f3.length x.f3) (l3 : x.f3.length ≤ c3) (h : locF k x i = some r),
    Calls Tryd.prog 70 #[.agg #[.int .i64 x.f0, .string x.f1, .slice A2 x.f2.length c2, .slice A3 x.f3.length c3], .int .i64 i] w (LocOut w0 w r) := by
  induction k using Nat.strongRecOn with
  | _ k ih =>
  intro x A2 c2 A3 c3 i r w0 w hb0 h2 l2 h3 l3 h
  cases k with
  | zero => exact absurd h (by simp [locF])
  | succ k =>
  have hu31 := Tryd.underlying31
  have H2 := Aside0.mk h2
  have L2 := Aside0.mk l2
  have H3 := Aside0.mk h3
  have L3 := Aside0.mk l3
  have HB0 := Aside0.mk hb0
  clear h2 l2 h3 l3 hb0
  have HB := Aside0.mk (Below.refl w.heap.size w)
  rw [locF] at h
  by_cases c : i = 0
  · rw [if_pos c] at h
    obtain rfl := Option.some.inj h
    subst c
    clear h ih
    go_enter Tryd.func70, Tryd.ntmps70
    go_wp2_with (first | ((with_reducible refine gate_dst (N := 2) rfl ?_); refine box_event ?hg (N := 2) ?hd (cs := #[.int .i64 x.f0, .string x.f1, .slice A2 x.f2.length c2, .slice A3 x.f3.length c3]) (t := 31) ?hr ?_; (case hd => rfl); (case hg => rfl); (case hr => first | (go_simp; done) | (go_simp; rfl)); intro g2 hg w1 hbox hb; have n0_ := Aside0.mk (below_step HB.out hb); have BK2 := Aside0.mk hbox; have GE2 := Aside0.mk (by rw [hg]; exact Nat.le_refl _ : w.heap.size ≤ g2); clear HB; have HB := n0_; clear n0_ hb hbox hg) | ((with_reducible refine gate_dst (N := 4) rfl ?_); refine box_event ?hg (N := 4) ?hd (cs := #[.int .i64 0, .string (⟨#[]⟩ : ByteArray), .slice none 0 0, .slice none 0 0]) (t := 31) ?hr ?_; (case hd => rfl); (case hg => rfl); (case hr => first | (go_simp; done) | (go_simp; rfl)); intro g4 hg w2 hbox hb; have n0_ := Aside0.mk (below_step HB.out hb); have n1_ := Aside0.mk (blk_below BK2.out hb); have BK4 := Aside0.mk hbox; have GE4 := Aside0.mk (by rw [hg]; exact HB.out.size : w.heap.size ≤ g4); have hne : g2 ≠ g4 := (by rw [hg]; exact Nat.ne_of_lt (blk_lt BK2.out)); have hne' := hne.symm; clear HB BK2; have HB := n0_; have BK2 := n1_; clear n0_ n1_ hb hbox hg; have z20 := (blk_cell BK2.out 0).trans rfl; have z21 := (blk_cell BK2.out 1).trans rfl; have z22 := (blk_cell BK2.out 2).trans rfl; have z23 := (blk_cell BK2.out 3).trans rfl; have z40 := (blk_cell BK4.out 0).trans rfl; have z41 := (blk_cell BK4.out 1).trans rfl; have z42 := (blk_cell BK4.out 2).trans rfl; have z43 := (blk_cell BK4.out 3).trans rfl; have y40 := blk_frozen BK4.out 0; have y41 := blk_frozen BK4.out 1; have y42 := blk_frozen BK4.out 2; have y43 := blk_frozen BK4.out 3))
    refine bodyPost_ret (results_ctt rfl _ _ g4 31 #[.int .i64 x.f0, .string x.f1, .slice A2 x.f2.length c2, .slice A3 x.f3.length c3] (0, 0) _ rfl (blk_put (cs := #[.int .i64 x.f0, .string x.f1, .slice A2 x.f2.length c2, .slice none 0 0]) (blk_put (cs := #[.int .i64 x.f0, .string x.f1, .slice none 0 0, .slice none 0 0]) (blk_put (cs := #[.int .i64 x.f0, .string (⟨#[]⟩ : ByteArray), .slice none 0 0, .slice none 0 0]) (blk_put BK4.out 0 _ rfl) 1 _ rfl) 2 _ rfl) 3 _ rfl) hu31 rfl (by kernel_rfl)) rfl ?_
    exact ⟨⟨A2, c2, A3, c3, rfl, L2.out, H2.out, L3.out, H3.out⟩, (below_set (below_set (below_set (below_set HB.out GE4.out) GE4.out) GE4.out) GE4.out)⟩
  · rw [if_neg c] at h
    have e1 : (i == 0) = false := beq_eq_false_iff_ne.mpr c
    by_cases cl : x.f3.length < 4611686018427387904
    case neg =>
      rw [if_neg cl] at h
      cases h
    rw [if_pos cl] at h
    have HL := Aside0.mk h
    have HCL := Aside0.mk cl
    clear h cl
    go_enter Tryd.func70, Tryd.ntmps70
    go_wp2_with (first | ((with_reducible refine gate_dst (N := 2) rfl ?_); refine box_event ?hg (N := 2) ?hd (cs := #[.int .i64 x.f0, .string x.f1, .slice A2 x.f2.length c2, .slice A3 x.f3.length c3]) (t := 31) ?hr ?_; (case hd => rfl); (case hg => rfl); (case hr => first | (go_simp; done) | (go_simp; rfl)); intro g2 hg w1 hbox hb; have n0_ := Aside0.mk (below_step HB.out hb); have BK2 := Aside0.mk hbox; have GE2 := Aside0.mk (by rw [hg]; exact Nat.le_refl _ : w.heap.size ≤ g2); clear HB; have HB := n0_; clear n0_ hb hbox hg) | ((with_reducible refine gate_dst (N := 4) rfl ?_); refine box_event ?hg (N := 4) ?hd (cs := #[.int .i64 0, .string (⟨#[]⟩ : ByteArray), .slice none 0 0, .slice none 0 0]) (t := 31) ?hr ?_; (case hd => rfl); (case hg => rfl); (case hr => first | (go_simp; done) | (go_simp; rfl)); intro g4 hg w2 hbox hb; have n0_ := Aside0.mk (below_step HB.out hb); have n1_ := Aside0.mk (blk_below BK2.out hb); have BK4 := Aside0.mk hbox; have GE4 := Aside0.mk (by rw [hg]; exact HB.out.size : w.heap.size ≤ g4); have hne : g2 ≠ g4 := (by rw [hg]; exact Nat.ne_of_lt (blk_lt BK2.out)); have hne' := hne.symm; clear HB BK2; have HB := n0_; have BK2 := n1_; clear n0_ n1_ hb hbox hg; have z20 := (blk_cell BK2.out 0).trans rfl; have z21 := (blk_cell BK2.out 1).trans rfl; have z22 := (blk_cell BK2.out 2).trans rfl; have z23 := (blk_cell BK2.out 3).trans rfl; have z40 := (blk_cell BK4.out 0).trans rfl; have z41 := (blk_cell BK4.out 1).trans rfl; have z42 := (blk_cell BK4.out 2).trans rfl; have z43 := (blk_cell BK4.out 3).trans rfl; have y40 := blk_frozen BK4.out 0; have y41 := blk_frozen BK4.out 1; have y42 := blk_frozen BK4.out 2; have y43 := blk_frozen BK4.out 3))
    go_loopg [7, 19] x.f3.length (fun gk v7 v19 w' => ∃ (j : Nat) (p : Int) (kq : Nat), v7 = .int .i64 p ∧ v19 = .int .i64 j ∧ j + gk = x.f3.length ∧ Aside0 (locL kq (x.f3.drop j) i p = some r) ∧ Aside0 (kq ≤ k) ∧ Aside0 (w'.heap[g2]? = some (.cells #[.int .i64 x.f0, .string x.f1, .slice A2 x.f2.length c2, .slice A3 x.f3.length c3] 31 (0, 0))) ∧ Aside0 (w'.heap[g4]? = some (.cells #[.int .i64 0, .string (⟨#[]⟩ : ByteArray), .slice none 0 0, .slice none 0 0] 31 (0, 0))) ∧ Aside0 (Below w.heap.size w w'))
    case atStart =>
      exact ⟨0, 1, k, rfl, rfl, by omega, ⟨by rw [List.drop_zero]; exact HL.out⟩, ⟨Nat.le_refl _⟩, BK2, BK4, HB⟩
    case round =>
      clear HL BK2 BK4 HB z20 z21 z22 z23 z40 z41 z42 z43 y40 y41 y42 y43
      obtain ⟨j, p, kq, rfl, rfl, hj, HL, HQ, BK2, BK4, HB⟩ := hrel
      obtain ⟨go, rfl⟩ : ∃ go, go = gk := ⟨gk, rfl⟩
      cases go with
      | zero =>
        have g1 : decide ((j : Int) < (x.f3.length : Int)) = false := decide_eq_false (by omega)
        have g2' : decide (j < x.f3.length) = false := decide_eq_false (by omega)
        have hl := HL.out
        rw [List.drop_of_length_le (by omega)] at hl
        cases kq with
        | zero => exact absurd hl (by simp [locL])
        | succ kq =>
        rw [locL] at hl
        have HR := Aside0.mk (Option.some.inj hl)
        clear hl hj HL
        have z40 := (blk_cell BK4.out 0).trans rfl
        have z41 := (blk_cell BK4.out 1).trans rfl
        have z42 := (blk_cell BK4.out 2).trans rfl
        have z43 := (blk_cell BK4.out 3).trans rfl
        have y40 := blk_frozen BK4.out 0
        have y41 := blk_frozen BK4.out 1
        have y42 := blk_frozen BK4.out 2
        have y43 := blk_frozen BK4.out 3
        go_wp2
        rw [← HR.out]
        refine bodyPost_ret (results_ctt rfl _ _ g4 31 #[.int .i64 0, .string (⟨#[]⟩ : ByteArray), .slice none 0 0, .slice none 0 0] (0, 0) _ rfl (blk_put (cs := #[.int .i64 0, .string (⟨#[]⟩ : ByteArray), .slice none 0 0, .slice none 0 0]) (blk_put (cs := #[.int .i64 0, .string (⟨#[]⟩ : ByteArray), .slice none 0 0, .slice none 0 0]) (blk_put (cs := #[.int .i64 0, .string (⟨#[]⟩ : ByteArray), .slice none 0 0, .slice none 0 0]) (blk_put (cs := #[.int .i64 0, .string (⟨#[]⟩ : ByteArray), .slice none 0 0, .slice none 0 0]) BK4.out 0 _ rfl) 1 _ rfl) 2 _ rfl) 3 _ rfl) hu31 rfl (by kernel_rfl)) rfl ?_
        exact ⟨⟨none, 0, none, 0, rfl, Nat.le_refl _, Kd.C_nil _ _, Nat.le_refl _, Kd.C_nil _ _⟩, (below_set (below_set (below_set (below_set HB.out GE4.out) GE4.out) GE4.out) GE4.out)⟩
      | succ g =>
        have hjl : j < x.f3.length := by omega
        have g1 : decide ((j : Int) < (x.f3.length : Int)) = true := decide_eq_true (by omega)
        have g2' : decide (j < x.f3.length) = true := decide_eq_true hjl
        have hl := HL.out
        obtain ⟨ad, B2, d2, B3, d3, hA, q0, q1, q2, q3, m2, G2, m3, G3⟩ := at_T31 H3.out (j : Int) (by omega) (by omega)
        rw [Int.toNat_natCast] at q0 q1 q2 q3
        have HBW := Aside0.mk (below_step HB0.out HB.out)
        replace q0 := pw_cell_below HBW.out q0
        replace q1 := pw_cell_below HBW.out q1
        replace q2 := pw_cell_below HBW.out q2
        replace q3 := pw_cell_below HBW.out q3
        obtain ⟨y, hy⟩ : ∃ y, y = rd_T31 x.f3 (j : Int) := ⟨_, rfl⟩
        have hd : x.f3.drop j = y :: x.f3.drop (j + 1) := by
          rw [List.drop_eq_getElem_cons hjl, hy]
          unfold rd_T31
          rw [Int.toNat_natCast, List.getD_eq_getElem?_getD, List.getElem?_eq_getElem hjl, Option.getD_some]
        rw [← hy] at q0 q1 q2 q3 m2 G2 m3 G3
        rw [hd] at hl
        clear hy hd
        subst hA
        cases kq with
        | zero => exact absurd hl (by simp [locL])
        | succ kq =>
        rw [locL] at hl
        obtain ⟨⟨n', s, b⟩, ht, hl⟩ := Option.bind_eq_some_iff.1 hl
        have IH := Aside0.mk (fun W (hb : Below wr.heap.size wr W) => ih kq (by have := HQ.out; omega) y B2 d2 B3 d3 (wrap64 (i - p)) (n', s, b) w0 W (below_step HBW.out hb) G2 m2 G3 m3 ht)
        have hw : IntKind.i64.wrap (i - p) = wrap64 (i - p) := i64_w _
        have h0j : ((0 : Int) ≤ (j : Int)) = True := eq_true (by omega)
        have hq9 : (j < x.f3.length) = True := eq_true hjl
        clear m2 G2 m3 G3 ht HL ih
        have HJ := Aside0.mk hj
        cases b with
        | true =>
          rw [if_pos rfl] at hl
          obtain rfl := Option.some.inj hl
          clear hl hj hjl
          go_wp2_with (first | ((with_reducible refine gate_dst (N := 9) rfl ?_); refine box_event ?hg (N := 9) ?hd (cs := #[.int .i64 0, .string (⟨#[]⟩ : ByteArray), .slice none 0 0, .slice none 0 0]) (t := 31) ?hr ?_; (case hd => rfl); (case hg => rfl); (case hr => first | (go_simp; done) | (go_simp; rfl)); intro g9 hg w3 hbox hb; have n0_ := Aside0.mk (below_step HB.out hb); have n1_ := Aside0.mk (blk_below BK2.out hb); have n2_ := Aside0.mk (blk_below BK4.out hb); have BK9 := Aside0.mk hbox; have GE9 := Aside0.mk (by rw [hg]; exact HB.out.size : w.heap.size ≤ g9); have GW9 := Aside0.mk (by rw [hg]; exact Nat.le_refl _ : wr.heap.size ≤ g9); have NE29 := Aside0.mk (by rw [hg]; exact Nat.ne_of_lt (blk_lt BK2.out) : g2 ≠ g9); have NE49 := Aside0.mk (by rw [hg]; exact Nat.ne_of_lt (blk_lt BK4.out) : g4 ≠ g9); have BW := Aside0.mk hb; clear HB BK2 BK4; have HB := n0_; have BK2 := n1_; have BK4 := n2_; clear n0_ n1_ n2_ hb hbox hg q0 q1 q2 q3; have z90 := (blk_cell BK9.out 0).trans rfl; have y90 := blk_frozen BK9.out 0; have z91 := (blk_cell BK9.out 1).trans rfl; have y91 := blk_frozen BK9.out 1; have z92 := (blk_cell BK9.out 2).trans rfl; have y92 := blk_frozen BK9.out 2; have z93 := (blk_cell BK9.out 3).trans rfl; have y93 := blk_frozen BK9.out 3) | (go_at_call 70; go_loud ((with_reducible refine (IH.out _ (below_set (below_set (below_set (below_set BW.out GW9.out) GW9.out) GW9.out) GW9.out)).mono ?_); rintro e w4 ⟨⟨C2, e2, C3, e3, rfl, n2, K2, n3, K3⟩, hb4⟩; have n0_ := Aside0.mk (below_step (below_set (below_set (below_set (below_set HB.out GE9.out) GE9.out) GE9.out) GE9.out) hb4); have n1_ := Aside0.mk (blk_below (blk_far (blk_far (blk_far (blk_far BK2.out NE29.out _) NE29.out _) NE29.out _) NE29.out _) hb4); have n2_ := Aside0.mk (blk_below (blk_far (blk_far (blk_far (blk_far BK4.out NE49.out _) NE49.out _) NE49.out _) NE49.out _) hb4); clear HB BK2 BK4; have HB := n0_; have BK2 := n1_; have BK4 := n2_; have HK2 := Aside0.mk K2; have HK3 := Aside0.mk K3; have HN2 := Aside0.mk n2; have HN3 := Aside0.mk n3; clear n0_ n1_ n2_ hb4 K2 K3 n2 n3 z90 z91 z92 z93 y90 y91 y92 y93)) | ((with_reducible refine gate_dst (N := 10) rfl ?_); refine box_event ?hg (N := 10) ?hd (cs := #[.int .i64 0, .string (⟨#[]⟩ : ByteArray), .slice none 0 0, .slice none 0 0]) (t := 31) ?hr ?_; (case hd => rfl); (case hg => rfl); (case hr => first | (go_simp; done) | (go_simp; rfl)); intro g10 hg w5 hbox hb; have n0_ := Aside0.mk (below_step HB.out hb); have n1_ := Aside0.mk (blk_below BK2.out hb); have n2_ := Aside0.mk (blk_below BK4.out hb); have BK10 := Aside0.mk hbox; have GE10 := Aside0.mk (by rw [hg]; exact HB.out.size : w.heap.size ≤ g10); have NE210 := Aside0.mk (by rw [hg]; exact Nat.ne_of_lt (blk_lt BK2.out) : g2 ≠ g10); have ne410 : g4 ≠ g10 := (by rw [hg]; exact Nat.ne_of_lt (blk_lt BK4.out)); have ne104 := ne410.symm; clear HB BK2 BK4; have HB := n0_; have BK2 := n1_; have BK4 := n2_; clear n0_ n1_ n2_ hb hbox hg; have z100 := (blk_cell BK10.out 0).trans rfl; have y100 := blk_frozen BK10.out 0; have z101 := (blk_cell BK10.out 1).trans rfl; have y101 := blk_frozen BK10.out 1; have z102 := (blk_cell BK10.out 2).trans rfl; have y102 := blk_frozen BK10.out 2; have z103 := (blk_cell BK10.out 3).trans rfl; have y103 := blk_frozen BK10.out 3; have z40 := (blk_cell BK4.out 0).trans rfl; have y40 := blk_frozen BK4.out 0; have z41 := (blk_cell BK4.out 1).trans rfl; have y41 := blk_frozen BK4.out 1; have z42 := (blk_cell BK4.out 2).trans rfl; have y42 := blk_frozen BK4.out 2; have z43 := (blk_cell BK4.out 3).trans rfl; have y43 := blk_frozen BK4.out 3))
          refine bodyPost_ret (results_ctt rfl _ _ g4 31 #[.int .i64 n'.f0, .string n'.f1, .slice C2 n'.f2.length e2, .slice C3 n'.f3.length e3] (0, 0) _ rfl (blk_put (cs := #[.int .i64 n'.f0, .string n'.f1, .slice C2 n'.f2.length e2, .slice none 0 0]) (blk_put (cs := #[.int .i64 n'.f0, .string n'.f1, .slice none 0 0, .slice none 0 0]) (blk_put (cs := #[.int .i64 n'.f0, .string (⟨#[]⟩ : ByteArray), .slice none 0 0, .slice none 0 0]) (blk_put (blk_far (blk_far (blk_far (blk_far BK4.out ne410 _) ne410 _) ne410 _) ne410 _) 0 _ rfl) 1 _ rfl) 2 _ rfl) 3 _ rfl) hu31 rfl (by kernel_rfl)) rfl ?_
          exact ⟨⟨C2, e2, C3, e3, rfl, HN2.out, HK2.out, HN3.out, HK3.out⟩, (below_set (below_set (below_set (below_set (below_set (below_set (below_set (below_set HB.out GE10.out) GE10.out) GE10.out) GE10.out) GE4.out) GE4.out) GE4.out) GE4.out)⟩
        | false =>
          rw [if_neg (by simp)] at hl
          have HL := Aside0.mk hl
          clear hl hj hjl
          have hw2 : IntKind.i64.wrap (p + s) = wrap64 (p + s) := i64_w _
          go_wp2_with (first | ((with_reducible refine gate_dst (N := 9) rfl ?_); refine box_event ?hg (N := 9) ?hd (cs := #[.int .i64 0, .string (⟨#[]⟩ : ByteArray), .slice none 0 0, .slice none 0 0]) (t := 31) ?hr ?_; (case hd => rfl); (case hg => rfl); (case hr => first | (go_simp; done) | (go_simp; rfl)); intro g9 hg w3 hbox hb; have n0_ := Aside0.mk (below_step HB.out hb); have n1_ := Aside0.mk (blk_below BK2.out hb); have n2_ := Aside0.mk (blk_below BK4.out hb); have BK9 := Aside0.mk hbox; have GE9 := Aside0.mk (by rw [hg]; exact HB.out.size : w.heap.size ≤ g9); have GW9 := Aside0.mk (by rw [hg]; exact Nat.le_refl _ : wr.heap.size ≤ g9); have NE29 := Aside0.mk (by rw [hg]; exact Nat.ne_of_lt (blk_lt BK2.out) : g2 ≠ g9); have NE49 := Aside0.mk (by rw [hg]; exact Nat.ne_of_lt (blk_lt BK4.out) : g4 ≠ g9); have BW := Aside0.mk hb; clear HB BK2 BK4; have HB := n0_; have BK2 := n1_; have BK4 := n2_; clear n0_ n1_ n2_ hb hbox hg q0 q1 q2 q3; have z90 := (blk_cell BK9.out 0).trans rfl; have y90 := blk_frozen BK9.out 0; have z91 := (blk_cell BK9.out 1).trans rfl; have y91 := blk_frozen BK9.out 1; have z92 := (blk_cell BK9.out 2).trans rfl; have y92 := blk_frozen BK9.out 2; have z93 := (blk_cell BK9.out 3).trans rfl; have y93 := blk_frozen BK9.out 3) | (go_at_call 70; go_loud ((with_reducible refine (IH.out _ (below_set (below_set (below_set (below_set BW.out GW9.out) GW9.out) GW9.out) GW9.out)).mono ?_); rintro e w4 ⟨⟨C2, e2, C3, e3, rfl, n2, K2, n3, K3⟩, hb4⟩; have n0_ := Aside0.mk (below_step (below_set (below_set (below_set (below_set HB.out GE9.out) GE9.out) GE9.out) GE9.out) hb4); have n1_ := Aside0.mk (blk_below (blk_far (blk_far (blk_far (blk_far BK2.out NE29.out _) NE29.out _) NE29.out _) NE29.out _) hb4); have n2_ := Aside0.mk (blk_below (blk_far (blk_far (blk_far (blk_far BK4.out NE49.out _) NE49.out _) NE49.out _) NE49.out _) hb4); clear HB BK2 BK4; have HB := n0_; have BK2 := n1_; have BK4 := n2_; have HK2 := Aside0.mk K2; have HK3 := Aside0.mk K3; have HN2 := Aside0.mk n2; have HN3 := Aside0.mk n3; clear n0_ n1_ n2_ hb4 K2 K3 n2 n3 z90 z91 z92 z93 y90 y91 y92 y93)) | ((with_reducible refine gate_dst (N := 10) rfl ?_); refine box_event ?hg (N := 10) ?hd (cs := #[.int .i64 0, .string (⟨#[]⟩ : ByteArray), .slice none 0 0, .slice none 0 0]) (t := 31) ?hr ?_; (case hd => rfl); (case hg => rfl); (case hr => first | (go_simp; done) | (go_simp; rfl)); intro g10 hg w5 hbox hb; have n0_ := Aside0.mk (below_step HB.out hb); have n1_ := Aside0.mk (blk_below BK2.out hb); have n2_ := Aside0.mk (blk_below BK4.out hb); have BK10 := Aside0.mk hbox; have GE10 := Aside0.mk (by rw [hg]; exact HB.out.size : w.heap.size ≤ g10); have NE210 := Aside0.mk (by rw [hg]; exact Nat.ne_of_lt (blk_lt BK2.out) : g2 ≠ g10); have ne410 : g4 ≠ g10 := (by rw [hg]; exact Nat.ne_of_lt (blk_lt BK4.out)); have ne104 := ne410.symm; clear HB BK2 BK4; have HB := n0_; have BK2 := n1_; have BK4 := n2_; clear n0_ n1_ n2_ hb hbox hg; have z100 := (blk_cell BK10.out 0).trans rfl; have y100 := blk_frozen BK10.out 0; have z101 := (blk_cell BK10.out 1).trans rfl; have y101 := blk_frozen BK10.out 1; have z102 := (blk_cell BK10.out 2).trans rfl; have y102 := blk_frozen BK10.out 2; have z103 := (blk_cell BK10.out 3).trans rfl; have y103 := blk_frozen BK10.out 3; have z40 := (blk_cell BK4.out 0).trans rfl; have y40 := blk_frozen BK4.out 0; have z41 := (blk_cell BK4.out 1).trans rfl; have y41 := blk_frozen BK4.out 1; have z42 := (blk_cell BK4.out 2).trans rfl; have y42 := blk_frozen BK4.out 2; have z43 := (blk_cell BK4.out 3).trans rfl; have y43 := blk_frozen BK4.out 3))
          go_roundg g
          case measure => omega
          case rel => exact ⟨j + 1, wrap64 (p + s), kq, rfl, by have := HJ.out; have := HCL.out; exact congrArg (Value.int .i64) (show wrap64 ((j : Int) + 1) = ((j + 1 : Nat) : Int) from by unfold wrap64; omega), by have := HJ.out; omega, HL, ⟨by have := HQ.out; omega⟩, ⟨(blk_far (blk_far (blk_far (blk_far BK2.out NE210.out _) NE210.out _) NE210.out _) NE210.out _)⟩, ⟨(blk_far (blk_far (blk_far (blk_far BK4.out ne410 _) ne410 _) ne410 _) ne410 _)⟩, ⟨(below_set (below_set (below_set (below_set HB.out GE10.out) GE10.out) GE10.out) GE10.out)⟩⟩

/-- What tree.At makes: the node's Kind and Text. -/
def atF (k : Nat) (x : S31) (i : Int) : Option (Int × ByteArray × Bool) := if i < 0 then some (0, ⟨#[]⟩, false) else (locF k x i).bind fun t => if t.2.2 = true then (tree_clone.f k t.1.f0 t.1.f1 t.1.f2 t.1.f3).bind fun c => some (c.1, c.2.1, true) else some (0, ⟨#[]⟩, false)
set_option maxHeartbeats 8000000 in
set_option maxRecDepth 100000 in
theorem At_calls (k : Nat) (x : S31) (A2 : Option Addr) (c2 : Nat) (A3 : Option Addr) (c3 : Nat) (i : Int) (r : Int × ByteArray × Bool) (w : World) (h2 : Kd.C Kd.string w A2 x.f2.length x.f2) (l2 : x.f2.length ≤ c2) (h3 : Kd.C k31 w A3 x.f3.length x.f3) (l3 : x.f3.length ≤ c3) (h : atF k x i = some r) :
    Calls Tryd.prog 56 #[.agg #[.int .i64 x.f0, .string x.f1, .slice A2 x.f2.length c2, .slice A3 x.f3.length c3], .int .i64 i] w fun e w' => (∃ B2 n2 d2 B3 n3 d3, e = .returned (.tuple #[.agg #[.int .i64 r.1, .string r.2.1, .slice B2 n2 d2, .slice B3 n3 d3], .bool r.2.2])) ∧ Below w.heap.size w w' := by
  have hu31 := Tryd.underlying31
  have H2 := Aside0.mk h2
  have L2 := Aside0.mk l2
  have H3 := Aside0.mk h3
  have L3 := Aside0.mk l3
  clear h2 l2 h3 l3
  have HB := Aside0.mk (Below.refl w.heap.size w)
  unfold atF at h
  by_cases c : i < 0
  · rw [if_pos c] at h
    obtain rfl := Option.some.inj h
    have e1 : decide (i < 0) = true := decide_eq_true c
    clear h c
    go_enter Tryd.func56, Tryd.ntmps56
    go_wp2_with (first | ((with_reducible refine gate_dst (N := 2) rfl ?_); refine box_event ?hg (N := 2) ?hd (cs := #[.int .i64 x.f0, .string x.f1, .slice A2 x.f2.length c2, .slice A3 x.f3.length c3]) (t := 31) ?hr ?_; (case hd => rfl); (case hg => rfl); (case hr => first | (go_simp; done) | (go_simp; rfl)); intro g2 hg w1 hbox hb; have n0_ := Aside0.mk (below_step HB.out hb); have BK2 := Aside0.mk hbox; have GE2 := Aside0.mk (by rw [hg]; exact Nat.le_refl _ : w.heap.size ≤ g2); clear HB; have HB := n0_; clear n0_ hb hbox hg) | ((with_reducible refine gate_dst (N := 4) rfl ?_); refine box_event ?hg (N := 4) ?hd (cs := #[.int .i64 0, .string (⟨#[]⟩ : ByteArray), .slice none 0 0, .slice none 0 0]) (t := 31) ?hr ?_; (case hd => rfl); (case hg => rfl); (case hr => first | (go_simp; done) | (go_simp; rfl)); intro g4 hg w2 hbox hb; have n0_ := Aside0.mk (below_step HB.out hb); have n1_ := Aside0.mk (blk_below BK2.out hb); have BK4 := Aside0.mk hbox; have GE4 := Aside0.mk (by rw [hg]; exact HB.out.size : w.heap.size ≤ g4); have hne : g2 ≠ g4 := (by rw [hg]; exact Nat.ne_of_lt (blk_lt BK2.out)); have hne' := hne.symm; clear HB BK2; have HB := n0_; have BK2 := n1_; clear n0_ n1_ hb hbox hg; have z20 := (blk_cell BK2.out 0).trans rfl; have z21 := (blk_cell BK2.out 1).trans rfl; have z22 := (blk_cell BK2.out 2).trans rfl; have z23 := (blk_cell BK2.out 3).trans rfl; have z40 := (blk_cell BK4.out 0).trans rfl; have z41 := (blk_cell BK4.out 1).trans rfl; have z42 := (blk_cell BK4.out 2).trans rfl; have z43 := (blk_cell BK4.out 3).trans rfl; have y40 := blk_frozen BK4.out 0; have y41 := blk_frozen BK4.out 1; have y42 := blk_frozen BK4.out 2; have y43 := blk_frozen BK4.out 3))
    refine bodyPost_ret (results_ct rfl _ _ g4 31 #[.int .i64 0, .string (⟨#[]⟩ : ByteArray), .slice none 0 0, .slice none 0 0] (0, 0) _ rfl (blk_put (cs := #[.int .i64 0, .string (⟨#[]⟩ : ByteArray), .slice none 0 0, .slice none 0 0]) (blk_put (cs := #[.int .i64 0, .string (⟨#[]⟩ : ByteArray), .slice none 0 0, .slice none 0 0]) (blk_put (cs := #[.int .i64 0, .string (⟨#[]⟩ : ByteArray), .slice none 0 0, .slice none 0 0]) (blk_put (cs := #[.int .i64 0, .string (⟨#[]⟩ : ByteArray), .slice none 0 0, .slice none 0 0]) BK4.out 0 _ rfl) 1 _ rfl) 2 _ rfl) 3 _ rfl) hu31 rfl (by kernel_rfl)) rfl ?_
    exact ⟨⟨_, _, _, _, _, _, rfl⟩, (below_set (below_set (below_set (below_set HB.out GE4.out) GE4.out) GE4.out) GE4.out)⟩
  · rw [if_neg c] at h
    have e1 : decide (i < 0) = false := decide_eq_false c
    clear c
    obtain ⟨⟨n', s, b⟩, ht, h⟩ := Option.bind_eq_some_iff.1 h
    have HT := Aside0.mk ht
    clear ht
    cases b with
    | false =>
      rw [if_neg (by simp)] at h
      obtain rfl := Option.some.inj h
      clear h
      go_enter Tryd.func56, Tryd.ntmps56
      go_wp2_with (first | ((with_reducible refine gate_dst (N := 2) rfl ?_); refine box_event ?hg (N := 2) ?hd (cs := #[.int .i64 x.f0, .string x.f1, .slice A2 x.f2.length c2, .slice A3 x.f3.length c3]) (t := 31) ?hr ?_; (case hd => rfl); (case hg => rfl); (case hr => first | (go_simp; done) | (go_simp; rfl)); intro g2 hg w1 hbox hb; have n0_ := Aside0.mk (below_step HB.out hb); have BK2 := Aside0.mk hbox; have GE2 := Aside0.mk (by rw [hg]; exact Nat.le_refl _ : w.heap.size ≤ g2); clear HB; have HB := n0_; clear n0_ hb hbox hg) | ((with_reducible refine gate_dst (N := 4) rfl ?_); refine box_event ?hg (N := 4) ?hd (cs := #[.int .i64 0, .string (⟨#[]⟩ : ByteArray), .slice none 0 0, .slice none 0 0]) (t := 31) ?hr ?_; (case hd => rfl); (case hg => rfl); (case hr => first | (go_simp; done) | (go_simp; rfl)); intro g4 hg w2 hbox hb; have n0_ := Aside0.mk (below_step HB.out hb); have n1_ := Aside0.mk (blk_below BK2.out hb); have BK4 := Aside0.mk hbox; have GE4 := Aside0.mk (by rw [hg]; exact HB.out.size : w.heap.size ≤ g4); have hne : g2 ≠ g4 := (by rw [hg]; exact Nat.ne_of_lt (blk_lt BK2.out)); have hne' := hne.symm; clear HB BK2; have HB := n0_; have BK2 := n1_; clear n0_ n1_ hb hbox hg; have z20 := (blk_cell BK2.out 0).trans rfl; have z21 := (blk_cell BK2.out 1).trans rfl; have z22 := (blk_cell BK2.out 2).trans rfl; have z23 := (blk_cell BK2.out 3).trans rfl; have z40 := (blk_cell BK4.out 0).trans rfl; have z41 := (blk_cell BK4.out 1).trans rfl; have z42 := (blk_cell BK4.out 2).trans rfl; have z43 := (blk_cell BK4.out 3).trans rfl; have y40 := blk_frozen BK4.out 0; have y41 := blk_frozen BK4.out 1; have y42 := blk_frozen BK4.out 2; have y43 := blk_frozen BK4.out 3) | (go_at_call 70; go_loud ((with_reducible refine (locate_calls k x A2 c2 A3 c3 i (n', s, false) w _ HB.out H2.out L2.out H3.out L3.out HT.out).mono ?_); rintro e w4 ⟨⟨C2, e2, C3, e3, rfl, n2, K2, n3, K3⟩, hb4⟩; have n0_ := Aside0.mk (below_step HB.out hb4); have n2_ := Aside0.mk (blk_below BK4.out hb4); clear HB BK2 BK4; have HB := n0_; have BK4 := n2_; have HK2 := Aside0.mk K2; have HK3 := Aside0.mk K3; have HN2 := Aside0.mk n2; have HN3 := Aside0.mk n3; clear n0_ n2_ hb4 K2 K3 n2 n3 z20 z21 z22 z23 z40 z41 z42 z43 y40 y41 y42 y43)) | ((with_reducible refine gate_dst (N := 6) rfl ?_); refine box_event ?hg (N := 6) ?hd (cs := #[.int .i64 0, .string (⟨#[]⟩ : ByteArray), .slice none 0 0, .slice none 0 0]) (t := 31) ?hr ?_; (case hd => rfl); (case hg => rfl); (case hr => first | (go_simp; done) | (go_simp; rfl)); intro g6 hg w5 hbox hb; have n0_ := Aside0.mk (below_step HB.out hb); have n2_ := Aside0.mk (blk_below BK4.out hb); have BK6 := Aside0.mk hbox; have GE6 := Aside0.mk (by rw [hg]; exact HB.out.size : w.heap.size ≤ g6); have ne46 : g4 ≠ g6 := (by rw [hg]; exact Nat.ne_of_lt (blk_lt BK4.out)); have ne64 := ne46.symm; clear HB BK4; have HB := n0_; have BK4 := n2_; clear n0_ n2_ hb hbox hg; have z60 := (blk_cell BK6.out 0).trans rfl; have y60 := blk_frozen BK6.out 0; have z61 := (blk_cell BK6.out 1).trans rfl; have y61 := blk_frozen BK6.out 1; have z62 := (blk_cell BK6.out 2).trans rfl; have y62 := blk_frozen BK6.out 2; have z63 := (blk_cell BK6.out 3).trans rfl; have y63 := blk_frozen BK6.out 3; have z40 := (blk_cell BK4.out 0).trans rfl; have y40 := blk_frozen BK4.out 0; have z41 := (blk_cell BK4.out 1).trans rfl; have y41 := blk_frozen BK4.out 1; have z42 := (blk_cell BK4.out 2).trans rfl; have y42 := blk_frozen BK4.out 2; have z43 := (blk_cell BK4.out 3).trans rfl; have y43 := blk_frozen BK4.out 3))
      refine bodyPost_ret (results_ct rfl _ _ g4 31 #[.int .i64 0, .string (⟨#[]⟩ : ByteArray), .slice none 0 0, .slice none 0 0] (0, 0) _ rfl (blk_put (cs := #[.int .i64 0, .string (⟨#[]⟩ : ByteArray), .slice none 0 0, .slice none 0 0]) (blk_put (cs := #[.int .i64 0, .string (⟨#[]⟩ : ByteArray), .slice none 0 0, .slice none 0 0]) (blk_put (cs := #[.int .i64 0, .string (⟨#[]⟩ : ByteArray), .slice none 0 0, .slice none 0 0]) (blk_put (cs := #[.int .i64 0, .string (⟨#[]⟩ : ByteArray), .slice none 0 0, .slice none 0 0]) (blk_far (blk_far (blk_far (blk_far BK4.out ne46 _) ne46 _) ne46 _) ne46 _) 0 _ rfl) 1 _ rfl) 2 _ rfl) 3 _ rfl) hu31 rfl (by kernel_rfl)) rfl ?_
      exact ⟨⟨_, _, _, _, _, _, rfl⟩, (below_set (below_set (below_set (below_set (below_set (below_set (below_set (below_set HB.out GE6.out) GE6.out) GE6.out) GE6.out) GE4.out) GE4.out) GE4.out) GE4.out)⟩
    | true =>
      rw [if_pos rfl] at h
      obtain ⟨⟨r1, r2, r3, r4⟩, hc, h⟩ := Option.bind_eq_some_iff.1 h
      obtain rfl := Option.some.inj h
      have HC := Aside0.mk hc
      clear h hc
      go_enter Tryd.func56, Tryd.ntmps56
      go_wp2_with (first | ((with_reducible refine gate_dst (N := 2) rfl ?_); refine box_event ?hg (N := 2) ?hd (cs := #[.int .i64 x.f0, .string x.f1, .slice A2 x.f2.length c2, .slice A3 x.f3.length c3]) (t := 31) ?hr ?_; (case hd => rfl); (case hg => rfl); (case hr => first | (go_simp; done) | (go_simp; rfl)); intro g2 hg w1 hbox hb; have n0_ := Aside0.mk (below_step HB.out hb); have BK2 := Aside0.mk hbox; have GE2 := Aside0.mk (by rw [hg]; exact Nat.le_refl _ : w.heap.size ≤ g2); clear HB; have HB := n0_; clear n0_ hb hbox hg) | ((with_reducible refine gate_dst (N := 4) rfl ?_); refine box_event ?hg (N := 4) ?hd (cs := #[.int .i64 0, .string (⟨#[]⟩ : ByteArray), .slice none 0 0, .slice none 0 0]) (t := 31) ?hr ?_; (case hd => rfl); (case hg => rfl); (case hr => first | (go_simp; done) | (go_simp; rfl)); intro g4 hg w2 hbox hb; have n0_ := Aside0.mk (below_step HB.out hb); have n1_ := Aside0.mk (blk_below BK2.out hb); have BK4 := Aside0.mk hbox; have GE4 := Aside0.mk (by rw [hg]; exact HB.out.size : w.heap.size ≤ g4); have hne : g2 ≠ g4 := (by rw [hg]; exact Nat.ne_of_lt (blk_lt BK2.out)); have hne' := hne.symm; clear HB BK2; have HB := n0_; have BK2 := n1_; clear n0_ n1_ hb hbox hg; have z20 := (blk_cell BK2.out 0).trans rfl; have z21 := (blk_cell BK2.out 1).trans rfl; have z22 := (blk_cell BK2.out 2).trans rfl; have z23 := (blk_cell BK2.out 3).trans rfl; have z40 := (blk_cell BK4.out 0).trans rfl; have z41 := (blk_cell BK4.out 1).trans rfl; have z42 := (blk_cell BK4.out 2).trans rfl; have z43 := (blk_cell BK4.out 3).trans rfl; have y40 := blk_frozen BK4.out 0; have y41 := blk_frozen BK4.out 1; have y42 := blk_frozen BK4.out 2; have y43 := blk_frozen BK4.out 3) | (go_at_call 70; go_loud ((with_reducible refine (locate_calls k x A2 c2 A3 c3 i (n', s, true) w _ HB.out H2.out L2.out H3.out L3.out HT.out).mono ?_); rintro e w4 ⟨⟨C2, e2, C3, e3, rfl, n2, K2, n3, K3⟩, hb4⟩; have n0_ := Aside0.mk (below_step HB.out hb4); have n2_ := Aside0.mk (blk_below BK4.out hb4); clear HB BK2 BK4; have HB := n0_; have BK4 := n2_; have HK2 := Aside0.mk K2; have HK3 := Aside0.mk K3; have HN2 := Aside0.mk n2; have HN3 := Aside0.mk n3; clear n0_ n2_ hb4 K2 K3 n2 n3 z20 z21 z22 z23 z40 z41 z42 z43 y40 y41 y42 y43)) | ((with_reducible refine gate_dst (N := 6) rfl ?_); refine box_event ?hg (N := 6) ?hd (cs := #[.int .i64 0, .string (⟨#[]⟩ : ByteArray), .slice none 0 0, .slice none 0 0]) (t := 31) ?hr ?_; (case hd => rfl); (case hg => rfl); (case hr => first | (go_simp; done) | (go_simp; rfl)); intro g6 hg w5 hbox hb; have n0_ := Aside0.mk (below_step HB.out hb); have n2_ := Aside0.mk (blk_below BK4.out hb); have BK6 := Aside0.mk hbox; have GE6 := Aside0.mk (by rw [hg]; exact HB.out.size : w.heap.size ≤ g6); have ne46 : g4 ≠ g6 := (by rw [hg]; exact Nat.ne_of_lt (blk_lt BK4.out)); have ne64 := ne46.symm; clear HB BK4; have HB := n0_; have BK4 := n2_; clear n0_ n2_ hb hbox hg; have z60 := (blk_cell BK6.out 0).trans rfl; have y60 := blk_frozen BK6.out 0; have z61 := (blk_cell BK6.out 1).trans rfl; have y61 := blk_frozen BK6.out 1; have z62 := (blk_cell BK6.out 2).trans rfl; have y62 := blk_frozen BK6.out 2; have z63 := (blk_cell BK6.out 3).trans rfl; have y63 := blk_frozen BK6.out 3; have z40 := (blk_cell BK4.out 0).trans rfl; have y40 := blk_frozen BK4.out 0; have z41 := (blk_cell BK4.out 1).trans rfl; have y41 := blk_frozen BK4.out 1; have z42 := (blk_cell BK4.out 2).trans rfl; have y42 := blk_frozen BK4.out 2; have z43 := (blk_cell BK4.out 3).trans rfl; have y43 := blk_frozen BK4.out 3) | (go_at_call 71; go_loud ((with_reducible refine (tree_clone.calls k n'.f0 n'.f1 C2 e2 n'.f2 C3 e3 n'.f3 r1 r2 r3 r4 _ (Kd.C_below HK2.out (below_set (below_set (below_set (below_set HB.out GE6.out) GE6.out) GE6.out) GE6.out)) HN2.out (Kd.C_below HK3.out (below_set (below_set (below_set (below_set HB.out GE6.out) GE6.out) GE6.out) GE6.out)) HN3.out HC.out).mono ?_); rintro e w6 ⟨v2, v3, rfl, hR2, hR3, hb6⟩; obtain ⟨D2, f2', rfl⟩ := Kd.R_slice hR2; obtain ⟨D3, f3', rfl⟩ := Kd.R_slice hR3; have n0_ := Aside0.mk (below_step (below_set (below_set (below_set (below_set HB.out GE6.out) GE6.out) GE6.out) GE6.out) hb6); have n2_ := Aside0.mk (blk_below (blk_far (blk_far (blk_far (blk_far BK4.out ne46 _) ne46 _) ne46 _) ne46 _) hb6); clear HB BK4; have HB := n0_; have BK4 := n2_; clear n0_ n2_ hb6 hR2 hR3 z40 z41 z42 z43 y40 y41 y42 y43 z60 z61 z62 z63 y60 y61 y62 y63; have z40 := (blk_cell BK4.out 0).trans rfl; have y40 := blk_frozen BK4.out 0; have z41 := (blk_cell BK4.out 1).trans rfl; have y41 := blk_frozen BK4.out 1; have z42 := (blk_cell BK4.out 2).trans rfl; have y42 := blk_frozen BK4.out 2; have z43 := (blk_cell BK4.out 3).trans rfl; have y43 := blk_frozen BK4.out 3)))
      refine bodyPost_ret (results_ct rfl _ _ g4 31 #[.int .i64 r1, .string r2, .slice D2 r3.length f2', .slice D3 r4.length f3'] (0, 0) _ rfl (blk_put (cs := #[.int .i64 r1, .string r2, .slice D2 r3.length f2', .slice none 0 0]) (blk_put (cs := #[.int .i64 r1, .string r2, .slice none 0 0, .slice none 0 0]) (blk_put (cs := #[.int .i64 r1, .string (⟨#[]⟩ : ByteArray), .slice none 0 0, .slice none 0 0]) (blk_put BK4.out 0 _ rfl) 1 _ rfl) 2 _ rfl) 3 _ rfl) hu31 rfl (by kernel_rfl)) rfl ?_
      exact ⟨⟨_, _, _, _, _, _, rfl⟩, (below_set (below_set (below_set (below_set HB.out GE4.out) GE4.out) GE4.out) GE4.out)⟩

theorem names_cell : ∀ (v : Nat) (_ : v < 26), namesA[v]? = some (.string ⟨(namesL.getD v []).toArray⟩) := by
  intro v hv
  have h : v < namesL.length := hv
  unfold namesA
  rw [List.getElem?_toArray, List.getElem?_map, List.getElem?_eq_getElem h, Option.map_some, List.getD_eq_getElem?_getD, List.getElem?_eq_getElem h, Option.getD_some]
/-- The description of a node of a Kind with a Text. -/
def kindS (kd : Int) : ByteArray := if 1 ≤ kd ∧ kd ≤ 26 then ⟨(namesL.getD (kd - 1).toNat []).toArray⟩ else ⟨#[110, 111, 100, 101]⟩
def textS (kd : Int) (tx : ByteArray) : ByteArray := if tx.toList = [] then kindS kd else kindS kd ++ ((⟨#[32]⟩ : ByteArray) ++ tx)
theorem names_size : ∀ v < 26, (namesL.getD v []).length ≤ 30 := by decide
theorem kindS_size (kd : Int) : (kindS kd).size ≤ 30 := by
  unfold kindS
  split
  · rename_i c
    have := names_size (kd - 1).toNat (by omega)
    simpa [ByteArray.size] using this
  · decide
def nodeF (k : Nat) (x : S31) (i : Int) : Option ByteArray := (atF k x i).bind fun t => if 1000000 < t.2.1.size then none else some (if t.2.2 = true then textS t.1 t.2.1 else ⟨#[97, 110, 32, 105, 110, 115, 101, 114, 116, 101, 100, 32, 110, 111, 100, 101]⟩)
set_option maxHeartbeats 8000000 in
set_option maxRecDepth 100000 in
theorem node_calls (k : Nat) (x : S31) (A2 : Option Addr) (c2 : Nat) (A3 : Option Addr) (c3 : Nat) (i : Int) (r : ByteArray) (w : World) (hG : Glob w) (h2 : Kd.C Kd.string w A2 x.f2.length x.f2) (l2 : x.f2.length ≤ c2) (h3 : Kd.C k31 w A3 x.f3.length x.f3) (l3 : x.f3.length ≤ c3) (h : nodeF k x i = some r) :
    Calls Tryd.prog 33 #[.agg #[.int .i64 x.f0, .string x.f1, .slice A2 x.f2.length c2, .slice A3 x.f3.length c3], .int .i64 i] w fun e w' => e = .returned (.string r) ∧ Below w.heap.size w w' := by
  have hu31 := Tryd.underlying31
  have H2 := Aside0.mk h2
  have L2 := Aside0.mk l2
  have H3 := Aside0.mk h3
  have L3 := Aside0.mk l3
  have HG := Aside0.mk hG
  clear h2 l2 h3 l3 hG
  have HB := Aside0.mk (Below.refl w.heap.size w)
  unfold nodeF at h
  obtain ⟨⟨kd, tx, b⟩, ht, h⟩ := Option.bind_eq_some_iff.1 h
  have HT := Aside0.mk ht
  clear ht
  dsimp only at h
  by_cases hsz : 1000000 < tx.size
  · rw [if_pos hsz] at h
    cases h
  rw [if_neg hsz] at h
  obtain rfl := Option.some.inj h
  clear h
  cases b with
  | false =>
    rw [if_neg (by simp)]
    clear hsz
    go_enter Tryd.func33, Tryd.ntmps33
    go_wp2_with (first | ((with_reducible refine gate_dst (N := 2) rfl ?_); refine box_event ?hg (N := 2) ?hd (cs := #[.int .i64 x.f0, .string x.f1, .slice A2 x.f2.length c2, .slice A3 x.f3.length c3]) (t := 31) ?hr ?_; (case hd => rfl); (case hg => rfl); (case hr => first | (go_simp; done) | (go_simp; rfl)); intro g2 hg w1 hbox hb; have n0_ := Aside0.mk (below_step HB.out hb); have BK2 := Aside0.mk hbox; clear HB; have HB := n0_; clear n0_ hb hbox hg; have z20 := (blk_cell BK2.out 0).trans rfl; have z21 := (blk_cell BK2.out 1).trans rfl; have z22 := (blk_cell BK2.out 2).trans rfl; have z23 := (blk_cell BK2.out 3).trans rfl) | (go_at_call 56; go_loud ((with_reducible refine (At_calls k x A2 c2 A3 c3 i (kd, tx, false) _ (Kd.C_below H2.out HB.out) L2.out (Kd.C_below H3.out HB.out) L3.out HT.out).mono ?_); rintro e w4 ⟨⟨B2, n2, d2, B3, n3, d3, rfl⟩, hb4⟩; have n0_ := Aside0.mk (below_step HB.out hb4); clear HB BK2; have HB := n0_; clear n0_ hb4 z20 z21 z22 z23)) | ((with_reducible refine gate_dst (N := 5) rfl ?_); refine box_event ?hg (N := 5) ?hd (cs := #[.int .i64 0, .string (⟨#[]⟩ : ByteArray), .slice none 0 0, .slice none 0 0]) (t := 31) ?hr ?_; (case hd => rfl); (case hg => rfl); (case hr => first | (go_simp; done) | (go_simp; rfl)); intro g5 hg w5 hbox hb; have n0_ := Aside0.mk (below_step HB.out hb); have BK5 := Aside0.mk hbox; have GE5 := Aside0.mk (by rw [hg]; exact HB.out.size : w.heap.size ≤ g5); clear HB; have HB := n0_; clear n0_ hb hbox hg; have z50 := (blk_cell BK5.out 0).trans rfl; have y50 := blk_frozen BK5.out 0; have z51 := (blk_cell BK5.out 1).trans rfl; have y51 := blk_frozen BK5.out 1; have z52 := (blk_cell BK5.out 2).trans rfl; have y52 := blk_frozen BK5.out 2; have z53 := (blk_cell BK5.out 3).trans rfl; have y53 := blk_frozen BK5.out 3))
    go_ret
    exact ⟨rfl, (below_set (below_set (below_set (below_set HB.out GE5.out) GE5.out) GE5.out) GE5.out)⟩
  | true =>
    rw [if_pos rfl]
    unfold textS
    have hks := kindS_size kd
    have ht1 : (⟨#[32]⟩ : ByteArray).size + tx.size ≤ 9223372036854775807 := by
      show 1 + tx.size ≤ _
      omega
    have ht1' : 1 + tx.size ≤ 9223372036854775807 := by omega
    have hta : ((⟨#[32]⟩ : ByteArray) ++ tx).size = 1 + tx.size := by rw [ByteArray.size_append]; rfl
    have ht2 : (kindS kd).size + ((⟨#[32]⟩ : ByteArray) ++ tx).size ≤ 9223372036854775807 := by omega
    have ht1b := decide_eq_true ht1
    have ht1c := decide_eq_true ht1'
    have ht1d : (9223372036854775807 < 1 + tx.size) = False := eq_false (by omega)
    have ht2b := decide_eq_true ht2
    have ht2c : (9223372036854775807 < (kindS kd).size + ((⟨#[32]⟩ : ByteArray) ++ tx).size) = False := eq_false (by omega)
    clear hsz hks hta ht1
    by_cases c1 : 1 ≤ kd
    · have e1 : decide (kd ≥ 1) = true := decide_eq_true c1
      have e1' : decide (1 ≤ kd) = true := decide_eq_true c1
      by_cases c2 : kd ≤ 26
      · have e2 : decide (kd ≤ 26) = true := decide_eq_true c2
        obtain ⟨v, hv⟩ : ∃ v : Nat, kd - 1 = (v : Int) := ⟨(kd - 1).toNat, by omega⟩
        have hv5 : v < 26 := by omega
        have hK : kindS kd = ⟨(namesL.getD v []).toArray⟩ := by unfold kindS; rw [if_pos ⟨c1, c2⟩, hv, Int.toNat_natCast]
        have hw : IntKind.i64.wrap (kd - 1) = (v : Int) := (i64_w _).trans (by unfold wrap64; omega)
        have hn : ((v : Int) < 0) = False := eq_false (by omega)
        have hm : ((v : Int) < 26) = True := eq_true (by omega)
        have hm2 : (v < 26) = True := eq_true (by omega)
        have h0 : ((0 : Int) ≤ (v : Int)) = True := eq_true (by omega)
        have hcell := names_cell v hv5
        rw [hK] at ht2 ht2b ht2c ⊢
        generalize (⟨(namesL.getD v []).toArray⟩ : ByteArray) = sK at hcell ht2 ht2b ht2c ⊢
        have HCL := Aside0.mk hcell
        clear hcell c1 c2 hv hv5 hK
        by_cases c3 : tx.toList = []
        · have e3 : (tx.toList == []) = true := beq_iff_eq.mpr c3
          have e4 : (tx.toList != []) = false := bne_eq_false_iff_eq.mpr c3
          rw [if_pos c3]
          clear c3
          go_enter Tryd.func33, Tryd.ntmps33
          go_wp2_with (first | ((with_reducible refine gate_dst (N := 2) rfl ?_); refine box_event ?hg (N := 2) ?hd (cs := #[.int .i64 x.f0, .string x.f1, .slice A2 x.f2.length c2, .slice A3 x.f3.length c3]) (t := 31) ?hr ?_; (case hd => rfl); (case hg => rfl); (case hr => first | (go_simp; done) | (go_simp; rfl)); intro g2 hg w1 hbox hb; have n0_ := Aside0.mk (below_step HB.out hb); have BK2 := Aside0.mk hbox; clear HB; have HB := n0_; clear n0_ hb hbox hg; have z20 := (blk_cell BK2.out 0).trans rfl; have z21 := (blk_cell BK2.out 1).trans rfl; have z22 := (blk_cell BK2.out 2).trans rfl; have z23 := (blk_cell BK2.out 3).trans rfl) | (go_at_call 56; go_loud ((with_reducible refine (At_calls k x A2 c2 A3 c3 i (kd, tx, true) _ (Kd.C_below H2.out HB.out) L2.out (Kd.C_below H3.out HB.out) L3.out HT.out).mono ?_); rintro e w4 ⟨⟨B2, n2, d2, B3, n3, d3, rfl⟩, hb4⟩; have n0_ := Aside0.mk (below_step HB.out hb4); clear HB BK2; have HB := n0_; clear n0_ hb4 z20 z21 z22 z23)) | ((with_reducible refine gate_dst (N := 5) rfl ?_); refine box_event ?hg (N := 5) ?hd (cs := #[.int .i64 0, .string (⟨#[]⟩ : ByteArray), .slice none 0 0, .slice none 0 0]) (t := 31) ?hr ?_; (case hd => rfl); (case hg => rfl); (case hr => first | (go_simp; done) | (go_simp; rfl)); intro g5 hg w5 hbox hb; have n0_ := Aside0.mk (below_step HB.out hb); have BK5 := Aside0.mk hbox; have GE5 := Aside0.mk (by rw [hg]; exact HB.out.size : w.heap.size ≤ g5); have ne15 : (1 : Nat) ≠ g5 := (by rw [hg]; exact Nat.ne_of_lt ((HG.out.below HB.out).2.1.lt)); have ne51 := ne15.symm; clear HB; have HB := n0_; clear n0_ hb hbox hg; have hgc := glob_cell (HG.out.below HB.out).2.1 HCL.out; have z50 := (blk_cell BK5.out 0).trans rfl; have y50 := blk_frozen BK5.out 0; have z51 := (blk_cell BK5.out 1).trans rfl; have y51 := blk_frozen BK5.out 1; have z52 := (blk_cell BK5.out 2).trans rfl; have y52 := blk_frozen BK5.out 2; have z53 := (blk_cell BK5.out 3).trans rfl; have y53 := blk_frozen BK5.out 3))
          go_ret
          exact ⟨rfl, (below_set (below_set (below_set (below_set HB.out GE5.out) GE5.out) GE5.out) GE5.out)⟩
        · have e3 : (tx.toList == []) = false := beq_eq_false_iff_ne.mpr c3
          have e4 : (tx.toList != []) = true := bne_iff_ne.mpr c3
          rw [if_neg c3]
          clear c3
          go_enter Tryd.func33, Tryd.ntmps33
          go_wp2_with (first | ((with_reducible refine gate_dst (N := 2) rfl ?_); refine box_event ?hg (N := 2) ?hd (cs := #[.int .i64 x.f0, .string x.f1, .slice A2 x.f2.length c2, .slice A3 x.f3.length c3]) (t := 31) ?hr ?_; (case hd => rfl); (case hg => rfl); (case hr => first | (go_simp; done) | (go_simp; rfl)); intro g2 hg w1 hbox hb; have n0_ := Aside0.mk (below_step HB.out hb); have BK2 := Aside0.mk hbox; clear HB; have HB := n0_; clear n0_ hb hbox hg; have z20 := (blk_cell BK2.out 0).trans rfl; have z21 := (blk_cell BK2.out 1).trans rfl; have z22 := (blk_cell BK2.out 2).trans rfl; have z23 := (blk_cell BK2.out 3).trans rfl) | (go_at_call 56; go_loud ((with_reducible refine (At_calls k x A2 c2 A3 c3 i (kd, tx, true) _ (Kd.C_below H2.out HB.out) L2.out (Kd.C_below H3.out HB.out) L3.out HT.out).mono ?_); rintro e w4 ⟨⟨B2, n2, d2, B3, n3, d3, rfl⟩, hb4⟩; have n0_ := Aside0.mk (below_step HB.out hb4); clear HB BK2; have HB := n0_; clear n0_ hb4 z20 z21 z22 z23)) | ((with_reducible refine gate_dst (N := 5) rfl ?_); refine box_event ?hg (N := 5) ?hd (cs := #[.int .i64 0, .string (⟨#[]⟩ : ByteArray), .slice none 0 0, .slice none 0 0]) (t := 31) ?hr ?_; (case hd => rfl); (case hg => rfl); (case hr => first | (go_simp; done) | (go_simp; rfl)); intro g5 hg w5 hbox hb; have n0_ := Aside0.mk (below_step HB.out hb); have BK5 := Aside0.mk hbox; have GE5 := Aside0.mk (by rw [hg]; exact HB.out.size : w.heap.size ≤ g5); have ne15 : (1 : Nat) ≠ g5 := (by rw [hg]; exact Nat.ne_of_lt ((HG.out.below HB.out).2.1.lt)); have ne51 := ne15.symm; clear HB; have HB := n0_; clear n0_ hb hbox hg; have hgc := glob_cell (HG.out.below HB.out).2.1 HCL.out; have z50 := (blk_cell BK5.out 0).trans rfl; have y50 := blk_frozen BK5.out 0; have z51 := (blk_cell BK5.out 1).trans rfl; have y51 := blk_frozen BK5.out 1; have z52 := (blk_cell BK5.out 2).trans rfl; have y52 := blk_frozen BK5.out 2; have z53 := (blk_cell BK5.out 3).trans rfl; have y53 := blk_frozen BK5.out 3))
          go_ret
          exact ⟨rfl, (below_set (below_set (below_set (below_set HB.out GE5.out) GE5.out) GE5.out) GE5.out)⟩
      · have e2 : decide (kd ≤ 26) = false := decide_eq_false c2
        have hK : kindS kd = ⟨#[110, 111, 100, 101]⟩ := by unfold kindS; rw [if_neg (fun q => c2 q.2)]
        rw [hK] at ht2 ht2b ht2c ⊢
        clear c1 c2 hK
        by_cases c3 : tx.toList = []
        · have e3 : (tx.toList == []) = true := beq_iff_eq.mpr c3
          have e4 : (tx.toList != []) = false := bne_eq_false_iff_eq.mpr c3
          rw [if_pos c3]
          clear c3
          go_enter Tryd.func33, Tryd.ntmps33
          go_wp2_with (first | ((with_reducible refine gate_dst (N := 2) rfl ?_); refine box_event ?hg (N := 2) ?hd (cs := #[.int .i64 x.f0, .string x.f1, .slice A2 x.f2.length c2, .slice A3 x.f3.length c3]) (t := 31) ?hr ?_; (case hd => rfl); (case hg => rfl); (case hr => first | (go_simp; done) | (go_simp; rfl)); intro g2 hg w1 hbox hb; have n0_ := Aside0.mk (below_step HB.out hb); have BK2 := Aside0.mk hbox; clear HB; have HB := n0_; clear n0_ hb hbox hg; have z20 := (blk_cell BK2.out 0).trans rfl; have z21 := (blk_cell BK2.out 1).trans rfl; have z22 := (blk_cell BK2.out 2).trans rfl; have z23 := (blk_cell BK2.out 3).trans rfl) | (go_at_call 56; go_loud ((with_reducible refine (At_calls k x A2 c2 A3 c3 i (kd, tx, true) _ (Kd.C_below H2.out HB.out) L2.out (Kd.C_below H3.out HB.out) L3.out HT.out).mono ?_); rintro e w4 ⟨⟨B2, n2, d2, B3, n3, d3, rfl⟩, hb4⟩; have n0_ := Aside0.mk (below_step HB.out hb4); clear HB BK2; have HB := n0_; clear n0_ hb4 z20 z21 z22 z23)) | ((with_reducible refine gate_dst (N := 5) rfl ?_); refine box_event ?hg (N := 5) ?hd (cs := #[.int .i64 0, .string (⟨#[]⟩ : ByteArray), .slice none 0 0, .slice none 0 0]) (t := 31) ?hr ?_; (case hd => rfl); (case hg => rfl); (case hr => first | (go_simp; done) | (go_simp; rfl)); intro g5 hg w5 hbox hb; have n0_ := Aside0.mk (below_step HB.out hb); have BK5 := Aside0.mk hbox; have GE5 := Aside0.mk (by rw [hg]; exact HB.out.size : w.heap.size ≤ g5); clear HB; have HB := n0_; clear n0_ hb hbox hg; have z50 := (blk_cell BK5.out 0).trans rfl; have y50 := blk_frozen BK5.out 0; have z51 := (blk_cell BK5.out 1).trans rfl; have y51 := blk_frozen BK5.out 1; have z52 := (blk_cell BK5.out 2).trans rfl; have y52 := blk_frozen BK5.out 2; have z53 := (blk_cell BK5.out 3).trans rfl; have y53 := blk_frozen BK5.out 3))
          go_ret
          exact ⟨rfl, (below_set (below_set (below_set (below_set HB.out GE5.out) GE5.out) GE5.out) GE5.out)⟩
        · have e3 : (tx.toList == []) = false := beq_eq_false_iff_ne.mpr c3
          have e4 : (tx.toList != []) = true := bne_iff_ne.mpr c3
          rw [if_neg c3]
          clear c3
          go_enter Tryd.func33, Tryd.ntmps33
          go_wp2_with (first | ((with_reducible refine gate_dst (N := 2) rfl ?_); refine box_event ?hg (N := 2) ?hd (cs := #[.int .i64 x.f0, .string x.f1, .slice A2 x.f2.length c2, .slice A3 x.f3.length c3]) (t := 31) ?hr ?_; (case hd => rfl); (case hg => rfl); (case hr => first | (go_simp; done) | (go_simp; rfl)); intro g2 hg w1 hbox hb; have n0_ := Aside0.mk (below_step HB.out hb); have BK2 := Aside0.mk hbox; clear HB; have HB := n0_; clear n0_ hb hbox hg; have z20 := (blk_cell BK2.out 0).trans rfl; have z21 := (blk_cell BK2.out 1).trans rfl; have z22 := (blk_cell BK2.out 2).trans rfl; have z23 := (blk_cell BK2.out 3).trans rfl) | (go_at_call 56; go_loud ((with_reducible refine (At_calls k x A2 c2 A3 c3 i (kd, tx, true) _ (Kd.C_below H2.out HB.out) L2.out (Kd.C_below H3.out HB.out) L3.out HT.out).mono ?_); rintro e w4 ⟨⟨B2, n2, d2, B3, n3, d3, rfl⟩, hb4⟩; have n0_ := Aside0.mk (below_step HB.out hb4); clear HB BK2; have HB := n0_; clear n0_ hb4 z20 z21 z22 z23)) | ((with_reducible refine gate_dst (N := 5) rfl ?_); refine box_event ?hg (N := 5) ?hd (cs := #[.int .i64 0, .string (⟨#[]⟩ : ByteArray), .slice none 0 0, .slice none 0 0]) (t := 31) ?hr ?_; (case hd => rfl); (case hg => rfl); (case hr => first | (go_simp; done) | (go_simp; rfl)); intro g5 hg w5 hbox hb; have n0_ := Aside0.mk (below_step HB.out hb); have BK5 := Aside0.mk hbox; have GE5 := Aside0.mk (by rw [hg]; exact HB.out.size : w.heap.size ≤ g5); clear HB; have HB := n0_; clear n0_ hb hbox hg; have z50 := (blk_cell BK5.out 0).trans rfl; have y50 := blk_frozen BK5.out 0; have z51 := (blk_cell BK5.out 1).trans rfl; have y51 := blk_frozen BK5.out 1; have z52 := (blk_cell BK5.out 2).trans rfl; have y52 := blk_frozen BK5.out 2; have z53 := (blk_cell BK5.out 3).trans rfl; have y53 := blk_frozen BK5.out 3))
          go_ret
          exact ⟨rfl, (below_set (below_set (below_set (below_set HB.out GE5.out) GE5.out) GE5.out) GE5.out)⟩
    · have e1 : decide (kd ≥ 1) = false := decide_eq_false c1
      have e1' : decide (1 ≤ kd) = false := decide_eq_false c1
      have hK : kindS kd = ⟨#[110, 111, 100, 101]⟩ := by unfold kindS; rw [if_neg (fun q => c1 q.1)]
      rw [hK] at ht2 ht2b ht2c ⊢
      clear c1 hK
      by_cases c3 : tx.toList = []
      · have e3 : (tx.toList == []) = true := beq_iff_eq.mpr c3
        have e4 : (tx.toList != []) = false := bne_eq_false_iff_eq.mpr c3
        rw [if_pos c3]
        clear c3
        go_enter Tryd.func33, Tryd.ntmps33
        go_wp2_with (first | ((with_reducible refine gate_dst (N := 2) rfl ?_); refine box_event ?hg (N := 2) ?hd (cs := #[.int .i64 x.f0, .string x.f1, .slice A2 x.f2.length c2, .slice A3 x.f3.length c3]) (t := 31) ?hr ?_; (case hd => rfl); (case hg => rfl); (case hr => first | (go_simp; done) | (go_simp; rfl)); intro g2 hg w1 hbox hb; have n0_ := Aside0.mk (below_step HB.out hb); have BK2 := Aside0.mk hbox; clear HB; have HB := n0_; clear n0_ hb hbox hg; have z20 := (blk_cell BK2.out 0).trans rfl; have z21 := (blk_cell BK2.out 1).trans rfl; have z22 := (blk_cell BK2.out 2).trans rfl; have z23 := (blk_cell BK2.out 3).trans rfl) | (go_at_call 56; go_loud ((with_reducible refine (At_calls k x A2 c2 A3 c3 i (kd, tx, true) _ (Kd.C_below H2.out HB.out) L2.out (Kd.C_below H3.out HB.out) L3.out HT.out).mono ?_); rintro e w4 ⟨⟨B2, n2, d2, B3, n3, d3, rfl⟩, hb4⟩; have n0_ := Aside0.mk (below_step HB.out hb4); clear HB BK2; have HB := n0_; clear n0_ hb4 z20 z21 z22 z23)) | ((with_reducible refine gate_dst (N := 5) rfl ?_); refine box_event ?hg (N := 5) ?hd (cs := #[.int .i64 0, .string (⟨#[]⟩ : ByteArray), .slice none 0 0, .slice none 0 0]) (t := 31) ?hr ?_; (case hd => rfl); (case hg => rfl); (case hr => first | (go_simp; done) | (go_simp; rfl)); intro g5 hg w5 hbox hb; have n0_ := Aside0.mk (below_step HB.out hb); have BK5 := Aside0.mk hbox; have GE5 := Aside0.mk (by rw [hg]; exact HB.out.size : w.heap.size ≤ g5); clear HB; have HB := n0_; clear n0_ hb hbox hg; have z50 := (blk_cell BK5.out 0).trans rfl; have y50 := blk_frozen BK5.out 0; have z51 := (blk_cell BK5.out 1).trans rfl; have y51 := blk_frozen BK5.out 1; have z52 := (blk_cell BK5.out 2).trans rfl; have y52 := blk_frozen BK5.out 2; have z53 := (blk_cell BK5.out 3).trans rfl; have y53 := blk_frozen BK5.out 3))
        go_ret
        exact ⟨rfl, (below_set (below_set (below_set (below_set HB.out GE5.out) GE5.out) GE5.out) GE5.out)⟩
      · have e3 : (tx.toList == []) = false := beq_eq_false_iff_ne.mpr c3
        have e4 : (tx.toList != []) = true := bne_iff_ne.mpr c3
        rw [if_neg c3]
        clear c3
        go_enter Tryd.func33, Tryd.ntmps33
        go_wp2_with (first | ((with_reducible refine gate_dst (N := 2) rfl ?_); refine box_event ?hg (N := 2) ?hd (cs := #[.int .i64 x.f0, .string x.f1, .slice A2 x.f2.length c2, .slice A3 x.f3.length c3]) (t := 31) ?hr ?_; (case hd => rfl); (case hg => rfl); (case hr => first | (go_simp; done) | (go_simp; rfl)); intro g2 hg w1 hbox hb; have n0_ := Aside0.mk (below_step HB.out hb); have BK2 := Aside0.mk hbox; clear HB; have HB := n0_; clear n0_ hb hbox hg; have z20 := (blk_cell BK2.out 0).trans rfl; have z21 := (blk_cell BK2.out 1).trans rfl; have z22 := (blk_cell BK2.out 2).trans rfl; have z23 := (blk_cell BK2.out 3).trans rfl) | (go_at_call 56; go_loud ((with_reducible refine (At_calls k x A2 c2 A3 c3 i (kd, tx, true) _ (Kd.C_below H2.out HB.out) L2.out (Kd.C_below H3.out HB.out) L3.out HT.out).mono ?_); rintro e w4 ⟨⟨B2, n2, d2, B3, n3, d3, rfl⟩, hb4⟩; have n0_ := Aside0.mk (below_step HB.out hb4); clear HB BK2; have HB := n0_; clear n0_ hb4 z20 z21 z22 z23)) | ((with_reducible refine gate_dst (N := 5) rfl ?_); refine box_event ?hg (N := 5) ?hd (cs := #[.int .i64 0, .string (⟨#[]⟩ : ByteArray), .slice none 0 0, .slice none 0 0]) (t := 31) ?hr ?_; (case hd => rfl); (case hg => rfl); (case hr => first | (go_simp; done) | (go_simp; rfl)); intro g5 hg w5 hbox hb; have n0_ := Aside0.mk (below_step HB.out hb); have BK5 := Aside0.mk hbox; have GE5 := Aside0.mk (by rw [hg]; exact HB.out.size : w.heap.size ≤ g5); clear HB; have HB := n0_; clear n0_ hb hbox hg; have z50 := (blk_cell BK5.out 0).trans rfl; have y50 := blk_frozen BK5.out 0; have z51 := (blk_cell BK5.out 1).trans rfl; have y51 := blk_frozen BK5.out 1; have z52 := (blk_cell BK5.out 2).trans rfl; have y52 := blk_frozen BK5.out 2; have z53 := (blk_cell BK5.out 3).trans rfl; have y53 := blk_frozen BK5.out 3))
        go_ret
        exact ⟨rfl, (below_set (below_set (below_set (below_set HB.out GE5.out) GE5.out) GE5.out) GE5.out)⟩

theorem words_size : ∀ v < 5, (wordsL.getD v []).length ≤ 30 := by decide
theorem wordS_size (kd : Int) : (wordS kd).size ≤ 30 := by
  unfold wordS
  split
  · rename_i c
    have := words_size (kd - 1).toNat (by omega)
    simpa [ByteArray.size] using this
  · decide
def headS (kd : Int) (nd : ByteArray) : ByteArray := wordS kd ++ (⟨#[32, 99, 111, 110, 102, 108, 105, 99, 116, 32, 97, 116, 32]⟩ : ByteArray) ++ nd ++ ⟨#[10]⟩
def explF (k : Nat) (x : S31) (c : S23) : Option (List ByteArray) := (nodeF k x c.f1).bind fun nd => (conflict_version.f k ⟨#[98, 97, 115, 101]⟩ c.f2).bind fun a => (conflict_version.f k ⟨#[108, 101, 102, 116]⟩ c.f3).bind fun b => (conflict_version.f k ⟨#[114, 105, 103, 104, 116]⟩ c.f4).bind fun d => if nd.size ≤ 2000000 ∧ a.length ≤ 100000 ∧ b.length ≤ 100000 ∧ d.length ≤ 100000 then some (headS c.f0 nd :: (a ++ b ++ d)) else none
set_option maxHeartbeats 8000000 in
set_option maxRecDepth 100000 in
theorem Explain_calls (k : Nat) (x : S31) (A2 : Option Addr) (c2 : Nat) (A3 : Option Addr) (c3 : Nat) (c : S23) (r : List ByteArray) (w : World) (hG : Glob w) (h2 : Kd.C Kd.string w A2 x.f2.length x.f2) (l2 : x.f2.length ≤ c2) (h3 : Kd.C k31 w A3 x.f3.length x.f3) (l3 : x.f3.length ≤ c3) (h : explF k x c = some r) :
    Calls Tryd.prog 15 #[.agg #[.int .i64 x.f0, .string x.f1, .slice A2 x.f2.length c2, .slice A3 x.f3.length c3], .agg #[.int .i64 c.f0, .int .i64 c.f1, .string c.f2, .string c.f3, .string c.f4]] w fun e w' => ∃ v, e = .returned v ∧ Kd.R Kd.string 9 w' w.heap.size (fun _ => True) v r ∧ Below w.heap.size w w' := by
  have hu31 := Tryd.underlying31
  have hu23 := Tryd.underlying23
  have H2 := Aside0.mk h2
  have L2 := Aside0.mk l2
  have H3 := Aside0.mk h3
  have L3 := Aside0.mk l3
  have HG := Aside0.mk hG
  clear h2 l2 h3 l3 hG
  have HB := Aside0.mk (Below.refl w.heap.size w)
  unfold explF at h
  obtain ⟨nd, hnd, h⟩ := Option.bind_eq_some_iff.1 h
  obtain ⟨va, hva, h⟩ := Option.bind_eq_some_iff.1 h
  obtain ⟨vb, hvb, h⟩ := Option.bind_eq_some_iff.1 h
  obtain ⟨vd, hvd, h⟩ := Option.bind_eq_some_iff.1 h
  split at h
  case isFalse => cases h
  rename_i hsz
  have HRR := Aside0.mk (Option.some.inj h)
  have HFL0 := Aside0.mk (show ∀ hd : ByteArray, 0 < [[hd], va, vb, vd].flatten.length from fun hd => by simp)
  have HFLN := Aside0.mk (show ∀ hd : ByteArray, [[hd], va, vb, vd].flatten.length ≤ 1000000 from fun hd => by simp; omega)
  have HND := Aside0.mk hnd
  have HVA := Aside0.mk hva
  have HVB := Aside0.mk hvb
  have HVD := Aside0.mk hvd
  have HSZ := Aside0.mk hsz
  obtain ⟨ws, hws⟩ : ∃ ws, wordS c.f0 = ws := ⟨_, rfl⟩
  have hwz := wordS_size c.f0
  rw [hws] at hwz
  have HWS := Aside0.mk hws
  have HWF := Aside0.mk (show conflict_word.f c.f0 = some ws from congrArg some hws)
  have s1 : (ws ++ (⟨#[32, 99, 111, 110, 102, 108, 105, 99, 116, 32, 97, 116, 32]⟩ : ByteArray)).size = ws.size + 13 := by rw [ByteArray.size_append]; rfl
  have s2 : ((ws ++ (⟨#[32, 99, 111, 110, 102, 108, 105, 99, 116, 32, 97, 116, 32]⟩ : ByteArray)) ++ nd).size = ws.size + 13 + nd.size := by rw [ByteArray.size_append, s1]
  have q1 : ws.size + 13 ≤ 9223372036854775807 := by omega
  have q1b := decide_eq_true q1
  have q1c : (9223372036854775807 < ws.size + 13) = False := eq_false (Nat.not_lt.2 q1)
  have q2 : (ws ++ (⟨#[32, 99, 111, 110, 102, 108, 105, 99, 116, 32, 97, 116, 32]⟩ : ByteArray)).size + nd.size ≤ 9223372036854775807 := by omega
  have q2b := decide_eq_true q2
  have q2c : (9223372036854775807 < (ws ++ (⟨#[32, 99, 111, 110, 102, 108, 105, 99, 116, 32, 97, 116, 32]⟩ : ByteArray)).size + nd.size) = False := eq_false (Nat.not_lt.2 q2)
  have q3 : ((ws ++ (⟨#[32, 99, 111, 110, 102, 108, 105, 99, 116, 32, 97, 116, 32]⟩ : ByteArray)) ++ nd).size + 1 ≤ 9223372036854775807 := by omega
  have q3b := decide_eq_true q3
  have q3c : (9223372036854775807 < ((ws ++ (⟨#[32, 99, 111, 110, 102, 108, 105, 99, 116, 32, 97, 116, 32]⟩ : ByteArray)) ++ nd).size + 1) = False := eq_false (Nat.not_lt.2 q3)
  have r2 : ws.size + 13 + nd.size ≤ 9223372036854775807 := by omega
  have r2b := decide_eq_true r2
  have r2c : (9223372036854775807 < ws.size + 13 + nd.size) = False := eq_false (Nat.not_lt.2 r2)
  have r3 : ws.size + 13 + nd.size + 1 ≤ 9223372036854775807 := by omega
  have r3b := decide_eq_true r3
  have r3c : (9223372036854775807 < ws.size + 13 + nd.size + 1) = False := eq_false (Nat.not_lt.2 r3)
  clear s1 s2 hwz hws q1 q2 q3 r2 r3 h hnd hva hvb hvd hsz
  go_enter Tryd.func15, Tryd.ntmps15
  go_wp2_with (first | ((with_reducible refine gate_dst (N := 2) rfl ?_); refine box_event ?hg (N := 2) ?hd (cs := #[.int .i64 x.f0, .string x.f1, .slice A2 x.f2.length c2, .slice A3 x.f3.length c3]) (t := 31) ?hr ?_; (case hd => rfl); (case hg => rfl); (case hr => first | (go_simp; done) | (go_simp; rfl)); intro g2 hg w1 hbox hb; have n0_ := Aside0.mk (below_step HB.out hb); have BK2 := Aside0.mk hbox; clear HB; have HB := n0_; clear n0_ hb hbox hg) | ((with_reducible refine gate_dst (N := 3) rfl ?_); refine box_event ?hg (N := 3) ?hd (cs := #[.int .i64 c.f0, .int .i64 c.f1, .string c.f2, .string c.f3, .string c.f4]) (t := 23) ?hr ?_; (case hd => rfl); (case hg => rfl); (case hr => first | (go_simp; done) | (go_simp; rfl)); intro g3 hg w2 hbox hb; have n0_ := Aside0.mk (below_step HB.out hb); have n1_ := Aside0.mk (blk_below BK2.out hb); have BK3 := Aside0.mk hbox; clear HB BK2; have HB := n0_; have BK2 := n1_; clear n0_ n1_ hb hbox hg; have z20 := (blk_cell BK2.out 0).trans rfl; have z21 := (blk_cell BK2.out 1).trans rfl; have z22 := (blk_cell BK2.out 2).trans rfl; have z23 := (blk_cell BK2.out 3).trans rfl; have z30 := (blk_cell BK3.out 0).trans rfl; have z31 := (blk_cell BK3.out 1).trans rfl; have z32 := (blk_cell BK3.out 2).trans rfl; have z33 := (blk_cell BK3.out 3).trans rfl; have z34 := (blk_cell BK3.out 4).trans rfl))
  go_region_held3 (fun w' => w'.cell? ⟨g2, 0, none⟩ = some (.int .i64 x.f0) ∧ w'.cell? ⟨g2, 1, none⟩ = some (.string x.f1) ∧ w'.cell? ⟨g2, 2, none⟩ = some (.slice A2 x.f2.length c2) ∧ w'.cell? ⟨g2, 3, none⟩ = some (.slice A3 x.f3.length c3) ∧ w'.cell? ⟨g3, 0, none⟩ = some (.int .i64 c.f0) ∧ w'.cell? ⟨g3, 1, none⟩ = some (.int .i64 c.f1) ∧ w'.cell? ⟨g3, 2, none⟩ = some (.string c.f2) ∧ w'.cell? ⟨g3, 3, none⟩ = some (.string c.f3) ∧ w'.cell? ⟨g3, 4, none⟩ = some (.string c.f4)) (first | go_keep | exact ⟨pw_cell_below HQA.out z20, pw_cell_below HQA.out z21, pw_cell_below HQA.out z22, pw_cell_below HQA.out z23, pw_cell_below HQA.out z30, pw_cell_below HQA.out z31, pw_cell_below HQA.out z32, pw_cell_below HQA.out z33, pw_cell_below HQA.out z34⟩ | exact ⟨pw_cell_below HQB.out (pw_cell_below HQA.out z20), pw_cell_below HQB.out (pw_cell_below HQA.out z21), pw_cell_below HQB.out (pw_cell_below HQA.out z22), pw_cell_below HQB.out (pw_cell_below HQA.out z23), pw_cell_below HQB.out (pw_cell_below HQA.out z30), pw_cell_below HQB.out (pw_cell_below HQA.out z31), pw_cell_below HQB.out (pw_cell_below HQA.out z32), pw_cell_below HQB.out (pw_cell_below HQA.out z33), pw_cell_below HQB.out (pw_cell_below HQA.out z34)⟩) (first | (go_at_call 32; go_loud ((with_reducible refine (conflict_word.calls c.f0 ws _ (HG.out.below (by repeat (first | (with_reducible first | exact HB.out | apply pw_below_drewN | apply below_drew1) | exact HB.out))) HWF.out).mono ?_); rintro e wa ⟨rfl, hba⟩; have HQA := Aside0.mk hba; have HWA := Aside0.mk (below_step (by repeat (first | (with_reducible first | exact HB.out | apply pw_below_drewN | apply below_drew1) | exact HB.out)) hba); clear hba)) | (go_at_call 33; go_loud ((with_reducible refine (node_calls k x A2 c2 A3 c3 c.f1 nd _ (HG.out.below (by repeat (first | (with_reducible first | exact HWA.out | apply pw_below_drewN | apply below_drew1) | exact HWA.out))) (Kd.C_below H2.out (by repeat (first | (with_reducible first | exact HWA.out | apply pw_below_drewN | apply below_drew1) | exact HWA.out))) L2.out (Kd.C_below H3.out (by repeat (first | (with_reducible first | exact HWA.out | apply pw_below_drewN | apply below_drew1) | exact HWA.out))) L3.out HND.out).mono ?_); rintro e wb ⟨rfl, hbb⟩; have HQB := Aside0.mk hbb; have HWB := Aside0.mk (below_step (by repeat (first | (with_reducible first | exact HWA.out | apply pw_below_drewN | apply below_drew1) | exact HWA.out)) hbb); clear hbb)))
  have hrow := blk_new wb (Obj.cells #[Value.string (ws ++ (⟨#[32, 99, 111, 110, 102, 108, 105, 99, 116, 32, 97, 116, 32]⟩ : ByteArray) ++ nd ++ (⟨#[10]⟩ : ByteArray))] 9)
  have hw4 := below_alloc HWB.out (Obj.cells #[Value.string (ws ++ (⟨#[32, 99, 111, 110, 102, 108, 105, 99, 116, 32, 97, 116, 32]⟩ : ByteArray) ++ nd ++ (⟨#[10]⟩ : ByteArray))] 9)
  have hr4 := below_alloc (Below.refl wb.heap.size wb) (Obj.cells #[Value.string (ws ++ (⟨#[32, 99, 111, 110, 102, 108, 105, 99, 116, 32, 97, 116, 32]⟩ : ByteArray) ++ nd ++ (⟨#[10]⟩ : ByteArray))] 9)
  have z42 := pw_cell_below hr4 (pw_cell_below HQB.out (pw_cell_below HQA.out z32))
  have z43 := pw_cell_below hr4 (pw_cell_below HQB.out (pw_cell_below HQA.out z33))
  have z44 := pw_cell_below hr4 (pw_cell_below HQB.out (pw_cell_below HQA.out z34))
  clear hr4
  generalize (wb.alloc (Obj.cells #[Value.string (ws ++ (⟨#[32, 99, 111, 110, 102, 108, 105, 99, 116, 32, 97, 116, 32]⟩ : ByteArray) ++ nd ++ (⟨#[10]⟩ : ByteArray))] 9)) = w4 at hrow hw4 z42 z43 z44 ⊢
  generalize wb.heap.size = g0 at hrow ⊢
  have HROW := Aside0.mk (C_one_str hrow)
  have HHD := Aside0.mk (show headS c.f0 nd = (ws ++ (⟨#[32, 99, 111, 110, 102, 108, 105, 99, 116, 32, 97, 116, 32]⟩ : ByteArray) ++ nd ++ (⟨#[10]⟩ : ByteArray)) by unfold headS; rw [HWS.out])
  generalize (ws ++ (⟨#[32, 99, 111, 110, 102, 108, 105, 99, 116, 32, 97, 116, 32]⟩ : ByteArray) ++ nd ++ (⟨#[10]⟩ : ByteArray)) = hd at HROW HHD ⊢
  have HW4 := Aside0.mk hw4
  have HKN : Aside0 (∀ (W : World) (A : Option Addr), Kd.C (Kd.slice 9 Kd.string) W A 4 [[hd], va, vb, vd] → Calls Tryd.prog 34 #[.slice A 4 4] W fun e w' => ∃ v, e = .returned v ∧ Kd.R Kd.string 9 w' W.heap.size (fun _ => True) v [[hd], va, vb, vd].flatten ∧ Below W.heap.size W w') := ⟨fun W A hC => Concat_calls A 4 [[hd], va, vb, vd] W hC (HFL0.out hd) (HFLN.out hd) (by simp)⟩
  clear hrow hw4 z20 z21 z22 z23 z30 z31 z32 z33 z34 q1b q1c q2b q2c q3b q3c r2b r2c r3b r3c HQA HQB
  go_wp2
  go_region_held3 (fun w' => w'.cell? ⟨g3, 2, none⟩ = some (.string c.f2) ∧ w'.cell? ⟨g3, 3, none⟩ = some (.string c.f3) ∧ w'.cell? ⟨g3, 4, none⟩ = some (.string c.f4)) (first | go_keep | exact ⟨pw_cell_below HQ1.out z42, pw_cell_below HQ1.out z43, pw_cell_below HQ1.out z44⟩ | exact ⟨pw_cell_below HQ2.out (pw_cell_below HQ1.out z42), pw_cell_below HQ2.out (pw_cell_below HQ1.out z43), pw_cell_below HQ2.out (pw_cell_below HQ1.out z44)⟩ | exact ⟨pw_cell_below HQ3.out (pw_cell_below HQ2.out (pw_cell_below HQ1.out z42)), pw_cell_below HQ3.out (pw_cell_below HQ2.out (pw_cell_below HQ1.out z43)), pw_cell_below HQ3.out (pw_cell_below HQ2.out (pw_cell_below HQ1.out z44))⟩ | exact ⟨pw_cell_below HQ4.out (pw_cell_below (below_alloc (Below.refl _ _) _) (pw_cell_below HQ3.out (pw_cell_below HQ2.out (pw_cell_below HQ1.out z42)))), pw_cell_below HQ4.out (pw_cell_below (below_alloc (Below.refl _ _) _) (pw_cell_below HQ3.out (pw_cell_below HQ2.out (pw_cell_below HQ1.out z43)))), pw_cell_below HQ4.out (pw_cell_below (below_alloc (Below.refl _ _) _) (pw_cell_below HQ3.out (pw_cell_below HQ2.out (pw_cell_below HQ1.out z44))))⟩) (first | (go_at_call 35; go_loud ((with_reducible refine (conflict_version.calls k _ c.f2 va _ HVA.out).mono ?_); rintro e wv1 ⟨vv1, rfl, hR1, hbv1⟩; obtain ⟨P1, p1, rfl⟩ := Kd.R_slice hR1; have HR1 := Aside0.mk (Kd.R_reads' hR1); have HQ1 := Aside0.mk (below_step (show Below w4.heap.size w4 _ from by repeat (first | exact Below.refl _ _ | apply pw_below_drewN | apply below_drew1)) hbv1); have HV1 := Aside0.mk (below_step (by repeat (first | (with_reducible first | exact HW4.out | apply pw_below_drewN | apply below_drew1) | exact HW4.out)) hbv1); clear hR1 hbv1)) | (go_at_call 35; go_loud ((with_reducible refine (conflict_version.calls k _ c.f3 vb _ HVB.out).mono ?_); rintro e wv2 ⟨vv2, rfl, hR2, hbv2⟩; obtain ⟨P2, p2, rfl⟩ := Kd.R_slice hR2; have HR2 := Aside0.mk (Kd.R_reads' hR2); have HQ2 := Aside0.mk (below_step (show Below wv1.heap.size wv1 _ from by repeat (first | exact Below.refl _ _ | apply pw_below_drewN | apply below_drew1)) hbv2); have HV2 := Aside0.mk (below_step (by repeat (first | (with_reducible first | exact HV1.out | apply pw_below_drewN | apply below_drew1) | exact HV1.out)) hbv2); clear hR2 hbv2)) | (go_at_call 35; go_loud ((with_reducible refine (conflict_version.calls k _ c.f4 vd _ HVD.out).mono ?_); rintro e wv3 ⟨vv3, rfl, hR3, hbv3⟩; obtain ⟨P3, p3, rfl⟩ := Kd.R_slice hR3; have HR3 := Aside0.mk (Kd.R_reads' hR3); have HQ3 := Aside0.mk (below_step (show Below wv2.heap.size wv2 _ from by repeat (first | exact Below.refl _ _ | apply pw_below_drewN | apply below_drew1)) hbv3); have HV3 := Aside0.mk (below_step (by repeat (first | (with_reducible first | exact HV2.out | apply pw_below_drewN | apply below_drew1) | exact HV2.out)) hbv3); clear hR3 hbv3)) | (go_at_call 34; go_loud (have k3 := (show Below wv3.heap.size wv3 (wv3.alloc (Obj.cells #[.slice (some ⟨g0, 0, none⟩) 1 1, .slice P1 va.length p1, .slice P2 vb.length p2, .slice P3 vd.length p3] 28)) from below_alloc (Below.refl _ _) _); have HCT := Aside0.mk (C_four (W := (wv3.alloc (Obj.cells #[.slice (some ⟨g0, 0, none⟩) 1 1, .slice P1 va.length p1, .slice P2 vb.length p2, .slice P3 vd.length p3] 28))) (a := [hd]) (b := va) (c := vb) (d := vd) (blk_new wv3 (Obj.cells #[.slice (some ⟨g0, 0, none⟩) 1 1, .slice P1 va.length p1, .slice P2 vb.length p2, .slice P3 vd.length p3] 28)) ⟨Nat.le_refl 1, Kd.C_below (Kd.C_below (Kd.C_below (Kd.C_below HROW.out HQ1.out) HQ2.out) HQ3.out) k3⟩ ⟨HR1.out.2.1, Kd.C_below (Kd.C_below (Kd.C_below HR1.out.2.2 HQ2.out) HQ3.out) k3⟩ ⟨HR2.out.2.1, Kd.C_below (Kd.C_below HR2.out.2.2 HQ3.out) k3⟩ ⟨HR3.out.2.1, Kd.C_below HR3.out.2.2 k3⟩); clear k3; (with_reducible refine (HKN.out _ _ HCT.out).mono ?_); rintro e wc ⟨vc, rfl, hRC, hbc⟩; have HRC := Aside0.mk hRC; have HVC := Aside0.mk (below_step (below_alloc HV3.out _) hbc); have HQ4 := Aside0.mk hbc; clear hRC hbc)))
  go_wp2
  go_ret
  refine ⟨_, rfl, ?_, HVC.out⟩
  rw [← HRR.out, HHD.out]
  have hr := Kd.R_lower HRC.out (below_alloc HV3.out _).size
  simpa using hr

theorem loc_mono : ∀ k, (∀ x i, LeO (locF k x i) (locF (k + 1) x i)) ∧ (∀ l i p, LeO (locL k l i p) (locL (k + 1) l i p)) := by
  intro k
  induction k with
  | zero => exact ⟨fun x i => by rw [locF]; exact LeO.none _, fun l i p => by rw [locL]; exact LeO.none _⟩
  | succ k ih =>
    refine ⟨fun x i => ?_, fun l i p => ?_⟩
    · rw [locF, locF]
      exact LeO.ifs (LeO.refl _) (LeO.ifs (ih.2 _ _ _) (LeO.refl _))
    · cases l with
      | nil => rw [locL, locL]; exact LeO.refl _
      | cons x l =>
        rw [locL, locL]
        exact LeO.bnd (ih.1 _ _) (fun t => LeO.ifs (LeO.refl _) (ih.2 _ _ _))
theorem at_mono (k : Nat) (x : S31) (i : Int) : LeO (atF k x i) (atF (k + 1) x i) := by
  unfold atF
  exact LeO.ifs (LeO.refl _) (LeO.bnd ((loc_mono k).1 _ _) (fun t => LeO.ifs (LeO.bnd (tree_clone.mono _ _ _ _ _) (fun _ => LeO.refl _)) (LeO.refl _)))
theorem node_mono (k : Nat) (x : S31) (i : Int) : LeO (nodeF k x i) (nodeF (k + 1) x i) := by
  unfold nodeF
  exact LeO.bnd (at_mono _ _ _) (fun t => LeO.refl _)
theorem expl_mono (k : Nat) (x : S31) (c : S23) : LeO (explF k x c) (explF (k + 1) x c) := by
  unfold explF
  exact LeO.bnd (node_mono _ _ _) (fun _ => LeO.bnd (conflict_version.mono _ _ _) (fun _ => LeO.bnd (conflict_version.mono _ _ _) (fun _ => LeO.bnd (conflict_version.mono _ _ _) (fun _ => LeO.refl _))))
def conflict_Explain.f (k : Nat) (a0_0 : Int) (a0_1 : ByteArray) (l0_2 : List ByteArray) (l0_3 : List (S31)) (a1_0 : Int) (a1_1 : Int) (a1_2 : ByteArray) (a1_3 : ByteArray) (a1_4 : ByteArray) : Option (List ByteArray) := explF k ⟨a0_0, a0_1, l0_2, l0_3⟩ ⟨a1_0, a1_1, a1_2, a1_3, a1_4⟩
theorem conflict_Explain.mono : ∀ a0 a1 a2 a3 a4 a5 a6 a7 a8 k, LeO (conflict_Explain.f k a0 a1 a2 a3 a4 a5 a6 a7 a8) (conflict_Explain.f (k + 1) a0 a1 a2 a3 a4 a5 a6 a7 a8) := fun _ _ _ _ _ _ _ _ _ k => expl_mono k _ _
theorem conflict_Explain.calls (k : Nat) (a0_0 : Int) (a0_1 : ByteArray) (A0_2 : Option Addr) (c0_2 : Nat) (l0_2 : List ByteArray) (A0_3 : Option Addr) (c0_3 : Nat) (l0_3 : List (S31)) (a1_0 : Int) (a1_1 : Int) (a1_2 : ByteArray) (a1_3 : ByteArray) (a1_4 : ByteArray) (r : List ByteArray) (w : World) (hr0_2 : Kd.C Kd.string w A0_2 l0_2.length l0_2) (hc0_2 : l0_2.length ≤ c0_2) (hr0_3 : Kd.C k31 w A0_3 l0_3.length l0_3) (hc0_3 : l0_3.length ≤ c0_3) (hG : Glob w) (h : conflict_Explain.f k a0_0 a0_1 l0_2 l0_3 a1_0 a1_1 a1_2 a1_3 a1_4 = some r) :
    Calls Tryd.prog 15 #[.agg #[.int .i64 a0_0, .string a0_1, .slice A0_2 l0_2.length c0_2, .slice A0_3 l0_3.length c0_3], .agg #[.int .i64 a1_0, .int .i64 a1_1, .string a1_2, .string a1_3, .string a1_4]] w fun e w' => ∃ v0_ : Value, e = .returned (v0_) ∧ Kd.R Kd.string 9 w' w.heap.size (fun _ => True) v0_ r ∧ Below w.heap.size w w' :=
  Explain_calls k ⟨a0_0, a0_1, l0_2, l0_3⟩ A0_2 c0_2 A0_3 c0_3 ⟨a1_0, a1_1, a1_2, a1_3, a1_4⟩ r w hG hr0_2 hc0_2 hr0_3 hc0_3 h

end Go.Proofs.YtcajhkbobpakaaaDoor.Q
