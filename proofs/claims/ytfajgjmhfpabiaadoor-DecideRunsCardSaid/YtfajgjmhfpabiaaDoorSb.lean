/- Add and Remove of a book of decisions: proved here by steps through the program's text; no condition but those that stand in each theorem. -/
import Derived.WalkSpells
import Derived.Deep.RegionLaw
import Derived.Lib.OthersKept
import Derived.Test.YtfajgjmhfpabiaaDoorShelf
import Derived.Test.YtfajgjmhfpabiaaDoorQ0
import Derived.Test.YtfajgjmhfpabiaaDoorQ4
import Derived.Test.YtfajgjmhfpabiaaDoorQ5
import Derived.Test.YtfajgjmhfpabiaaDoorSa
namespace Go.Proofs.YtfajgjmhfpabiaaDoor.Scratch
set_option linter.unusedVariables false
open Go.RowKit Go.Proofs.YtfajgjmhfpabiaaDoorW.PrintWords Go.Proofs.YtfajgjmhfpabiaaDoorW.PrintLast Go.Proofs.YtfajgjmhfpabiaaDoorW.PrintMore Go.Proofs.YtfajgjmhfpabiaaDoor.Q
attribute [local go_sem] max2_int min2_int max_two min_two max_three min_three max_four min_four
/-- Kept, and the world's other parts unchanged. -/
structure KeptS (w w' : World) (S : Nat → Prop) : Prop where
  size : w.heap.size ≤ w'.heap.size
  block : ∀ k, k < w.heap.size → ¬ S k → w'.heap[k]? = w.heap[k]?
  os : w'.os = w.os
  tape : w'.tape = w.tape
  output : w'.output = w.output
theorem KeptS.kept {w w' : World} {S : Nat → Prop} (h : KeptS w w' S) : Kept w w' S := ⟨h.1, h.2⟩
theorem KeptS.refl (w : World) (S : Nat → Prop) : KeptS w w S := ⟨Nat.le_refl _, fun _ _ _ => rfl, rfl, rfl, rfl⟩
theorem KeptS.of_below {w W : World} (h : Below w.heap.size w W) (S : Nat → Prop) : KeptS w W S := ⟨h.size, fun i hi _ => h.block i hi, h.os, h.tape, h.output⟩
theorem KeptS.mono {w W : World} {S S' : Nat → Prop} (h : KeptS w W S) (hs : ∀ k, S k → S' k) : KeptS w W S' := ⟨h.1, (h.kept.mono hs).2, h.os, h.tape, h.output⟩
theorem KeptS.then_ {w W W2 : World} {S S2 : Nat → Prop} (h : KeptS w W S) (k : KeptS W W2 S2) (hs : ∀ k, S2 k → S k ∨ w.heap.size ≤ k) : KeptS w W2 S := ⟨(h.kept.then_ k.kept hs).1, (h.kept.then_ k.kept hs).2, k.os.trans h.os, k.tape.trans h.tape, k.output.trans h.output⟩
theorem KeptS.of_grown {w W W2 : World} {S : Nat → Prop} {row : Option Nat} (hg : W.grownBy W2 row) (h : KeptS w W S) (hr : ∀ k, row = some k → S k ∨ w.heap.size ≤ k) : KeptS w W2 S := ⟨(Kept.of_grown hg h.kept hr).1, (Kept.of_grown hg h.kept hr).2, hg.os.trans h.os, hg.tape.trans h.tape, hg.output.trans h.output⟩
theorem KeptS.below {w W W2 : World} {S : Nat → Prop} (h : KeptS w W S) (hb : Below W.heap.size W W2) : KeptS w W2 S := ⟨(h.kept.below hb).1, (h.kept.below hb).2, hb.os.trans h.os, hb.tape.trans h.tape, hb.output.trans h.output⟩
theorem KeptS.alloc {w W : World} {S : Nat → Prop} (h : KeptS w W S) (o : Obj) : KeptS w (W.alloc o) S := h.below (below_alloc (Below.refl _ _) o)
theorem KeptS.drew {w W : World} {S : Nat → Prop} (h : KeptS w W S) : KeptS w W.drew S := h.below (pw_below_drewN (Below.refl _ _) 1)
theorem KeptS.setCell {w W : World} {S : Nat → Prop} (h : KeptS w W S) {p : Addr} (hp : S p.block ∨ w.heap.size ≤ p.block) (u : Value) : KeptS w (W.setCell p u) S := by
  have e1 : (W.setCell p u).os = W.os := by unfold World.setCell; repeat' split; all_goals rfl
  have e2 : (W.setCell p u).tape = W.tape := by unfold World.setCell; repeat' split; all_goals rfl
  have e3 : (W.setCell p u).output = W.output := by unfold World.setCell; repeat' split; all_goals rfl
  exact ⟨(h.kept.setCell hp u).1, (h.kept.setCell hp u).2, e1.trans h.os, e2.trans h.tape, e3.trans h.output⟩
theorem KeptS.asBelow {w W : World} (h : KeptS w W (fun _ => False)) : Below w.heap.size w W := ⟨h.os, h.tape, h.output, h.size, fun k hk => h.block k hk (fun h => h)⟩

theorem blk_keptS {W W2 : World} {S : Nat → Prop} {g : Nat} {o : Obj} (hb : W.heap[g]? = some o) (hk : KeptS W W2 S) (hne : ¬ S g) : W2.heap[g]? = some o := blk_kept hb hk.kept hne
theorem R_keptS {T : Type} {d : Kd T} {e : TypeId} {W W2 : World} {S : Nat → Prop} {base : Nat} {ok : Nat → Prop} {v : Value} {xs : List T} (h : d.R e W base ok v xs) (hk : KeptS W W2 S) (hne : ∀ k, ok k → ¬ S k) : d.R e W2 base ok v xs := Kd.R_kept h hk.kept hne
theorem C_keptS_came {T : Type} {d : Kd T} {w0 W : World} {A : Option Addr} {n : Nat} {S : Nat → Prop} {xs : List T} (hd : Kd.Heap d) (h : d.C w0 A n xs) (hb : Below w0.heap.size w0 W) (hS : ∀ k, S k → w0.heap.size ≤ k) : ∀ W', KeptS W W' S → d.C W' A n xs := fun W' hk => Kd.C_kept_came hd h hb hS W' hk.kept
theorem BookAt.keptS {w w' : World} {ok S : Nat → Prop} {base b : Nat} {L : List S35} (h : BookAt w ok base b L) (hk : KeptS w w' S) (hn : ∀ k, ok k → ¬ S k) : BookAt w' ok base b L := h.kept hk.kept hn

set_option maxHeartbeats 8000000 in
set_option maxRecDepth 100000 in
theorem sort_Search_calls (g : FuncId) (lb : Array Value) (eg : ∀ args w, (callFunc g args).run Tryd.prog w = .ok (.enter g args) w) (n : Nat) (hn : n ≤ 1000000) (p : Nat → Bool) (w : World)
    (hp : ∀ h, h < n → ∀ W, Below w.heap.size w W → Calls Tryd.prog g (#[.int .i64 (h : Int)] ++ lb) W fun e W' => e = .returned (.bool (p h)) ∧ Below W.heap.size W W')
    (r : Nat) (hr : r ≤ n) (hlo : ∀ h, h < r → p h = false) (hhi : ∀ h, r ≤ h → h < n → p h = true) :
    Calls Tryd.prog 35 #[.int .i64 (n : Int), .func (.func g) #[] lb] w fun e w' => e = .returned (.int .i64 (r : Int)) ∧ Below w.heap.size w w' := by
  have HP := Aside0.mk hp
  clear hp
  go_enter Tryd.func35, Tryd.ntmps35
  go_wp2
  go_loopg [5, 6] n (fun gk v5 v6 w' => ∃ (i j : Nat), v5 = .int .i64 i ∧ v6 = .int .i64 j ∧ i ≤ r ∧ r ≤ j ∧ j ≤ n ∧ gk = j - i ∧ Aside0 (Below w.heap.size w w'))
  case atStart => exact ⟨0, n, rfl, rfl, by omega, hr, by omega, by omega, ⟨Below.refl _ _⟩⟩
  case round =>
    obtain ⟨i, j, rfl, rfl, hi, hj, hjn, hg, HB⟩ := hrel
    by_cases c : i < j
    · have g1 : decide ((i : Int) < (j : Int)) = true := decide_eq_true (by omega)
      have g2 : decide (i < j) = true := decide_eq_true (by omega)
      have hm : ((i : Int) + (j : Int)) / 2 = (((i + j) / 2 : Nat) : Int) := by omega
      obtain ⟨m, hme⟩ : ∃ m, m = (i + j) / 2 := ⟨_, rfl⟩
      rw [← hme] at hm
      have hm1 : i ≤ m := by omega
      have hm2 : m < j := by omega
      have HC := Aside0.mk (HP.out m (by omega) wr HB.out)
      have HM := Aside0.mk hm
      have HM1 := Aside0.mk hm1
      have HM2 := Aside0.mk hm2
      clear hm hme hm1 hm2
      cases hpm : p m with
      | false =>
        rw [hpm] at HC
        have HR := Aside0.mk (show m < r by
          apply Classical.byContradiction
          intro q
          rw [hhi m (by omega) (by have := HM2.out; omega)] at hpm
          cases hpm)
        clear hpm
        go_wp2_with (first | (rw [HM.out]; (with_reducible refine HC.out.mono ?_); rintro e w1 ⟨rfl, hb1⟩; have HB1 := Aside0.mk (below_step HB.out hb1); clear hb1))
        go_roundg (j - (m + 1))
        case measure => have := HM1.out; omega
        case rel => exact ⟨m + 1, j, by rw [show wrap64 ((m : Int) + 1) = ((m + 1 : Nat) : Int) by have := HR.out; unfold wrap64; omega], rfl, by have := HR.out; omega, hj, hjn, rfl, HB1⟩
      | true =>
        rw [hpm] at HC
        have HR := Aside0.mk (show r ≤ m by
          apply Classical.byContradiction
          intro q
          rw [hlo m (by omega)] at hpm
          cases hpm)
        clear hpm
        go_wp2_with (first | (rw [HM.out]; (with_reducible refine HC.out.mono ?_); rintro e w1 ⟨rfl, hb1⟩; have HB1 := Aside0.mk (below_step HB.out hb1); clear hb1))
        go_roundg (m - i)
        case measure => have := HM2.out; omega
        case rel => exact ⟨i, m, rfl, by first | rfl | go_num | simp [HM.out], hi, HR.out, by have := HM2.out; omega, rfl, HB1⟩
    · have g1 : decide ((i : Int) < (j : Int)) = false := decide_eq_false (by omega)
      have g2 : decide (i < j) = false := decide_eq_false (by omega)
      have hir : i = r := by omega
      subst hir
      go_wp2
      go_ret
      exact ⟨rfl, HB.out⟩

theorem enters_add1 : ∀ args w, (callFunc 36 args).run Tryd.prog w = .ok (.enter 36 args) w := fun args w => enters_ Tryd.func36 (by kernel_rfl) rfl args w
set_option maxHeartbeats 8000000 in
set_option maxRecDepth 100000 in
theorem add1_fn (w : World) (ok : Nat → Prop) (base b kb db : Nat) (L : List S35) (hB : BookAt w ok base b L) (d : S35) (hk : w.heap[kb]? = some (.cells #[.pointer (some ⟨b, 0, none⟩)] 23 (0, 0))) (hd : w.heap[db]? = some (.cells #[.int .u64 d.f0, .int .i64 d.f1, .string d.f2, .string d.f3] 35 (0, 0))) (_hl : L.length ≤ 1000) :
    ∀ h, (hh : h < L.length) → ∀ W, Below w.heap.size w W → Calls Tryd.prog 36 (#[.int .i64 (h : Int)] ++ #[.pointer (some ⟨kb, 0, none⟩), .pointer (some ⟨db, 0, none⟩)]) W fun e W' => e = .returned (.bool (decide (d.f0 < L[h].f0))) ∧ Below W.heap.size W W' := by
  intro h hh W hb
  obtain ⟨mb, v, ents, hbb, hM, ⟨hE, _⟩, hR, hne, hob, hom⟩ := hB.out
  obtain ⟨A, c, rfl⟩ := Kd.R_slice hR
  have hx0 := (blk_cell (blk_below hk hb) 0).trans rfl
  change _ = some (Value.pointer (some ⟨b, 0, none⟩)) at hx0
  have hx1 := (blk_cell (blk_below hd hb) 0).trans rfl
  change _ = some (Value.int .u64 d.f0) at hx1
  have hx2 := (book_cells (blk_below hbb hb)).2
  obtain ⟨ad, e, hx⟩ := Kd.at_int (Kd.C_below (Kd.R_reads' hR).2.2 hb) (h : Int) (by omega) (by rw [List.length_map]; omega)
  cases e
  rw [Int.toNat_natCast, getKeys hh] at hx
  rw [List.length_map] at hx2
  have g1 : decide ((h : Int) < (L.length : Int)) = true := decide_eq_true (by omega)
  have p12 : 0 ≤ (h : Int) := by omega
  have q12 : (h : Int) < (L.length : Int) := by omega
  show Calls Tryd.prog _ #[.int .i64 (h : Int), .pointer (some ⟨kb, 0, none⟩), .pointer (some ⟨db, 0, none⟩)] W _
  generalize L[h].f0 = y at *
  clear hM hE hR hB hk hd hbb hne hob hom hb
  go_enter Tryd.func36, Tryd.ntmps36
  go_wp2
  go_region
  go_wp2
  go_ret
  exact ⟨rfl, pw_below_drewN (Below.refl _ _) 1⟩
theorem add1_cl (w : World) (ok : Nat → Prop) (base b kb db : Nat) (L : List S35) (hB : BookAt w ok base b L) (d : S35) (hk : w.heap[kb]? = some (.cells #[.pointer (some ⟨b, 0, none⟩)] 23 (0, 0))) (hd : w.heap[db]? = some (.cells #[.int .u64 d.f0, .int .i64 d.f1, .string d.f2, .string d.f3] 35 (0, 0))) (hl : L.length ≤ 1000) :
    ∀ h, h < L.length → ∀ W, Below w.heap.size w W → Calls Tryd.prog 36 (#[.int .i64 (h : Int)] ++ #[.pointer (some ⟨kb, 0, none⟩), .pointer (some ⟨db, 0, none⟩)]) W fun e W' => e = .returned (.bool (if hh : h < L.length then decide (d.f0 < L[h].f0) else false)) ∧ Below W.heap.size W W' := by
  intro h hh W hb
  rw [dif_pos hh]
  exact add1_fn w ok base b kb db L hB d hk hd hl h hh W hb

/-- copy(v[k:], ys), v a row of scalars of one's own, ys at least as long as what is behind k (it may lie in v itself): the row's end is the beginning of ys then. -/
theorem R_copy_over_step {P : Program} {ops : Array Oper} {o : Oper} {a : Act} {Q : Exit → Act → World → Prop} {Kc : Act → World → Prop} {α : Type} {enc : α → Value} {h1 : ∀ x, (enc x).oneCell' = true} (d : α) {W : World} (base : Nat) (hw : Region.wanted o (yielded ops a.tmps) = true) (s x : Operand) (t t' e : TypeId)
    (ho : o.op = .call { callee := .builtin .copy, args := #[s, x], argTypes := #[t, t'] }) (ht : P.underlying t = some (.slice e)) (hinfo : (P.info? e).map (·.size) = some 1)
    (g k n cap : Nat) (xs ys : List α) (A : Option Addr) (m m2 c c' : Nat) (ok : Nat → Prop) (hs : a.eval s = .slice (if cap = k then some ⟨g, 0, none⟩ else some ⟨g, k, none⟩) m c') (hx : a.eval x = .slice A m2 c)
    (HO : (Kd.scalar enc h1).R e W base ok (.slice (some ⟨g, 0, none⟩) n cap) xs) (HR : (Kd.scalar enc h1).C W A m2 ys) (hm2 : m ≤ m2) (hkm : k + m = xs.length)
    (h : ∀ w1, (Kd.scalar enc h1).R e w1 base ok (.slice (some ⟨g, 0, none⟩) n cap) (xs.take k ++ ys.take m) → W.grownBy w1 (some g) → Kc (a.put o.dst (.int .i64 (m : Int))) w1) :
    if Region.wanted o (yielded ops a.tmps) = true then Oper.wp P o a W Kc Q else Kc (a.put o.dst undef) W := by
  rw [if_pos hw]
  have hR := Kd.reads_of_C (enc := enc) (d := d) (h1 := h1) HR
  have hm : ys.length = m2 := hR.1
  have hown := Kd.own_of_R HO
  have fin : ∀ w1, (Builtin.copy_ #[t, t'] o.type #[.slice (if cap = k then some ⟨g, 0, none⟩ else some ⟨g, k, none⟩) m c', .slice A m2 c]).run P W = .ok (goInt (m : Int)) w1 → (Kd.scalar enc h1).R e w1 base ok (.slice (some ⟨g, 0, none⟩) n cap) (xs.take k ++ ys.take m) → W.grownBy w1 (some g) → Oper.wp P o a W Kc Q := by
    intro w1 hr hrow hg
    unfold Oper.wp execOp
    simp only [ho, resolve, invoke, builtin, Sem.run_bind, Sem.run_pure, Result.andThen_ok, List.map_toArray, List.map_cons, List.map_nil, hs, hx, hr]
    exact h w1 hrow hg
  rcases Nat.eq_zero_or_pos m with h0 | hp
  · subst h0
    refine fin W ?_ (by rw [List.take_zero, List.append_nil, List.take_of_length_le (by omega)]; exact HO) (World.grownBy.refl W _)
    exact run_copy_none W t t' o.type e _ A 0 c' m2 c ht hinfo (Nat.min_zero _)
  · obtain ⟨ad, hA, hc⟩ := hR.2.2 (by omega)
    rcases hown.2 with ⟨hv, _⟩ | ⟨g', cap', cur, hv, hb, hh, hnc, hcm, hcs, htake⟩
    · cases hv
    simp only [Value.slice.injEq, Option.some.injEq, Addr.mk.injEq, and_true] at hv
    obtain ⟨rfl, hn, rfl⟩ := hv
    have hck : ¬ cap = k := by omega
    rw [if_neg hck] at fin
    have hytl : (ys.take m).length = m := by rw [List.length_take]; omega
    have hsrc : ∀ j u, (encs enc (ys.take m))[j]? = some u → W.cell? (ad.add j) = some u := by
      intro j u hu
      have hj : j < (ys.take m).length := by
        rcases Nat.lt_or_ge j (ys.take m).length with h | h
        · exact h
        · rw [List.getElem?_eq_none (by rw [encs_length]; exact h)] at hu
          cases hu
      have e2 : encs enc (ys.take m) = (encs enc ys).take m := by simp [encs, List.map_take]
      rw [e2, List.getElem?_take_of_lt (by omega), encs_get (d := d) _ j (by omega)] at hu
      rw [hc j (by omega), ← hu]
    have hkl : (encs enc (ys.take m)).length = m := by rw [encs_length, hytl]
    have hr := run_copy_cells (P := P) W t t' o.type e g k m c' ad m2 c (encs enc (ys.take m)) ht hinfo (by rw [hkl]; exact (Nat.min_eq_right hm2).symm) hsrc
      (fun j hj => by rw [cell_of_row W g _ cur e (0, 0) hh]; simp; omega) (fun j _ => blk_frozen hh _) (by intro u hu; simp only [encs, List.mem_map] at hu; obtain ⟨q, _, rfl⟩ := hu; exact h1 q)
    obtain ⟨cur', h3, h4, h5⟩ := setCells_row (encs enc (ys.take m)) k W cur hh (by rw [hkl]; omega)
    obtain ⟨s1, s2, s3, s4⟩ := setCells_same g (encs enc (ys.take m)) k W
    refine fin _ (by rw [hA, hr, hkl]) (Kd.R_of_own ?_ HO.1) ⟨s1, s2, s3, by rw [s4]; exact Nat.le_refl _, fun k' _ hk => setCells_far _ _ k' (fun he => hk (by rw [he]))⟩
    have hln : (xs.take k ++ ys.take m).length = xs.length := by
      rw [List.length_append, List.length_take]
      omega
    rw [hln]
    refine ⟨by rw [encs_length, hln, Nat.mul_one], .inr ⟨g, cap, cur', by rw [hn], hb, h3, hnc, hcm, by rw [h4, hcs], ?_⟩⟩
    have htk : cur.toList.take xs.length = encs enc xs := by rw [← htake, Nat.mul_one]
    have e1 : cur.toList.take k = encs enc (xs.take k) := by
      have : encs enc (xs.take k) = (encs enc xs).take k := by simp [encs, List.map_take]
      rw [this, ← htk, List.take_take, Nat.min_eq_left (by omega)]
    rw [h5, hkl, encs_append, Nat.mul_one, e1]
    rw [List.take_append_of_le_length (by rw [List.length_append, encs_length, hkl, List.length_take]; omega)]
    rw [List.take_of_length_le (by rw [List.length_append, encs_length, hkl, List.length_take]; omega)]
theorem cut_run {P : Program} (t e : TypeId) (kl : IntKind) (ht : P.underlying t = some (.slice e)) (hinfo : (P.info? e).map (·.size) = some 1) (A : Option Addr) (n c m : Nat) (hm : m ≤ n) :
    ∃ A' : Option Addr, A' = (if c = m then A else A.map (fun z => z.add m)) ∧ (∀ W : World, (Instr.slice t (.slice A n c) (some (.int kl (m : Int))) none none).run P W = .ok (.slice A' (n - m) (c - m)) W) := by
  obtain ⟨i, hi, hsz⟩ := Option.map_eq_some_iff.1 hinfo
  refine ⟨if c = m then A else A.map (fun z => z.add m), rfl, fun W => ?_⟩
  have hel : P.elem t = e := by simp [Program.elem, ht]
  have hu : P.underlying t = some (.slice (P.elem t)) := by rw [hel]; exact ht
  rw [run_slice_l W t A n c hu kl (m : Int) (Int.natCast_nonneg _) (by omega), hel]
  simp [sizeOf, typeInfo, hi, hsz, sliced, Result.andThen]
theorem add_zero_addr (g p : Nat) : (some (⟨g, 0, none⟩ : Addr)).map (fun x => x.add p) = some ⟨g, p, none⟩ := by
  simp only [Option.map_some, Addr.add]
  cases p <;> simp

theorem ins_eq (A B : List Int) (x : Int) : ((((A ++ B) ++ [(0 : Int)]).take (A.length + 1) ++ (((A ++ B) ++ [(0 : Int)]).drop A.length).take B.length).set A.length x) = A ++ x :: B := by
  have h1 : ((A ++ B) ++ [(0 : Int)]).drop A.length = B ++ [0] := by simp
  have h2 : ((A ++ B) ++ [(0 : Int)]).take (A.length + 1) = A ++ (B ++ [0]).take 1 := by rw [List.append_assoc, List.take_length_add_append]
  rw [h1, h2]
  cases B <;> simp
theorem ins_keys (K : List Int) (p : Nat) (hp : p ≤ K.length) (x : Int) : (((K ++ [(0 : Int)]).take (p + 1) ++ ((K ++ [(0 : Int)]).drop p).take (K.length - p)).set p x) = K.take p ++ x :: K.drop p := by
  have h := ins_eq (K.take p) (K.drop p) x
  rw [List.take_append_drop, List.length_take, List.length_drop, Nat.min_eq_left hp] at h
  exact h

set_option maxHeartbeats 8000000 in
set_option maxRecDepth 100000 in
theorem addB (w : World) (ok : Nat → Prop) (base b : Nat) (L : List S35) (hB : BookAt w ok base b L) (ha : Asc L) (d d0 : S35) (kf : Nat) (hf : decide_fault.f kf d.f0 d.f1 d.f2 d.f3 = some 0) (hin : bookIn L d.f0 = some d0) : Calls Tryd.prog 17 #[.pointer (some ⟨b, 0, none⟩), .agg #[.int .u64 d.f0, .int .i64 d.f1, .string d.f2, .string d.f3]] w fun e w' => e = .returned (.int .i64 0) ∧ BookAt w' ok base b (bookPut L d) ∧ KeptS w w' ok := by
  have HH := Aside0.mk (fun W (hb : Below w.heap.size w W) => decide_Book_has.calls W ok base b L (hB.below hb) d.f0)
  rw [hin] at HH
  obtain ⟨mb, v, ents, hb, hM, ⟨hE, hN⟩, hR, hne, hob, hom⟩ := hB.out
  have Hb := Aside0.mk hb
  have HE := Aside0.mk hE
  have HM := Aside0.mk hM
  have HR := Aside0.mk hR
  have HF := Aside0.mk hf
  clear hb hM hE hR hf
  have hmn : ∀ W : World, (binOp .eql 69 (.map (some mb)) (.map none)).run Tryd.prog W = .ok (.bool false) W := fun W => run_eql_map_nil W 69 _ _ (some mb) Tryd.underlying69
  have HB := Aside0.mk (Below.refl w.heap.size w)
  obtain ⟨W, hW⟩ : ∃ W, W = (w.alloc (.cells #[.pointer (some ⟨b, 0, none⟩)] 23 (0, 0))).alloc (.cells #[.int .u64 d.f0, .int .i64 d.f1, .string d.f2, .string d.f3] 35 (0, 0)) := ⟨_, rfl⟩
  go_enter Tryd.func17, Tryd.ntmps17
  go_wp2_with (first | (go_at_call 33; (with_reducible refine (decide_fault.calls kf d.f0 d.f1 d.f2 d.f3 0 _ HF.out).mono ?_); rintro e w1 ⟨rfl, hb1⟩; have HB1 := Aside0.mk (below_step (by repeat (first | (with_reducible first | exact HB.out | apply below_alloc | apply pw_below_drewN | apply below_drew1) | exact HB.out)) hb1); have hk0 := blk_below (blk_alloc (blk_new w (.cells #[.pointer (some ⟨b, 0, none⟩)] 23 (0, 0))) (.cells #[.int .u64 d.f0, .int .i64 d.f1, .string d.f2, .string d.f3] 35 (0, 0))) hb1; have hd0 := blk_below (blk_new (w.alloc (.cells #[.pointer (some ⟨b, 0, none⟩)] 23 (0, 0))) (.cells #[.int .u64 d.f0, .int .i64 d.f1, .string d.f2, .string d.f3] 35 (0, 0))) hb1; rw [sz_alloc] at hd0; have hkc := (blk_cell hk0 0).trans rfl; have hdc0 := (blk_cell hd0 0).trans rfl; have hdc1 := (blk_cell hd0 1).trans rfl; have hdc2 := (blk_cell hd0 2).trans rfl; have hdc3 := (blk_cell hd0 3).trans rfl; change _ = some (Value.pointer (some ⟨b, 0, none⟩)) at hkc; change _ = some (Value.int .u64 d.f0) at hdc0; change _ = some (Value.int .i64 d.f1) at hdc1; change _ = some (Value.string d.f2) at hdc2; change _ = some (Value.string d.f3) at hdc3; have hbc := (book_cells (blk_below Hb.out HB1.out)).1; have HK0 := Aside0.mk hk0; have HD0 := Aside0.mk hd0; clear hb1 hk0 hd0) | (go_at_call 34; (with_reducible refine (HH.out _ HB1.out).mono ?_); rintro e w2 ⟨rfl, hb2⟩; have HB2 := Aside0.mk (below_step HB1.out hb2); have hkc2 := (blk_cell (blk_below HK0.out hb2) 0).trans rfl; change _ = some (Value.pointer (some ⟨b, 0, none⟩)) at hkc2; have hbc2 := (book_cells (blk_below Hb.out HB2.out)).1; have HM2 := Aside0.mk (HM.out.below HB2.out); have hd2 := blk_below HD0.out hb2; have hec0 := (blk_cell hd2 0).trans rfl; have hec1 := (blk_cell hd2 1).trans rfl; have hec2 := (blk_cell hd2 2).trans rfl; have hec3 := (blk_cell hd2 3).trans rfl; change _ = some (Value.int .u64 d.f0) at hec0; change _ = some (Value.int .i64 d.f1) at hec1; change _ = some (Value.string d.f2) at hec2; change _ = some (Value.string d.f3) at hec3; clear hb2))
  obtain ⟨w3, hrun, hm3, hg3⟩ := run_mapUpdate (KeyOk.int (q := .u64) Tryd.underlying33) Tryd.underlying69 (w := w2.drew) (HM2.out.keep rfl) d.f0 (decV d)
  unfold decV at hrun
  have HM3 := Aside0.mk hm3
  have HG3 := Aside0.mk hg3
  clear hm3 hg3
  go_region
  go_wp2
  go_ret
  have hg := HG3.out
  refine ⟨rfl, ⟨mb, v, _, blk_grown (w := w2.drew) (by have h := blk_below Hb.out HB2.out; exact h) hg (by simpa using hne), HM3.out, ⟨fun k => ?_, mput_nodup _ _ _ hN⟩, ?_, hne, hob, hom⟩, KeptS.of_grown hg (KeptS.drew (KeptS.of_below HB2.out ok)) (fun k e => .inl (by injection e with e; rw [← e]; exact hom.1))⟩
  · rw [mlook_put, HE.out, bookIn_put L d k ha]
    by_cases q : k = d.f0
    · rw [if_pos q, if_pos q]
      rfl
    · rw [if_neg q, if_neg q]
  · rw [bookPut_keys_in L d d0 ha hin]
    exact Kd.R_step (Kd.R_drew (Kd.R_below HR.out HB2.out)) (fun k hk hlt => hg.block k hlt (fun e => hk.2.2 (by injection e)))

set_option maxHeartbeats 8000000 in
set_option maxRecDepth 100000 in
theorem addA (w : World) (ok : Nat → Prop) (base b : Nat) (L : List S35) (hB : BookAt w ok base b L) (d : S35) (c : Int) (kf : Nat) (hf : decide_fault.f kf d.f0 d.f1 d.f2 d.f3 = some c) (hc : c ≠ 0) : Calls Tryd.prog 17 #[.pointer (some ⟨b, 0, none⟩), .agg #[.int .u64 d.f0, .int .i64 d.f1, .string d.f2, .string d.f3]] w fun e w' => e = .returned (.int .i64 c) ∧ Below w.heap.size w w' := by
  have HF := Aside0.mk hf
  clear hf
  have HB := Aside0.mk (Below.refl w.heap.size w)
  have g1 : (c == 0) = false := beq_eq_false_iff_ne.2 hc
  have g2 : (c != 0) = true := bne_iff_ne.2 hc
  go_enter Tryd.func17, Tryd.ntmps17
  go_wp2_with (first | (go_at_call 33; (with_reducible refine (decide_fault.calls kf d.f0 d.f1 d.f2 d.f3 c _ HF.out).mono ?_); rintro e w1 ⟨rfl, hb1⟩; have HB1 := Aside0.mk (below_step (by repeat (first | (with_reducible first | exact HB.out | apply below_alloc | apply pw_below_drewN | apply below_drew1) | exact HB.out)) hb1); have hk0 := blk_below (blk_alloc (blk_new w (.cells #[.pointer (some ⟨b, 0, none⟩)] 23 (0, 0))) (.cells #[.int .u64 d.f0, .int .i64 d.f1, .string d.f2, .string d.f3] 35 (0, 0))) hb1; have HK0 := Aside0.mk hk0; clear hb1 hk0))
  go_ret
  exact ⟨rfl, HB1.out⟩
set_option maxHeartbeats 8000000 in
set_option maxRecDepth 100000 in
theorem addC (w : World) (ok : Nat → Prop) (base b : Nat) (L : List S35) (hB : BookAt w ok base b L) (ha : Asc L) (d : S35) (hfr : ∀ k, w.heap.size ≤ k → ok k) (hlen : 256 ≤ L.length) (hl9 : L.length ≤ 1000) (kf : Nat) (hf : decide_fault.f kf d.f0 d.f1 d.f2 d.f3 = some 0) (hin : bookIn L d.f0 = none) : Calls Tryd.prog 17 #[.pointer (some ⟨b, 0, none⟩), .agg #[.int .u64 d.f0, .int .i64 d.f1, .string d.f2, .string d.f3]] w fun e w' => e = .returned (.int .i64 3) ∧ Below w.heap.size w w' := by
  have HH := Aside0.mk (fun W (hb : Below w.heap.size w W) => decide_Book_has.calls W ok base b L (hB.below hb) d.f0)
  rw [hin] at HH
  obtain ⟨mb, v, ents, hb, hM, ⟨hE, hN⟩, hR, hne, hob, hom⟩ := hB.out
  have Hb := Aside0.mk hb
  have HE := Aside0.mk hE
  have HM := Aside0.mk hM
  have HR := Aside0.mk hR
  have HF := Aside0.mk hf
  clear hb hM hE hR hf
  have hmn : ∀ W : World, (binOp .eql 69 (.map (some mb)) (.map none)).run Tryd.prog W = .ok (.bool false) W := fun W => run_eql_map_nil W 69 _ _ (some mb) Tryd.underlying69
  have HB := Aside0.mk (Below.refl w.heap.size w)
  have HBK := Aside0.mk hB
  obtain ⟨A, c, rfl⟩ := Kd.R_slice HR.out
  have HLT := Aside0.mk (fun j (e : (Value.slice A (L.map fun d => d.f0).length c).ownBlock = some j) => (Kd.R_lt HR.out) j e)
  have hp := posB_le L d.f0
  have HLO := Aside0.mk (posB_lo L d.f0)
  have HHI := Aside0.mk (fun h hl hp => posB_hi L d.f0 h hl ha hp)
  have HLO2 := Aside0.mk (show ∀ h, h < posB L d.f0 → (if hh : h < L.length then decide (d.f0 < L[h].f0) else false) = false from fun h hl => by rw [dif_pos (by omega)]; exact decide_eq_false (HLO.out h (by omega) hl))
  have HHI2 := Aside0.mk (show ∀ h, posB L d.f0 ≤ h → h < L.length → (if hh : h < L.length then decide (d.f0 < L[h].f0) else false) = true from fun h hl hh => by rw [dif_pos hh]; exact decide_eq_true (HHI.out h hh hl))
  have HPK := Aside0.mk (bookPut_keys_new L d ha hin)
  have hml : (L.map fun d => d.f0).length = L.length := List.length_map _
  have g256 : decide ((L.length : Int) ≥ 256) = true := decide_eq_true (by omega)
  have g256b : decide (256 ≤ (L.length : Int)) = true := decide_eq_true (by omega)
  obtain ⟨W, hW⟩ : ∃ W, W = (w.alloc (.cells #[.pointer (some ⟨b, 0, none⟩)] 23 (0, 0))).alloc (.cells #[.int .u64 d.f0, .int .i64 d.f1, .string d.f2, .string d.f3] 35 (0, 0)) := ⟨_, rfl⟩
  go_enter Tryd.func17, Tryd.ntmps17
  go_wp2_with (first | (go_at_call 33; (with_reducible refine (decide_fault.calls kf d.f0 d.f1 d.f2 d.f3 0 _ HF.out).mono ?_); rintro e w1 ⟨rfl, hb1⟩; have HB1 := Aside0.mk (below_step (by repeat (first | (with_reducible first | exact HB.out | apply below_alloc | apply pw_below_drewN | apply below_drew1) | exact HB.out)) hb1); have hk0 := blk_below (blk_alloc (blk_new w (.cells #[.pointer (some ⟨b, 0, none⟩)] 23 (0, 0))) (.cells #[.int .u64 d.f0, .int .i64 d.f1, .string d.f2, .string d.f3] 35 (0, 0))) hb1; have hd0 := blk_below (blk_new (w.alloc (.cells #[.pointer (some ⟨b, 0, none⟩)] 23 (0, 0))) (.cells #[.int .u64 d.f0, .int .i64 d.f1, .string d.f2, .string d.f3] 35 (0, 0))) hb1; rw [sz_alloc] at hd0; have hkc := (blk_cell hk0 0).trans rfl; have hdc0 := (blk_cell hd0 0).trans rfl; have hdc1 := (blk_cell hd0 1).trans rfl; have hdc2 := (blk_cell hd0 2).trans rfl; have hdc3 := (blk_cell hd0 3).trans rfl; change _ = some (Value.pointer (some ⟨b, 0, none⟩)) at hkc; change _ = some (Value.int .u64 d.f0) at hdc0; change _ = some (Value.int .i64 d.f1) at hdc1; change _ = some (Value.string d.f2) at hdc2; change _ = some (Value.string d.f3) at hdc3; have hbc := (book_cells (blk_below Hb.out HB1.out)).1; have HK0 := Aside0.mk hk0; have HD0 := Aside0.mk hd0; clear hb1 hk0 hd0) | (go_at_call 34; (with_reducible refine (HH.out _ HB1.out).mono ?_); rintro e w2 ⟨rfl, hb2⟩; have HB2 := Aside0.mk (below_step HB1.out hb2); have hkc2 := (blk_cell (blk_below HK0.out hb2) 0).trans rfl; change _ = some (Value.pointer (some ⟨b, 0, none⟩)) at hkc2; have hbc2 := (book_cells (blk_below Hb.out HB2.out)).1; have HM2 := Aside0.mk (HM.out.below HB2.out); have hd2 := blk_below HD0.out hb2; have HK2 := Aside0.mk (blk_below HK0.out hb2); have HD2 := Aside0.mk hd2; have HCL := Aside0.mk (add1_cl w2 ok base b w.heap.size (w.heap.size + 1) L (HBK.out.below HB2.out) d (blk_below HK0.out hb2) hd2 (by omega)); have hbc3 := (book_cells (blk_below Hb.out HB2.out)).2; have hec0 := (blk_cell hd2 0).trans rfl; have hec1 := (blk_cell hd2 1).trans rfl; have hec2 := (blk_cell hd2 2).trans rfl; have hec3 := (blk_cell hd2 3).trans rfl; change _ = some (Value.int .u64 d.f0) at hec0; change _ = some (Value.int .i64 d.f1) at hec1; change _ = some (Value.string d.f2) at hec2; change _ = some (Value.string d.f3) at hec3; clear hb2))
  go_wp2
  go_ret
  exact ⟨rfl, HB2.out⟩

set_option maxHeartbeats 8000000 in
set_option maxRecDepth 100000 in
theorem addD (w : World) (ok : Nat → Prop) (base b : Nat) (L : List S35) (hB : BookAt w ok base b L) (ha : Asc L) (d : S35) (hfr : ∀ k, w.heap.size ≤ k → ok k) (hlen : L.length < 256) (kf : Nat) (hf : decide_fault.f kf d.f0 d.f1 d.f2 d.f3 = some 0) (hin : bookIn L d.f0 = none) : Calls Tryd.prog 17 #[.pointer (some ⟨b, 0, none⟩), .agg #[.int .u64 d.f0, .int .i64 d.f1, .string d.f2, .string d.f3]] w fun e w' => e = .returned (.int .i64 0) ∧ BookAt w' ok base b (bookPut L d) ∧ KeptS w w' ok := by
  have HH := Aside0.mk (fun W (hb : Below w.heap.size w W) => decide_Book_has.calls W ok base b L (hB.below hb) d.f0)
  rw [hin] at HH
  obtain ⟨mb, v, ents, hb, hM, ⟨hE, hN⟩, hR, hne, hob, hom⟩ := hB.out
  have Hb := Aside0.mk hb
  have HE := Aside0.mk hE
  have HM := Aside0.mk hM
  have HR := Aside0.mk hR
  have HF := Aside0.mk hf
  clear hb hM hE hR hf
  have hmn : ∀ W : World, (binOp .eql 69 (.map (some mb)) (.map none)).run Tryd.prog W = .ok (.bool false) W := fun W => run_eql_map_nil W 69 _ _ (some mb) Tryd.underlying69
  have HB := Aside0.mk (Below.refl w.heap.size w)
  have HBK := Aside0.mk hB
  obtain ⟨A, c, rfl⟩ := Kd.R_slice HR.out
  have HLT := Aside0.mk (fun j (e : (Value.slice A (L.map fun d => d.f0).length c).ownBlock = some j) => (Kd.R_lt HR.out) j e)
  have hp := posB_le L d.f0
  have HLO := Aside0.mk (posB_lo L d.f0)
  have HHI := Aside0.mk (fun h hl hp => posB_hi L d.f0 h hl ha hp)
  have HLO2 := Aside0.mk (show ∀ h, h < posB L d.f0 → (if hh : h < L.length then decide (d.f0 < L[h].f0) else false) = false from fun h hl => by rw [dif_pos (by omega)]; exact decide_eq_false (HLO.out h (by omega) hl))
  have HHI2 := Aside0.mk (show ∀ h, posB L d.f0 ≤ h → h < L.length → (if hh : h < L.length then decide (d.f0 < L[h].f0) else false) = true from fun h hl hh => by rw [dif_pos hh]; exact decide_eq_true (HHI.out h hh hl))
  have HPK := Aside0.mk (bookPut_keys_new L d ha hin)
  have hml : (L.map fun d => d.f0).length = L.length := List.length_map _
  have g256 : decide ((L.length : Int) ≥ 256) = false := decide_eq_false (by omega)
  have g256b : decide (256 ≤ (L.length : Int)) = false := decide_eq_false (by omega)
  obtain ⟨W, hW⟩ : ∃ W, W = (w.alloc (.cells #[.pointer (some ⟨b, 0, none⟩)] 23 (0, 0))).alloc (.cells #[.int .u64 d.f0, .int .i64 d.f1, .string d.f2, .string d.f3] 35 (0, 0)) := ⟨_, rfl⟩
  go_enter Tryd.func17, Tryd.ntmps17
  go_wp2_with (first | (go_at_call 33; (with_reducible refine (decide_fault.calls kf d.f0 d.f1 d.f2 d.f3 0 _ HF.out).mono ?_); rintro e w1 ⟨rfl, hb1⟩; have HB1 := Aside0.mk (below_step (by repeat (first | (with_reducible first | exact HB.out | apply below_alloc | apply pw_below_drewN | apply below_drew1) | exact HB.out)) hb1); have hk0 := blk_below (blk_alloc (blk_new w (.cells #[.pointer (some ⟨b, 0, none⟩)] 23 (0, 0))) (.cells #[.int .u64 d.f0, .int .i64 d.f1, .string d.f2, .string d.f3] 35 (0, 0))) hb1; have hd0 := blk_below (blk_new (w.alloc (.cells #[.pointer (some ⟨b, 0, none⟩)] 23 (0, 0))) (.cells #[.int .u64 d.f0, .int .i64 d.f1, .string d.f2, .string d.f3] 35 (0, 0))) hb1; rw [sz_alloc] at hd0; have hkc := (blk_cell hk0 0).trans rfl; have hdc0 := (blk_cell hd0 0).trans rfl; have hdc1 := (blk_cell hd0 1).trans rfl; have hdc2 := (blk_cell hd0 2).trans rfl; have hdc3 := (blk_cell hd0 3).trans rfl; change _ = some (Value.pointer (some ⟨b, 0, none⟩)) at hkc; change _ = some (Value.int .u64 d.f0) at hdc0; change _ = some (Value.int .i64 d.f1) at hdc1; change _ = some (Value.string d.f2) at hdc2; change _ = some (Value.string d.f3) at hdc3; have hbc := (book_cells (blk_below Hb.out HB1.out)).1; have HK0 := Aside0.mk hk0; have HD0 := Aside0.mk hd0; clear hb1 hk0 hd0) | (go_at_call 34; (with_reducible refine (HH.out _ HB1.out).mono ?_); rintro e w2 ⟨rfl, hb2⟩; have HB2 := Aside0.mk (below_step HB1.out hb2); have hkc2 := (blk_cell (blk_below HK0.out hb2) 0).trans rfl; change _ = some (Value.pointer (some ⟨b, 0, none⟩)) at hkc2; have hbc2 := (book_cells (blk_below Hb.out HB2.out)).1; have HM2 := Aside0.mk (HM.out.below HB2.out); have hd2 := blk_below HD0.out hb2; have HK2 := Aside0.mk (blk_below HK0.out hb2); have HD2 := Aside0.mk hd2; have HCL := Aside0.mk (add1_cl w2 ok base b w.heap.size (w.heap.size + 1) L (HBK.out.below HB2.out) d (blk_below HK0.out hb2) hd2 (by omega)); have hbc3 := (book_cells (blk_below Hb.out HB2.out)).2; have hec0 := (blk_cell hd2 0).trans rfl; have hec1 := (blk_cell hd2 1).trans rfl; have hec2 := (blk_cell hd2 2).trans rfl; have hec3 := (blk_cell hd2 3).trans rfl; change _ = some (Value.int .u64 d.f0) at hec0; change _ = some (Value.int .i64 d.f1) at hec1; change _ = some (Value.string d.f2) at hec2; change _ = some (Value.string d.f3) at hec3; clear hb2) | (go_at_call 35; (with_reducible refine (sort_Search_calls 36 #[.pointer (some ⟨w.heap.size, 0, none⟩), .pointer (some ⟨w.heap.size + 1, 0, none⟩)] enters_add1 L.length (by omega) (fun h => if hh : h < L.length then decide (d.f0 < L[h].f0) else false) w2 HCL.out (posB L d.f0) hp HLO2.out HHI2.out).mono ?_); rintro e w3 ⟨rfl, hb3⟩; have HB3 := Aside0.mk hb3; clear hb3))
  have hB3 := below_step HB2.out HB3.out
  have HRL0 := HR.out
  rw [hml] at HRL0
  have HRL := Kd.R_mono (ok' := (fun k => (ok k ∧ k ≠ b ∧ k ≠ mb) ∧ k ≠ w.heap.size ∧ k ≠ w.heap.size + 1)) (Kd.R_bound HRL0) (fun k hk => ⟨hk.1, by have := hk.2.2.1; omega, by have := hk.2.2.1; omega⟩)
  have hbn : some b ≠ (Value.slice A L.length c).ownBlock := fun e => ((HRL.1 b e.symm).1.2.1) rfl
  have hmn : some mb ≠ (Value.slice A L.length c).ownBlock := fun e => ((HRL.1 mb e.symm).1.2.2) rfl
  have hkn : some w.heap.size ≠ (Value.slice A L.length c).ownBlock := fun e => Nat.lt_irrefl _ ((Kd.R_lt HRL) _ e.symm)
  have hdn : some (w.heap.size + 1) ≠ (Value.slice A L.length c).ownBlock := fun e => absurd ((Kd.R_lt HRL) _ e.symm) (by omega)
  have HRD := Aside0.mk (Kd.R_drew (Kd.R_below HRL hB3))
  have HK3 := Aside0.mk (blk_below HK2.out HB3.out)
  have HD3 := Aside0.mk (blk_below HD2.out HB3.out)
  have hbb := blk_below Hb.out hB3
  rw [hml] at hbb
  have HBB := Aside0.mk hbb
  have HM3 := Aside0.mk (HM.out.below hB3)
  have hws : w.heap.size ≤ w3.heap.size := hB3.size
  have hfr3 : ∀ k, w3.heap.size ≤ k → (ok k ∧ k ≠ b ∧ k ≠ mb) ∧ k ≠ w.heap.size ∧ k ≠ w.heap.size + 1 := fun k hk => ⟨⟨hfr k (Nat.le_trans hws hk), fun e => by have := blk_lt HBB.out; omega, fun e => by have := HM3.out.lt; omega⟩, fun e => by have := blk_lt HK3.out; omega, fun e => by have := blk_lt HD3.out; omega⟩
  have hbase : base ≤ w3.heap.size := Nat.le_trans hob.2 (Nat.le_of_lt (blk_lt HBB.out))
  have hx0 := (blk_cell HK3.out 0).trans rfl
  change _ = some (Value.pointer (some ⟨b, 0, none⟩)) at hx0
  have hx1 := (book_cells HBB.out).2
  have hf1 := blk_frozen HBB.out 1
  have hy0 : (w3.alloc (Obj.cells #[.int .u64 0] 33)).drew.cell? ⟨w.heap.size, 0, none⟩ = some (.pointer (some ⟨b, 0, none⟩)) := (blk_cell (blk_alloc HK3.out _) 0).trans rfl
  have hy1 : (w3.alloc (Obj.cells #[.int .u64 0] 33)).drew.cell? ⟨b, 1, none⟩ = some (.slice A L.length c) := (book_cells (blk_alloc HBB.out _)).2
  have hl70 : (L.length + 1) * 8 ≤ 140737488355328 := by omega
  have hlen9 : ((L.map fun d => d.f0) ++ [(0 : Int)]).length = L.length + 1 := by simp
  have HHB := Aside0.mk HH.out
  clear hkc hdc0 hdc1 hdc2 hdc3 hbc hkc2 hbc2 hbc3 hd2 hec0 hec1 hec2 hec3 HH HF HCL hbb HHB
  go_cut [] (fun wc => ∃ (A9 : Option Addr) (c9 : Nat), Aside0 (wc.heap[w.heap.size]? = some (.cells #[.pointer (some ⟨b, 0, none⟩)] 23 (0, 0))) ∧ Aside0 (wc.heap[w.heap.size + 1]? = some (.cells #[.int .u64 d.f0, .int .i64 d.f1, .string d.f2, .string d.f3] 35 (0, 0))) ∧ Aside0 (wc.heap[b]? = some (.cells #[.map (some mb), .slice A9 (L.length + 1) c9] 72 (0, 0))) ∧ Aside0 (MapAt u64E wc mb ents) ∧ Aside0 ((Kd.int .u64).R 33 wc base (fun k => (ok k ∧ k ≠ b ∧ k ≠ mb) ∧ k ≠ w.heap.size ∧ k ≠ w.heap.size + 1) (.slice A9 (L.length + 1) c9) ((L.map fun d => d.f0) ++ [0])) ∧ Aside0 (KeptS w wc ok))
  case first =>
    go_region_law (refine Kd.R_append_step (Kd.int .u64) (w0 := w3.drew) (W := w3.drew) base rfl (.tmp 45) (.tmp 46) 70 33 (.int .u64 0) 8 rfl Tryd.underlying70 (by kernel_rfl) rfl (by decide) (by omega) (.slice A L.length c) (L.map fun d => d.f0) 0 [.int .u64 0] (fun k => (ok k ∧ k ≠ b ∧ k ≠ mb) ∧ k ≠ w.heap.size ∧ k ≠ w.heap.size + 1) (fun _ => False) rfl rfl rfl (fun _ h => h.elim) hfr3 HRD.out (Below.refl _ _) hbase (by rw [hml]; exact hl70) ?_; intro v9 w9 ho9 hb9 hg9 hat9; have hbk9 := blk_grown (w := w3.drew) (by have h := HK3.out; exact h) hg9 hkn; have hbd9 := blk_grown (w := w3.drew) (by have h := HD3.out; exact h) hg9 hdn; have hbb9 := blk_grown (w := w3.drew) (by have h := HBB.out; exact h) hg9 hbn; have HM9 := Aside0.mk (MapAt.keep (w' := w9) HM3.out (hg9.block mb HM3.out.lt hmn)); obtain ⟨A9, c9, e9⟩ := Kd.R_slice ho9; rw [hlen9] at e9; subst e9; have hx9 := (blk_cell hbk9 0).trans rfl; change _ = some (Value.pointer (some ⟨b, 0, none⟩)) at hx9; have hx8 := (book_cells hbb9).2; have hf8 := blk_frozen hbb9 1; have HO9 := Aside0.mk ho9; have HG9 := Aside0.mk hg9; have HAT9 := Aside0.mk hat9; have HK9 := Aside0.mk hbk9; have HD9 := Aside0.mk hbd9; have HBB9 := Aside0.mk hbb9; clear ho9 hb9 hg9 hat9 hbk9 hbd9 hbb9)
    all_goals (go_wp2; go_meet; exact ⟨A9, c9, ⟨blk_far HK9.out (by have := blk_lt Hb.out; simp; omega) _⟩, ⟨blk_far HD9.out (by have := blk_lt Hb.out; simp; omega) _⟩, ⟨blk_put HBB9.out 1 _ rfl⟩, ⟨HM9.out.keep (Below.heap_setCell _ _ _ _ (fun e => hne e.symm))⟩, ⟨Kd.R_far HO9.out (fun k hk => hk.1.2.1) _⟩, ⟨(KeptS.of_grown HG9.out ((KeptS.of_below hB3 ok).drew) (fun k e => .inl (HRL.1 k e).1.1)).setCell (.inl hob.1) _⟩⟩)
  case rest =>
    obtain ⟨A9, c9, HK9, HD9, HBB9, HM9, HO9, HKP⟩ := hcut
    clear HLO2 HHI2 HLO HHI
    have hxl : ((L.map fun d => d.f0) ++ [(0 : Int)]).length = L.length + 1 := by simp
    obtain ⟨g9, hA9⟩ : ∃ g9, A9 = some ⟨g9, 0, none⟩ := by
      rcases (Kd.own_of_R HO9.out).2 with ⟨hv, _⟩ | ⟨g', cap', cur, hv, _⟩
      · simp at hv
      · injection hv with h1
        exact ⟨g', h1⟩
    have hcap : L.length + 1 ≤ c9 := by
      have := (Kd.R_reads' HO9.out).2.1
      exact this
    subst hA9
    have HCS := Aside0.mk (show (Kd.int .u64).C wc.drew (if c9 = posB L d.f0 then some ⟨g9, 0, none⟩ else some ⟨g9, posB L d.f0, none⟩) (L.length + 1 - posB L d.f0) (((L.map fun d => d.f0) ++ [(0 : Int)]).drop (posB L d.f0)) by
      have h := Kd.C_drop (m := posB L d.f0) (c := c9) ((Kd.R_reads' HO9.out).2.2) (by rw [hxl]; omega) (by rw [hxl]; exact hcap)
      rw [List.length_drop, hxl] at h
      have e : posB L d.f0 * (Kd.int .u64).sz = posB L d.f0 := Nat.mul_one _
      rw [e, add_zero_addr] at h
      exact h)
    have HOD := Aside0.mk (Kd.R_drew HO9.out)
    have hgx := HO9.out.1 g9 rfl
    have hgo : ok g9 := hgx.1.1
    have hgb : some b ≠ some g9 := fun e => hgx.1.2.1 (by injection e with e; exact e.symm)
    have hgm : some mb ≠ some g9 := fun e => hgx.1.2.2 (by injection e with e; exact e.symm)
    have hgk : some w.heap.size ≠ some g9 := fun e => hgx.2.1 (by injection e with e; exact e.symm)
    have hgd : some (w.heap.size + 1) ≠ some g9 := fun e => hgx.2.2 (by injection e with e; exact e.symm)
    have hz0 := (blk_cell HK9.out 0).trans rfl
    change _ = some (Value.pointer (some ⟨b, 0, none⟩)) at hz0
    have hz1 := (book_cells HBB9.out).2
    have hkm13 : posB L d.f0 + 1 + (L.length - posB L d.f0) = ((L.map fun d => d.f0) ++ [(0 : Int)]).length := by rw [hxl]; omega
    have hm13 : L.length - posB L d.f0 ≤ L.length + 1 - posB L d.f0 := by omega
    have hw1 : IntKind.i64.wrap ((posB L d.f0 : Int) + 1) = (posB L d.f0 : Int) + 1 := (i64_w _).trans (by unfold wrap64; omega)
    have hn1 : ((posB L d.f0 : Int) + 1).toNat = posB L d.f0 + 1 := by omega
    have hq1 : ((posB L d.f0 : Int) + 1 ≤ (L.length : Int) + 1) = True := eq_true (by omega)
    have hq2 : (0 ≤ (posB L d.f0 : Int) + 1) = True := eq_true (by omega)
    have hq3 : ((posB L d.f0 : Int) ≤ (L.length : Int) + 1) = True := eq_true (by omega)
    have hq4 : (posB L d.f0 ≤ L.length + 1) = True := eq_true (by omega)
    go_wp2
    go_cut [] (fun wd => Aside0 (wd.heap[w.heap.size]? = some (.cells #[.pointer (some ⟨b, 0, none⟩)] 23 (0, 0))) ∧ Aside0 (wd.heap[w.heap.size + 1]? = some (.cells #[.int .u64 d.f0, .int .i64 d.f1, .string d.f2, .string d.f3] 35 (0, 0))) ∧ Aside0 (wd.heap[b]? = some (.cells #[.map (some mb), .slice (some ⟨g9, 0, none⟩) (L.length + 1) c9] 72 (0, 0))) ∧ Aside0 (MapAt u64E wd mb ents) ∧ Aside0 ((Kd.int .u64).R 33 wd base (fun k => (ok k ∧ k ≠ b ∧ k ≠ mb) ∧ k ≠ w.heap.size ∧ k ≠ w.heap.size + 1) (.slice (some ⟨g9, 0, none⟩) (L.length + 1) c9) (((L.map fun d => d.f0) ++ [(0 : Int)]).take (posB L d.f0 + 1) ++ (((L.map fun d => d.f0) ++ [(0 : Int)]).drop (posB L d.f0)).take (L.length - posB L d.f0))) ∧ Aside0 (KeptS w wd ok))
    case first =>
      go_region_law (go_loud (refine R_copy_over_step (enc := fun a : Int => Value.int .u64 a) (h1 := fun _ => rfl) (0 : Int) (W := wc.drew) base rfl (.tmp 56) (.tmp 62) 70 70 33 rfl Tryd.underlying70 (by kernel_rfl) g9 (posB L d.f0 + 1) (L.length + 1) c9 ((L.map fun d => d.f0) ++ [(0 : Int)]) (((L.map fun d => d.f0) ++ [(0 : Int)]).drop (posB L d.f0)) _ (L.length - posB L d.f0) (L.length + 1 - posB L d.f0) (c9 - posB L d.f0) (c9 - (posB L d.f0 + 1)) (fun k => (ok k ∧ k ≠ b ∧ k ≠ mb) ∧ k ≠ w.heap.size ∧ k ≠ w.heap.size + 1) rfl rfl HOD.out HCS.out hm13 hkm13 ?_; intro w13 ho13 hg13; have HO13 := Aside0.mk ho13; have HG13 := Aside0.mk hg13; clear ho13 hg13))
      all_goals (go_wp2 <;> go_meet <;> exact ⟨⟨blk_grown (w := wc.drew) (by have h := HK9.out; exact h) HG13.out hgk⟩, ⟨blk_grown (w := wc.drew) (by have h := HD9.out; exact h) HG13.out hgd⟩, ⟨blk_grown (w := wc.drew) (by have h := HBB9.out; exact h) HG13.out hgb⟩, ⟨MapAt.keep (w' := w13) HM9.out (HG13.out.block mb HM9.out.lt hgm)⟩, HO13, ⟨KeptS.of_grown HG13.out HKP.out.drew (fun k e => .inl (by injection e with e; rw [← e]; exact hgo))⟩⟩)
    case rest =>
      obtain ⟨HK13, HD13, HBB13, HM13, HO13, HKP13⟩ := hcut
      have hpi0 : (0 : Int) ≤ (posB L d.f0 : Int) := Int.natCast_nonneg _
      have hpi1 : (posB L d.f0 : Int) < ((L.length + 1 : Nat) : Int) := by omega
      obtain ⟨hcc, hcf⟩ := Kd.R_celln (0 : Int) HO13.out (posB L d.f0 : Int) hpi0 hpi1
      rw [Int.toNat_natCast] at hcc hcf
      have hy0 := (blk_cell HK13.out 0).trans rfl
      change _ = some (Value.pointer (some ⟨b, 0, none⟩)) at hy0
      have hy1 := (book_cells HBB13.out).2
      have hy2 := (blk_cell HD13.out 0).trans rfl
      change _ = some (Value.int .u64 d.f0) at hy2
      have hq5 : ((posB L d.f0 : Int) < (L.length : Int) + 1) = True := eq_true (by omega)
      have hq6 : (posB L d.f0 < L.length + 1) = True := eq_true (by omega)
      clear hq1 hq2 hq3 hq4 hw1 hn1 hz0 hz1
      go_wp2
      go_region
      obtain ⟨hro, hgr⟩ := Kd.R_putg HO13.out (posB L d.f0 : Int) d.f0
      rw [Int.toNat_natCast] at hro hgr
      have hK14 := blk_grown HK13.out hgr hgk
      have hD14 := blk_grown HD13.out hgr hgd
      have hB14 := blk_grown HBB13.out hgr hgb
      have hM14 := MapAt.keep (w' := wc.setCell ⟨g9, posB L d.f0, none⟩ (.int .u64 d.f0)) HM13.out (hgr.block mb HM13.out.lt hgm)
      have hKP14 := KeptS.of_grown hgr HKP13.out (fun k e => .inl (by injection e with e; rw [← e]; exact hgo))
      obtain ⟨W14, hW14⟩ : ∃ W, W = wc.setCell ⟨g9, posB L d.f0, none⟩ (.int .u64 d.f0) := ⟨_, rfl⟩
      change Kd.R _ _ (wc.setCell ⟨g9, posB L d.f0, none⟩ (.int .u64 d.f0)) _ _ _ _ at hro
      change (wc.setCell ⟨g9, posB L d.f0, none⟩ (.int .u64 d.f0)).heap[_]? = _ at hK14 hD14 hB14
      change KeptS _ (wc.setCell ⟨g9, posB L d.f0, none⟩ (.int .u64 d.f0)) _ at hKP14
      rw [← hW14] at hro hK14 hD14 hB14 hM14 hKP14 ⊢
      have HRO := Aside0.mk hro
      have HK14 := Aside0.mk hK14
      have HD14 := Aside0.mk hD14
      have HB14 := Aside0.mk hB14
      have HM14 := Aside0.mk hM14
      have HKP14 := Aside0.mk hKP14
      have hu0 : W14.drew.cell? ⟨w.heap.size, 0, none⟩ = some (.pointer (some ⟨b, 0, none⟩)) := (blk_cell hK14 0).trans rfl
      have hu1 : W14.drew.cell? ⟨b, 0, none⟩ = some (.map (some mb)) := (book_cells hB14).1
      have hu2 : W14.drew.cell? ⟨w.heap.size + 1, 0, none⟩ = some (.int .u64 d.f0) := (blk_cell hD14 0).trans rfl
      have hu3 : W14.drew.cell? ⟨w.heap.size + 1, 1, none⟩ = some (.int .i64 d.f1) := (blk_cell hD14 1).trans rfl
      have hu4 : W14.drew.cell? ⟨w.heap.size + 1, 2, none⟩ = some (.string d.f2) := (blk_cell hD14 2).trans rfl
      have hu5 : W14.drew.cell? ⟨w.heap.size + 1, 3, none⟩ = some (.string d.f3) := (blk_cell hD14 3).trans rfl
      clear hro hgr hK14 hD14 hB14 hM14 hKP14 hcc hcf hy0 hy1 hy2 hW14
      obtain ⟨w3, hrun, hm3, hg3⟩ := run_mapUpdate (KeyOk.int (q := .u64) Tryd.underlying33) Tryd.underlying69 (w := W14.drew.drew) (HM14.out.keep rfl) d.f0 (decV d)
      unfold decV at hrun
      have HM3 := Aside0.mk hm3
      have HG3 := Aside0.mk hg3
      clear hm3 hg3
      go_wp2
      go_region
      go_wp2
      go_ret
      have hg := HG3.out
      have hlnew := bookPut_len_new L d ha hin
      refine ⟨rfl, ⟨mb, .slice (some ⟨g9, 0, none⟩) (L.length + 1) c9, _, blk_grown (w := W14.drew.drew) (by have h := HB14.out; exact h) hg (by simpa using hne), HM3.out, ⟨fun k => ?_, mput_nodup _ _ _ hN⟩, ?_, hne, hob, hom⟩, KeptS.of_grown hg (KeptS.drew (KeptS.drew HKP14.out)) (fun k e => .inl (by injection e with e; rw [← e]; exact hom.1))⟩
      · rw [mlook_put, HE.out, bookIn_put L d k ha]
        by_cases q : k = d.f0
        · rw [if_pos q, if_pos q]
          rfl
        · rw [if_neg q, if_neg q]
      · rw [HPK.out, ← ins_keys (L.map fun d => d.f0) (posB L d.f0) (by rw [hml]; exact hp), hml]
        exact Kd.R_mono (Kd.R_step (Kd.R_drew (Kd.R_drew HRO.out)) (fun k hk hlt => hg.block k hlt (fun e => hk.1.2.2 (by injection e)))) (fun k hk => hk.1)

def posD : List S35 → Int → Nat
  | [], _ => 0
  | x :: l, k => if k ≤ x.f0 then 0 else posD l k + 1
theorem posD_lo : ∀ (L : List S35) (k : Int) (h : Nat) (hl : h < L.length), h < posD L k → ¬ k ≤ L[h].f0
  | [], _, h, hl, _ => by simp at hl
  | x :: l, k, h, hl, hp => by
    rw [posD] at hp
    by_cases c : k ≤ x.f0
    · rw [if_pos c] at hp
      omega
    · rw [if_neg c] at hp
      cases h with
      | zero => exact c
      | succ h => exact posD_lo l k h (by simpa using hl) (by omega)
theorem posD_hi : ∀ (L : List S35) (k : Int) (h : Nat) (hl : h < L.length), Asc L → posD L k ≤ h → k ≤ L[h].f0
  | [], _, h, hl, _, _ => by simp at hl
  | x :: l, k, h, hl, ha, hp => by
    have hc := List.pairwise_cons.1 ha
    rw [posD] at hp
    by_cases c : k ≤ x.f0
    · cases h with
      | zero => exact c
      | succ h =>
        have := hc.1 (l[h]'(by simpa using hl)) (List.getElem_mem _)
        simp only [List.getElem_cons_succ]
        omega
    · rw [if_neg c] at hp
      cases h with
      | zero => omega
      | succ h => exact posD_hi l k h (by simpa using hl) hc.2 (by omega)
theorem bookDel_keys : ∀ (L : List S35) (k : Int) (d : S35), Asc L → bookIn L k = some d → posD L k < L.length ∧ (bookDel L k).map (fun x => x.f0) = (L.map fun x => x.f0).eraseIdx (posD L k) ∧ (bookDel L k).length + 1 = L.length
  | [], k, d, _, h => by simp [bookIn] at h
  | y :: l, k, d, ha, h => by
    have hc := List.pairwise_cons.1 ha
    rw [bookIn_cons] at h
    unfold bookDel
    by_cases e : y.f0 = k
    · have h2 : (l.filter fun d => decide (d.f0 ≠ k)) = l := by
        rw [List.filter_eq_self]
        intro x hx
        have := hc.1 x hx
        simp
        omega
      rw [List.filter_cons_of_neg (by simpa using e), h2, posD, if_pos (by omega)]
      simp
    · rw [if_neg e] at h
      have hlt : ¬ k ≤ y.f0 := fun q => by
        rw [bookIn_low (fun x hx => by have := hc.1 x hx; omega)] at h
        cases h
      obtain ⟨h1, h2, h3⟩ := bookDel_keys l k d hc.2 h
      unfold bookDel at h2 h3
      rw [List.filter_cons_of_pos (by simpa using e), posD, if_neg hlt, List.map_cons, List.map_cons, h2]
      refine ⟨by rw [List.length_cons]; omega, rfl, by rw [List.length_cons, List.length_cons]; omega⟩
theorem bookIn_del : ∀ (L : List S35) (k k' : Int), bookIn (bookDel L k) k' = if k' = k then none else bookIn L k'
  | [], k, k' => by simp [bookIn, bookDel]
  | y :: l, k, k' => by
    have ih := bookIn_del l k k'
    unfold bookDel at ih ⊢
    by_cases e : y.f0 = k
    · rw [List.filter_cons_of_neg (by simpa using e), ih, bookIn_cons]
      by_cases q : k' = k
      · rw [if_pos q, if_pos q]
      · rw [if_neg q, if_neg q, if_neg (fun z => q (by rw [← z, e]))]
    · rw [List.filter_cons_of_pos (by simpa using e), bookIn_cons, bookIn_cons, ih]
      by_cases q : k' = k
      · rw [if_pos q, if_pos q, if_neg (fun z => e (by rw [z, q]))]
      · rw [if_neg q, if_neg q]
theorem bookDel_asc (L : List S35) (k : Int) (h : Asc L) : Asc (bookDel L k) := h.filter _

theorem delete_step {κ : Type} [DecidableEq κ] {P : Program} {w : World} {ops : Array Oper} {o : Oper} {a : Act} {Q : Exit → Act → World → Prop} {Kc : Act → World → Prop} {enc : κ → Value} {T K E : TypeId}
    (hw : Region.wanted o (yielded ops a.tmps) = true) (m x : Operand) (hop : o.op = Op.call { callee := Callee.builtin Builtin.delete, args := #[m, x], argTypes := #[T, K] }) (hk : KeyOk P K enc) (hT : P.underlying T = some (.map K E)) {b : Nat} {l : List (κ × Value)}
    (hm : a.eval m = .map (some b)) (h : MapAt enc w b l) (k : κ) (hx : a.eval x = enc k)
    (hK : ∀ w', MapAt enc w' b (mdel l k) → w.grownBy w' (some b) → Kc (a.put o.dst (.tuple #[])) w') : if Region.wanted o (yielded ops a.tmps) = true then Oper.wp P o a w Kc Q else Kc (a.put o.dst undef) w := by
  rw [if_pos hw]
  obtain ⟨w', hrun, r1, r2⟩ := run_delete hk hT h k o.type
  unfold Oper.wp execOp
  simp only [hop, resolve, invoke, builtin, Sem.run_bind, Sem.run_pure, Result.andThen_ok, List.map_toArray, List.map_cons, List.map_nil, hm, hx, hrun]
  exact hK w' r1 r2
theorem enters_rem1 : ∀ args w, (callFunc 49 args).run Tryd.prog w = .ok (.enter 49 args) w := fun args w => enters_ Tryd.func49 (by kernel_rfl) rfl args w
set_option maxHeartbeats 8000000 in
set_option maxRecDepth 100000 in
theorem rem1_fn (w : World) (b kb db : Nat) (L : List S35) (A : Option Addr) (c mb : Nat) (hbb : w.heap[b]? = some (.cells #[.map (some mb), .slice A L.length c] 72 (0, 0))) (hR : (Kd.int .u64).C w A L.length (L.map fun d => d.f0)) (key : Int) (hk : w.heap[kb]? = some (.cells #[.pointer (some ⟨b, 0, none⟩)] 23 (0, 0))) (hd : w.heap[db]? = some (.cells #[.int .u64 key] 33 (0, 0))) :
    ∀ h, (hh : h < L.length) → ∀ W, Below w.heap.size w W → Calls Tryd.prog 49 (#[.int .i64 (h : Int)] ++ #[.pointer (some ⟨kb, 0, none⟩), .pointer (some ⟨db, 0, none⟩)]) W fun e W' => e = .returned (.bool (decide (key ≤ L[h].f0))) ∧ Below W.heap.size W W' := by
  intro h hh W hb
  have hx0 := (blk_cell (blk_below hk hb) 0).trans rfl
  change _ = some (Value.pointer (some ⟨b, 0, none⟩)) at hx0
  have hx1 := (blk_cell (blk_below hd hb) 0).trans rfl
  change _ = some (Value.int .u64 key) at hx1
  have hx2 := (book_cells (blk_below hbb hb)).2
  obtain ⟨ad, e, hx⟩ := Kd.at_int (Kd.C_below hR hb) (h : Int) (by omega) (by omega)
  cases e
  rw [Int.toNat_natCast, getKeys hh] at hx
  have g1 : decide ((h : Int) < (L.length : Int)) = true := decide_eq_true (by omega)
  have p12 : 0 ≤ (h : Int) := by omega
  have q12 : (h : Int) < (L.length : Int) := by omega
  show Calls Tryd.prog _ #[.int .i64 (h : Int), .pointer (some ⟨kb, 0, none⟩), .pointer (some ⟨db, 0, none⟩)] W _
  generalize L[h].f0 = y at *
  clear hR hk hd hbb hb
  go_enter Tryd.func49, Tryd.ntmps49
  go_wp2
  go_region
  go_wp2
  go_ret
  exact ⟨rfl, pw_below_drewN (Below.refl _ _) 1⟩
theorem rem1_cl (w : World) (b kb db : Nat) (L : List S35) (A : Option Addr) (c mb : Nat) (hbb : w.heap[b]? = some (.cells #[.map (some mb), .slice A L.length c] 72 (0, 0))) (hR : (Kd.int .u64).C w A L.length (L.map fun d => d.f0)) (key : Int) (hk : w.heap[kb]? = some (.cells #[.pointer (some ⟨b, 0, none⟩)] 23 (0, 0))) (hd : w.heap[db]? = some (.cells #[.int .u64 key] 33 (0, 0))) :
    ∀ h, h < L.length → ∀ W, Below w.heap.size w W → Calls Tryd.prog 49 (#[.int .i64 (h : Int)] ++ #[.pointer (some ⟨kb, 0, none⟩), .pointer (some ⟨db, 0, none⟩)]) W fun e W' => e = .returned (.bool (if hh : h < L.length then decide (key ≤ L[h].f0) else false)) ∧ Below W.heap.size W W' := by
  intro h hh W hb
  rw [dif_pos hh]
  exact rem1_fn w b kb db L A c mb hbb hR key hk hd h hh W hb
set_option maxHeartbeats 8000000 in
set_option maxRecDepth 100000 in
theorem remD (w : World) (ok : Nat → Prop) (base b : Nat) (L : List S35) (hB : BookAt w ok base b L) (ha : Asc L) (key : Int) (d : S35) (hlen : L.length ≤ 1000) (hin : bookIn L key = some d) : Calls Tryd.prog 28 #[.pointer (some ⟨b, 0, none⟩), .int .u64 key] w fun e w' => e = .returned (.int .i64 0) ∧ BookAt w' ok base b (bookDel L key) ∧ KeptS w w' ok := by
  have HH := Aside0.mk (fun W (hb : Below w.heap.size w W) => decide_Book_has.calls W ok base b L (hB.below hb) key)
  rw [hin] at HH
  obtain ⟨mb, v, ents, hb, hM, ⟨hE, hN⟩, hR, hne, hob, hom⟩ := hB.out
  obtain ⟨A, c, rfl⟩ := Kd.R_slice hR
  have hml : (L.map fun d => d.f0).length = L.length := List.length_map _
  rw [hml] at hb hR
  have Hb := Aside0.mk hb
  have HE := Aside0.mk hE
  have HM := Aside0.mk hM
  have HR := Aside0.mk (Kd.R_mono (ok' := (fun k => (ok k ∧ k ≠ b ∧ k ≠ mb) ∧ k ≠ w.heap.size ∧ k ≠ w.heap.size + 1)) (Kd.R_bound hR) (fun k hk => ⟨hk.1, by have := hk.2.2.1; omega, by have := hk.2.2.1; omega⟩))
  clear hb hM hE hR
  have HB := Aside0.mk (Below.refl w.heap.size w)
  obtain ⟨hp, hdk, hdl⟩ := bookDel_keys L key d ha hin
  have HLO := Aside0.mk (show ∀ h, h < posD L key → (if hh : h < L.length then decide (key ≤ L[h].f0) else false) = false from fun h hl => by rw [dif_pos (by omega)]; exact decide_eq_false (posD_lo L key h (by omega) hl))
  have HHI := Aside0.mk (show ∀ h, posD L key ≤ h → h < L.length → (if hh : h < L.length then decide (key ≤ L[h].f0) else false) = true from fun h hl hh => by rw [dif_pos hh]; exact decide_eq_true (posD_hi L key h hh ha hl))
  have HDK := Aside0.mk hdk
  clear hdk
  go_enter Tryd.func28, Tryd.ntmps28
  go_wp2_with (first | (go_at_call 34; go_loud ((with_reducible refine (HH.out _ (by repeat (first | (with_reducible first | exact HB.out | apply below_alloc | apply pw_below_drewN | apply below_drew1) | exact HB.out))).mono ?_); rintro e w1 ⟨rfl, hb1⟩; have HB1 := Aside0.mk (below_step (by repeat (first | (with_reducible first | exact HB.out | apply below_alloc | apply pw_below_drewN | apply below_drew1) | exact HB.out)) hb1); have hk0 := blk_below (blk_alloc (blk_new w (.cells #[.pointer (some ⟨b, 0, none⟩)] 23 (0, 0))) (.cells #[.int .u64 key] 33 (0, 0))) hb1; have hd0 := blk_below (blk_new (w.alloc (.cells #[.pointer (some ⟨b, 0, none⟩)] 23 (0, 0))) (.cells #[.int .u64 key] 33 (0, 0))) hb1; rw [sz_alloc] at hd0; have HK1 := Aside0.mk hk0; have HD1 := Aside0.mk hd0; have hkc := (blk_cell hk0 0).trans rfl; change _ = some (Value.pointer (some ⟨b, 0, none⟩)) at hkc; have hdc := (blk_cell hd0 0).trans rfl; change _ = some (Value.int .u64 key) at hdc; have hbc := (book_cells (blk_below Hb.out HB1.out)).1; have HM1 := Aside0.mk (HM.out.below HB1.out); clear hb1 hk0 hd0)))
  have hmk : some w.heap.size ≠ some mb := fun e => by have := HM.out.lt; injection e with e; omega
  have hmd : some (w.heap.size + 1) ≠ some mb := fun e => by have := HM.out.lt; injection e with e; omega
  have hmb : some b ≠ some mb := fun e => hne (by injection e)
  go_cut [] (fun wc => Aside0 (wc.heap[w.heap.size]? = some (.cells #[.pointer (some ⟨b, 0, none⟩)] 23 (0, 0))) ∧ Aside0 (wc.heap[w.heap.size + 1]? = some (.cells #[.int .u64 key] 33 (0, 0))) ∧ Aside0 (wc.heap[b]? = some (.cells #[.map (some mb), .slice A L.length c] 72 (0, 0))) ∧ Aside0 (MapAt u64E wc mb (mdel ents key)) ∧ Aside0 ((Kd.int .u64).R 33 wc base (fun k => (ok k ∧ k ≠ b ∧ k ≠ mb) ∧ k ≠ w.heap.size ∧ k ≠ w.heap.size + 1) (.slice A L.length c) (L.map fun d => d.f0)) ∧ Aside0 (KeptS w wc ok))
  case first =>
    go_region_law (go_loud (refine delete_step (w := w1.drew) rfl (.tmp 17) (.tmp 18) rfl (KeyOk.int (q := .u64) Tryd.underlying33) Tryd.underlying69 rfl (HM1.out.keep rfl) key rfl ?_; intro w2 hm2 hg2; have HM2 := Aside0.mk hm2; have HG2 := Aside0.mk hg2; clear hm2 hg2))
    all_goals (go_wp2 <;> go_meet <;> exact ⟨⟨blk_grown (w := w1.drew) (by have h := HK1.out; exact h) HG2.out hmk⟩, ⟨blk_grown (w := w1.drew) (by have h := HD1.out; exact h) HG2.out hmd⟩, ⟨blk_grown (w := w1.drew) (by have h := blk_below Hb.out HB1.out; exact h) HG2.out hmb⟩, HM2, ⟨Kd.R_step (Kd.R_drew (Kd.R_below HR.out HB1.out)) (fun k hk hlt => HG2.out.block k hlt (fun e => hk.1.2.2 (by injection e)))⟩, ⟨KeptS.of_grown HG2.out (KeptS.drew (KeptS.of_below HB1.out ok)) (fun k e => .inl (by injection e with e; rw [← e]; exact hom.1))⟩⟩)
  case rest =>
    obtain ⟨HK2, HD2, HBB2, HM2, HR2, HKP2⟩ := hcut
    have hx0 := (blk_cell HK2.out 0).trans rfl
    change _ = some (Value.pointer (some ⟨b, 0, none⟩)) at hx0
    have hx1 := (book_cells HBB2.out).2
    have HCL := Aside0.mk (rem1_cl wc b w.heap.size (w.heap.size + 1) L A c mb HBB2.out (by have h := (Kd.R_reads' HR2.out).2.2; rw [hml] at h; exact h) key HK2.out HD2.out)
    clear hkc hdc hbc
    go_wp2_with (first | (go_at_call 35; go_loud ((with_reducible refine (sort_Search_calls 49 #[.pointer (some ⟨w.heap.size, 0, none⟩), .pointer (some ⟨w.heap.size + 1, 0, none⟩)] enters_rem1 L.length (by omega) (fun h => if hh : h < L.length then decide (key ≤ L[h].f0) else false) wc HCL.out (posD L key) (Nat.le_of_lt hp) HLO.out HHI.out).mono ?_); rintro e w3 ⟨rfl, hb3⟩; have HB3 := Aside0.mk hb3; have hy0 := (blk_cell (blk_below HK2.out hb3) 0).trans rfl; change _ = some (Value.pointer (some ⟨b, 0, none⟩)) at hy0; have hy1 := (book_cells (blk_below HBB2.out hb3)).2; have HBB3 := Aside0.mk (blk_below HBB2.out hb3); have HR3 := Aside0.mk (Kd.R_below HR2.out hb3); clear hb3)))
    obtain ⟨g, hA⟩ : ∃ g, A = some ⟨g, 0, none⟩ := by
      rcases (Kd.own_of_R HR3.out).2 with ⟨hv, _⟩ | ⟨g', cap', cur, hv, _⟩
      · exfalso
        simp at hv
        omega
      · injection hv with h1
        exact ⟨g', h1⟩
    subst hA
    have hgx := HR3.out.1 g rfl
    have hgo : ok g := hgx.1.1
    have hgb : some b ≠ some g := fun e => hgx.1.2.1 (by injection e with e; exact e.symm)
    have hgm : some mb ≠ some g := fun e => hgx.1.2.2 (by injection e with e; exact e.symm)
    have hgk : some w.heap.size ≠ some g := fun e => hgx.2.1 (by injection e with e; exact e.symm)
    have hcap : L.length ≤ c := (Kd.R_reads' HR3.out).2.1
    have hw1 : IntKind.i64.wrap ((posD L key : Int) + 1) = (posD L key : Int) + 1 := (i64_w _).trans (by unfold wrap64; omega)
    have hn1 : ((posD L key : Int) + 1).toNat = posD L key + 1 := by omega
    have hq1 : ((posD L key : Int) + 1 ≤ (L.length : Int)) = True := eq_true (by omega)
    have hq2 : (0 ≤ (posD L key : Int) + 1) = True := eq_true (by omega)
    have hq3 : ((posD L key : Int) ≤ (c : Int)) = True := eq_true (by omega)
    have hq4 : (posD L key ≤ c) = True := eq_true (by omega)
    have hq5 : (posD L key + 1 ≤ L.length) = True := eq_true (by omega)
    have HRD := Aside0.mk (Kd.R_drew HR3.out)
    have hAe : (if c = posD L key + 1 then some (⟨g, 0, none⟩ : Addr) else some ⟨g, posD L key + 1, none⟩) = if c = posD L key + 1 then some ⟨g, 0, none⟩ else (some (⟨g, 0, none⟩ : Addr)).map (·.add ((posD L key + 1) * (Kd.int .u64).sz)) := by
      rw [show (posD L key + 1) * (Kd.int .u64).sz = posD L key + 1 from Nat.mul_one _, add_zero_addr]
    have HAE := Aside0.mk hAe
    have hf1 := blk_frozen HBB3.out 1
    have hbase3 : base ≤ w3.heap.size := Nat.le_trans hob.2 (Nat.le_of_lt (blk_lt HBB3.out))
    have HK3 := Aside0.mk (blk_below HK2.out HB3.out)
    have HM3 := Aside0.mk (HM2.out.below HB3.out)
    have hle3 : wc.heap.size ≤ w3.heap.size := HB3.out.size
    have hwc : w.heap.size ≤ wc.heap.size := HKP2.out.1
    clear hAe hx0 hx1 HCL HLO HHI
    go_region_law (go_loud (refine Kd.R_delete_step (Kd.int .u64) (w0 := w3.drew) (W := w3.drew) base rfl (.tmp 32) (.tmp 39) 70 33 rfl Tryd.underlying70 (by kernel_rfl) (g := g) (n := L.length) (c := c) (k := posD L key) (m := L.length - (posD L key + 1)) (c2 := c - (posD L key + 1)) rfl rfl HAE.out rfl HRD.out hp (Below.refl _ _) hbase3 ?_; intro w9 ho9 hb9 hg9; have hbk9 := blk_grown (w := w3.drew) (by have h := HK3.out; exact h) hg9 hgk; have hbb9 := blk_grown (w := w3.drew) (by have h := HBB3.out; exact h) hg9 hgb; have HM9 := Aside0.mk (MapAt.keep (w' := w9) HM3.out (hg9.block mb HM3.out.lt hgm)); have hx9 := (blk_cell hbk9 0).trans rfl; change _ = some (Value.pointer (some ⟨b, 0, none⟩)) at hx9; have hx8 := (book_cells hbb9).2; have hf8 := blk_frozen hbb9 1; have HO9 := Aside0.mk ho9; have HG9 := Aside0.mk hg9; have HBB9 := Aside0.mk hbb9; clear ho9 hb9 hg9 hbk9 hbb9))
    all_goals go_wp2
    all_goals go_ret
    all_goals (refine ⟨rfl, ⟨mb, _, _, blk_put HBB9.out 1 _ rfl, HM9.out.keep (Below.heap_setCell _ _ _ _ (fun e => hne e.symm)), ⟨fun k => ?_, (mdel_nodup key ents hN).1⟩, ?_, hne, hob, hom⟩, ?_⟩)
    all_goals first
      | (rw [mlook_del key k ents hN, HE.out, bookIn_del L key k]; by_cases q : k = key; (rw [if_pos q, if_pos q]; rfl); (rw [if_neg q, if_neg q]); done)
      | (rw [HDK.out]; exact Kd.R_mono (Kd.R_far HO9.out (fun k hk => hk.1.2.1) _) (fun k hk => hk.1))
      | (have e : c = posD L key + 1 := (by assumption); rw [HDK.out, ← e]; exact Kd.R_mono (Kd.R_far HO9.out (fun k hk => hk.1.2.1) _) (fun k hk => hk.1))
      | exact (KeptS.of_grown HG9.out (KeptS.drew (KeptS.below HKP2.out HB3.out)) (fun k e => .inl (by injection e with e; rw [← e]; exact hgo))).setCell (.inl hob.1) _
set_option maxHeartbeats 8000000 in
set_option maxRecDepth 100000 in
theorem remN (w : World) (ok : Nat → Prop) (base b : Nat) (L : List S35) (hB : BookAt w ok base b L) (key : Int) (hin : bookIn L key = none) : Calls Tryd.prog 28 #[.pointer (some ⟨b, 0, none⟩), .int .u64 key] w fun e w' => e = .returned (.int .i64 5) ∧ Below w.heap.size w w' := by
  have HH := Aside0.mk (fun W (hb : Below w.heap.size w W) => decide_Book_has.calls W ok base b L (hB.below hb) key)
  rw [hin] at HH
  have HB := Aside0.mk (Below.refl w.heap.size w)
  go_enter Tryd.func28, Tryd.ntmps28
  go_wp2_with (first | (go_at_call 34; ((with_reducible refine (HH.out _ (by repeat (first | (with_reducible first | exact HB.out | apply below_alloc | apply pw_below_drewN | apply below_drew1) | exact HB.out))).mono ?_); rintro e w1 ⟨rfl, hb1⟩; have HB1 := Aside0.mk (below_step (by repeat (first | (with_reducible first | exact HB.out | apply below_alloc | apply pw_below_drewN | apply below_drew1) | exact HB.out)) hb1); clear hb1)))
  go_ret
  exact ⟨rfl, HB1.out⟩

end Go.Proofs.YtfajgjmhfpabiaaDoor.Scratch
