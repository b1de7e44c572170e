-- Written by a program of this session (mk.py) out of the translation; Lean checks it.
import Derived.Test.YtdbgdkbpamekpaaQ0
import Derived.Test.YtdbgdkbpamekpaaQ1
import Derived.Test.YtdbgdkbpamekpaaQ2
import Derived.Test.YtdbgdkbpamekpaaQ4
namespace Go.Proofs.Ytdbgdkbpamekpaa.Q
open Go.RowKit Go.Proofs.YtdbgdkbpamekpaaW.PrintWords Go.Proofs.YtdbgdkbpamekpaaW.PrintLast Go.Proofs.YtdbgdkbpamekpaaW.PrintMore
attribute [local go_sem] max2_int min2_int max_two min_two max_three min_three max_four min_four   -- for this text's walks alone
set_option linter.unusedVariables false
set_option linter.unusedSimpArgs false

/-! ### lcs_Ints: function 49 -/
def lcs_Ints.f (k : Nat) (l0 : List Int) (l1 : List Int) : Option ((List (S71))) := (lcs_common_int.f k l0 l1).bind fun t157 => (some t157)
theorem lcs_Ints.mono : ∀ a0 a1 k, LeO (lcs_Ints.f k a0 a1) (lcs_Ints.f (k + 1) a0 a1) := by
 intro a0 a1 k
 unfold lcs_Ints.f
 repeat' first
   | (with_reducible exact lcs_common_int.mono _ _ _)
   | (with_reducible exact LeO.refl _)
   | (with_reducible exact LeO.none _)
   | (with_reducible refine LeO.ite ?_ ?_)
   | (with_reducible refine LeO.bind ?_ (fun _ => ?_))
set_option maxHeartbeats 8000000 in
set_option maxRecDepth 100000 in
theorem lcs_Ints.calls (k : Nat) (A0 : Option Addr) (c0 : Nat) (l0 : List Int) (A1 : Option Addr) (c1 : Nat) (l1 : List Int) (r : List (S71)) (w : World) (hr0 : Kd.C (Kd.int .i64) w A0 l0.length l0) (hc0 : l0.length ≤ c0) (hr1 : Kd.C (Kd.int .i64) w A1 l1.length l1) (hc1 : l1.length ≤ c1) (h : lcs_Ints.f k l0 l1 = some r) :
  Calls Try.prog 49 #[.slice A0 l0.length c0, .slice A1 l1.length c1] w fun e w' => ∃ v0_ : Value, e = .returned (v0_) ∧ Kd.R k71 71 w' w.heap.size (fun _ => True) v0_ r ∧ Below w.heap.size w w' := by
 have HR0 := Aside0.mk hr0
 have HC0 := Aside0.mk hc0
 clear hr0 hc0
 have HR1 := Aside0.mk hr1
 have HC1 := Aside0.mk hc1
 clear hr1 hc1
 have HB := Aside0.mk (Below.refl w.heap.size w)
 have H : ((lcs_common_int.f k l0 l1).bind fun t157 => (some t157)) = some r := h
 clear h
 replace H := Option.bind_eq_some_iff.mp H
 obtain ⟨t157, A30, H⟩ := H
 have A3 := Aside0.mk A30
 clear A30
 obtain rfl := Option.some.inj H
 go_enter Try.func49, Try.ntmps49
 go_wp2_with (first | ((with_reducible refine gate_callee (f := 74) rfl ?_); refine goesL_ (some 7) rfl rfl Try.func74 (by kernel_rfl) rfl #[.slice A0 l0.length c0, .slice A1 l1.length c1] rfl MX ?_; (with_reducible refine (lcs_common_int.calls k _ _ l0 _ _ l1 t157 _ ?side1 ?side2 ?side3 ?side4 A3.out).mono ?_); (case side1 => exact CX HR0.out); (case side2 => exact HC0.out); (case side3 => exact CX HR1.out); (case side4 => exact HC1.out); rintro e w4 ⟨v158, rfl, ho0, hb⟩; refine ⟨_, rfl, ?_⟩; have n0_ := Aside0.mk (Kd.R_lower ho0 (below_size (BX HB.out))); have n1_ := Aside0.mk (below_step (BX HB.out) hb); clear HB; have HO159 := n0_; have HB := n1_; clear n0_ n1_; (try clear hb); (try clear hb2); (try clear hk); (try clear hi); (try clear ho0)))
 go_ret
 exact ⟨_, by first | rfl | (simp [errW_none, errW_some] <;> rfl) | (simp [*, errW_none, errW_some] <;> rfl), by (with_reducible repeat (first | apply Kd.R_alloc | apply Kd.R_drewN | apply Kd.R_drew)); exact HO159.out, BX HB.out⟩

/-! ### sequence_cuts: function 50 (by hand) -/
def cutsA (s : List Int) : List Int → List (List Int) → List Int → List (List Int)
 | [], done, last => done ++ [last]
 | x :: r, done, last => if x ∈ s then cutsA s r (done ++ [last]) [] else cutsA s r done (last ++ [x])
def cutsS (s l : List Int) : List (List Int) := cutsA s l [] []
set_option maxHeartbeats 4000000 in
theorem sequence_cuts.calls (A0 : Option Addr) (c0 : Nat) (l0 : List Int) (b : Nat) (kept : List Int) (w : World) (hr0 : Kd.C (Kd.int .i64) w A0 l0.length l0) (hM : MapAt intE w b (setM kept)) (hlen : l0.length < 100000000000) :
  Calls Try.prog 50 #[.slice A0 l0.length c0, .map (some b)] w fun e w' => ∃ v0_ : Value, e = .returned (v0_) ∧ Kd.R (Kd.slice 3 (Kd.int .i64)) 22 w' w.heap.size (fun _ => True) v0_ (cutsS kept l0) ∧ Below w.heap.size w w' := by
 have HR0 := Aside0.mk hr0
 have HM := Aside0.mk hM
 clear hr0 hM
 obtain ⟨r, hr⟩ : ∃ r, cutsS kept l0 = r := ⟨_, rfl⟩
 rw [hr]
 have HF := Aside0.mk hr
 clear hr
 go_enter Try.func50, Try.ntmps50
 go_wp2
 go_loopg [5, 11] l0.length (fun gk v5 v11 w' => ∃ (k : Nat) (ds : List SV) (dl : List (List Int)) (s : SV) (last : List Int) (g cap : Nat), v11 = .int .i64 k ∧ v5 = .slice (some ⟨g, 0, none⟩) (ds.length + 1) cap ∧ k + gk = l0.length ∧ ds.length + last.length ≤ k ∧ Aside0 (cutsA kept (l0.drop k) dl last = r) ∧ Aside0 (svk.R 22 w' w.heap.size (fun _ => True) (.slice (some ⟨g, 0, none⟩) (ds.length + 1) cap) (ds ++ [s])) ∧ Aside0 (DoneAt w' w.heap.size (fun k => some k ≠ s.v.ownBlock) ds dl) ∧ Aside0 (Kd.R (Kd.int .i64) 3 w' w.heap.size (fun _ => True) s.v last) ∧ Aside0 (Below w.heap.size w w'))
 case atStart =>
  refine ⟨0, [], [], SV.z, [], w.heap.size, 1, rfl, rfl, by omega, by simp, ⟨?_⟩, ⟨?_⟩, ⟨?_⟩, ⟨?_⟩, ⟨?_⟩⟩
  ·exact HF.out
  ·exact Kd.R_of_own (enc := SV.v) (h1 := fun _ => rfl) (by simpa [encs, SV.v, SV.z] using World.ownsRow_lit (base := w.heap.size) (e := 22) (size := 1) w #[SV.z.v] 1 (Nat.le_refl _) (by decide) (by rfl)) (fun _ _ => trivial)
  ·exact DoneAt.nil _ _ _
  ·exact Kd.R_nil _ _ _ _ _
  ·exact below_alloc (Below.refl _ _) _
 case round =>
  obtain ⟨k, ds, dl, s, last, g, cap, rfl, rfl, hk, hlen2, HL, HO, HD, HT, HB⟩ := hrel
  obtain ⟨go, rfl⟩ : ∃ go, go = gk := ⟨gk, rfl⟩
  have HK := Aside0.mk hk
  cases go with
  | succ g0 =>
   have h1 : decide ((k : Int) < (l0.length : Int)) = true := decide_eq_true (by omega)
   have h2 : decide (k < l0.length) = true := decide_eq_true (by omega)
   have p12 : 0 ≤ (k : Int) := by omega
   have q12 : (k : Int) < (l0.length : Int) := by omega
   obtain ⟨ad, e, hx⟩ := Kd.at_int (Kd.C_below HR0.out HB.out) (k : Int) p12 q12
   cases e
   rw [Int.toNat_natCast] at hx
   have hk9 : k < l0.length := by omega
   have hd : l0.drop k = rd l0 (k : Int) :: l0.drop (k + 1) := by
    rw [List.drop_eq_getElem_cons hk9]
    unfold rd
    simp [List.getD_eq_getElem?_getD, List.getElem?_eq_getElem hk9]
   obtain ⟨x, hxe⟩ : ∃ x, x = rd l0 (k : Int) := ⟨_, rfl⟩
   rw [← hxe] at hx hd
   have HL2 := Aside0.mk (show (if x ∈ kept then cutsA kept (l0.drop (k + 1)) (dl ++ [last]) [] else cutsA kept (l0.drop (k + 1)) dl (last ++ [x])) = r by have := HL.out; rw [hd, cutsA] at this; exact this)
   clear hd hxe HL hk
   have HG := Aside0.mk (setM_get kept x)
   by_cases hin : x ∈ kept
   ·rw [if_pos hin] at HL2
    rw [decide_eq_true hin] at HG
    clear hin
    have hlo : (ds ++ [s]).length = ds.length + 1 := by simp
    have HLO := Aside0.mk hlo
    clear hlo
    go_wp2_with (first | (with_reducible refine wpList_lookup (z := .bool false) rfl _ _ rfl (KeyOk.int Try.underlying3) Try.underlying41 (by kernel_rfl) rfl (HM.out.below HB.out) x rfl ?_; rw [HG.out]) | ((with_reducible refine gate_builtin (b := .append) (xs := #[.tmp 18, .tmp 19]) rfl ?_); at_builtin; refine Kd.R_append svk (w0 := w) w.heap.size rfl (.tmp 18) (.tmp 19) 72 22 (.slice none 0 0) 24 rfl Try.underlying72 info22 rfl (by decide) (by omega) (.slice (some ⟨g, 0, none⟩) (ds.length + 1) cap) (ds ++ [s]) SV.z [.slice none 0 0] (fun _ => True) (fun _ => False) rfl rfl ?aP (fun _ hk => hk.elim) ?aF ?aO ?aB ?aS ?aL ?_; (case aP => exact rfl); (case aF => exact (fun _ _ => trivial)); (case aO => exact (RX HO.out)); (case aB => exact (BX HB.out)); (case aS => exact (below_size (BX HB.out))); (case aL => rw [HLO.out]; omega); intro v9 w9 ho hb hg hat; have HO9 := Aside0.mk ho; have HB9 := Aside0.mk hb; have HG9 := Aside0.mk hg; have HA9 := Aside0.mk hat; clear ho hb hg hat))
    go_roundg g0
    case measure => omega
    case rel =>
     obtain ⟨g9, cap9, rfl, _, _, _⟩ := Kd.R_form HO9.out (by simp)
     have hT : ∀ q ∈ 3 :: (Kd.int .i64).E, q ≠ 22 := by intro q hq; simp [Kd.int, Kd.scalar] at hq; omega
     refine ⟨k + 1, ds ++ [s], dl ++ [last], SV.z, [], g9, cap9, by go_num, by simp, by have := HK.out; omega, by simp; omega, HL2, ⟨by simpa using HO9.out⟩, ⟨DoneAt.snoc (HD.out.imp fun v xs h => Kd.R_mono (R_kinds h HO.out hT HG9.out) (fun k _ => by simp [SV.z, SV.v, Value.ownBlock])) (Kd.R_mono (R_kinds HT.out HO.out hT HG9.out) (fun k _ => by simp [SV.z, SV.v, Value.ownBlock]))⟩, ⟨Kd.R_nil _ _ _ _ _⟩, HB9⟩
   ·rw [if_neg hin] at HL2
    rw [decide_eq_false hin] at HG
    clear hin
    have hO' : svk.R 22 wr w.heap.size (fun _ => True) (.slice (some ⟨g, 0, none⟩) (ds ++ [s]).length cap) (ds ++ [s]) := by simpa using HO.out
    obtain ⟨hc4, hf4⟩ := Kd.R_cell SV.z hO' (ds.length : Int) (by omega) (by simp only [List.length_append, List.length_singleton]; omega)
    rw [Int.toNat_natCast] at hc4 hf4
    have e4 : rdOf SV.z (ds ++ [s]) (ds.length : Int) = s := by simp [rdOf, List.getD_eq_getElem?_getD]
    rw [e4] at hc4
    have HO' := Aside0.mk hO'
    clear hO' e4
    have HE2 : Aside0 (∀ q ∈ 22 :: svk.E, q ≠ 3) := ⟨by intro q hq; simp [svk, Kd.scalar] at hq; omega⟩
    obtain ⟨sA, sn, sc, es⟩ : ∃ A n c, s.v = .slice A n c := ⟨_, _, _, rfl⟩
    have HES := Aside0.mk es
    have hsn : sn = last.length := by
     obtain ⟨A', c', e'⟩ := Kd.R_slice HT.out
     rw [es] at e'
     injection e'
    subst hsn
    have HT' := Aside0.mk (show Kd.R (Kd.int .i64) 3 wr w.heap.size (fun _ => True) (.slice sA last.length sc) last from es ▸ HT.out)
    rw [show SV.v s = s.v from rfl, es] at hc4
    clear es
    go_wp2_with (first | (with_reducible refine wpList_lookup (z := .bool false) rfl _ _ rfl (KeyOk.int Try.underlying3) Try.underlying41 (by kernel_rfl) rfl (HM.out.below HB.out) x rfl ?_; rw [HG.out]) | ((with_reducible refine gate_builtin (b := .append) (xs := #[.tmp 30, .tmp 32]) rfl ?_); at_builtin; refine Kd.R_append (Kd.int .i64) (w0 := w) w.heap.size rfl (.tmp 30) (.tmp 32) 22 3 (.int .i64 0) 8 rfl Try.underlying22 info3 rfl (by decide) (by omega) (.slice sA last.length sc) last x [.int .i64 x] (fun _ => True) (fun _ => False) rfl rfl ?aP (fun _ hk => hk.elim) ?aF ?aO ?aB ?aS ?aL ?_; (case aP => exact rfl); (case aF => exact (fun _ _ => trivial)); (case aO => exact (RX HT'.out)); (case aB => exact (BX HB.out)); (case aS => exact (below_size (BX HB.out))); (case aL => omega); intro v9 w9 ho hb hg hat; obtain ⟨A9, c9, rfl⟩ := Kd.R_slice ho; have HO5 := Aside0.mk (R_kinds HO'.out HT'.out HE2.out hg); obtain ⟨hc5, hf5⟩ := Kd.R_cell SV.z HO5.out (ds.length : Int) (by omega) (by simp only [List.length_append, List.length_singleton]; omega); rw [Int.toNat_natCast] at hc5 hf5; have HO9 := Aside0.mk ho; have HB9 := Aside0.mk hb; have HG9 := Aside0.mk hg; have HA9 := Aside0.mk hat; clear ho hb hg hat))
    go_roundg g0
    case measure => omega
    case rel =>
     have hl9 : (last ++ [x]).length = last.length + 1 := by simp
     have hP := Kd.R_putg (h1 := fun _ => rfl) (enc := SV.v) HO5.out (ds.length : Int) ⟨A9, last.length + 1, c9⟩
     rw [Int.toNat_natCast] at hP
     obtain ⟨hP, hPg⟩ := hP
     have hset : (ds ++ [s]).set ds.length ⟨A9, last.length + 1, c9⟩ = ds ++ [⟨A9, last.length + 1, c9⟩] := by simp
     rw [hset] at hP
     have hO9 : Kd.R (Kd.int .i64) 3 w9 w.heap.size (fun _ => True) (SV.v ⟨A9, last.length + 1, c9⟩) (last ++ [x]) := by simpa [SV.v] using HO9.out
     have hA9 : (SV.v ⟨A9, last.length + 1, c9⟩).ownBlock = (Value.slice sA last.length sc).ownBlock ∨ ∃ b, (SV.v ⟨A9, last.length + 1, c9⟩).ownBlock = some b ∧ wr.heap.size ≤ b := by simpa [SV.v] using HA9.out
     have HE1 : ∀ q ∈ 3 :: (Kd.int .i64).E, q ≠ 22 := by intro q hq; simp [Kd.int, Kd.scalar] at hq; omega
     refine ⟨k + 1, ds, dl, ⟨A9, last.length + 1, c9⟩, last ++ [x], g, cap, by go_num, rfl, by have := HK.out; omega, by simp; omega, HL2, ⟨by simpa [SV.v] using hP⟩, ⟨HD.out.imp fun v xs h => ?_⟩, ⟨R_kinds hO9 HO5.out HE1 hPg⟩, ⟨HB9.out.grown hPg ?_ ?_⟩⟩
     ·have h2 := Kd.R_grown (Kd.R_bound h) HG9.out (fun k hk => by rw [show (Value.slice sA last.length sc) = s.v from HES.out.symm]; exact hk.1)
      have h3 := R_kinds h2 HO5.out HE1 hPg
      refine Kd.R_mono h3 (fun k hk he => ?_)
      rcases hA9 with ha | ⟨bb, ha, hle⟩
      ·rw [ha, show (Value.slice sA last.length sc) = s.v from HES.out.symm] at he
       exact hk.1 he
      ·rw [ha] at he
       injection he with he
       have := hk.2.2.1
       omega
     ·have := HB9.out.size
      omega
     ·intro j hj
      exact Kd.R_base HO5.out j (by rw [show (Value.slice (some ⟨g, 0, none⟩) (ds ++ [s]).length cap).ownBlock = some g from rfl, ← hj])
  | zero =>
   have h1 : decide ((k : Int) < (l0.length : Int)) = false := decide_eq_false (by omega)
   have h2 : decide (k < l0.length) = false := decide_eq_false (by omega)
   have HL2 := Aside0.mk (show dl ++ [last] = r by have := HL.out; rw [List.drop_of_length_le (by omega), cutsA] at this; exact this)
   clear hk HL
   go_wp2
   go_ret
   exact ⟨_, rfl, HL2.out ▸ rows_of HO.out (DoneAt.snoc (HD.out.imp fun _ _ h => Kd.R_mono h (fun _ _ => trivial)) HT.out), HB.out⟩

/-! ### sequence_divide: function 35 (by hand) -/
theorem at_SV {w : World} {A : Option Addr} {n : Nat} {xs : List (List Int)} (h : sk.C w A n xs) (i : Nat) (h1 : i < n) : ∃ (ad : Addr) (s : SV), A = some ad ∧ w.cell? (ad.add i) = some s.v ∧ SVAt w s (xs.getD i []) := by
 obtain ⟨ad, A0, c0, e, hc, hl, hr⟩ := at_LI h (i : Int) (by omega) (by omega)
 rw [Int.toNat_natCast] at hc
 exact ⟨ad, ⟨A0, _, c0⟩, e, hc, rfl, hl, hr⟩
def divL (l0 l1 l2 l : List Int) : List Int := keepL (keptS l0 l1 l2) (onceS l) []
def oldsOf (b : List Int) (x : List S71) : List Int := x.map fun p => rd b p.f0
def divOrder (b : List Int) (x y : List S71) : List Int := (oldsOf b y).filter fun v => decide (v ∈ oldsOf b x)
def inB (b : List Int) (x : List S71) : Bool := x.all fun p => decide (0 ≤ p.f0 ∧ p.f0 < b.length)
def parts3 (x y z : List (List Int)) : List P3 := (List.range x.length).map fun i => ⟨x.getD i [], y.getD i [], z.getD i []⟩
def divEnd (b l r : List Int) (x y : List S71) : Option (List Int × List P3) :=
 if inB b x = true ∧ inB b y = true ∧ x.length ≤ 1000000 ∧ y.length ≤ 1000000 ∧ (cutsS (divOrder b x y) b).length ≤ 2000000 ∧ (cutsS (divOrder b x y) b).length ≤ (cutsS (divOrder b x y) l).length ∧ (cutsS (divOrder b x y) b).length ≤ (cutsS (divOrder b x y) r).length then
  some (divOrder b x y, parts3 (cutsS (divOrder b x y) b) (cutsS (divOrder b x y) l) (cutsS (divOrder b x y) r)) else none
def sequence_divide.f (k : Nat) (l0 l1 l2 : List Int) : Option (List Int × List P3) :=
 if l0.length ≤ 1000000 ∧ l1.length ≤ 1000000 ∧ l2.length ≤ 1000000 then
  (lcs_Ints.f k (divL l0 l1 l2 l0) (divL l0 l1 l2 l1)).bind fun x => (lcs_Ints.f k (divL l0 l1 l2 l0) (divL l0 l1 l2 l2)).bind fun y => divEnd (divL l0 l1 l2 l0) (divL l0 l1 l2 l1) (divL l0 l1 l2 l2) x y else none
theorem sequence_divide.mono : ∀ a0 a1 a2 k, LeO (sequence_divide.f k a0 a1 a2) (sequence_divide.f (k + 1) a0 a1 a2) := by
 intro a0 a1 a2 k
 unfold sequence_divide.f
 refine LeO.ite (LeO.bind (lcs_Ints.mono _ _ _) fun _ => LeO.bind (lcs_Ints.mono _ _ _) fun _ => LeO.refl _) (LeO.none _)
theorem keepL_len (kept : List Int) : ∀ (l out : List Int), (keepL kept l out).length ≤ out.length + l.length
 | [], out => by simp [keepL]
 | x :: r, out => by
  rw [keepL]
  have := keepL_len kept r (if x ∈ kept then out ++ [x] else out)
  split at this <;> simp at this ⊢ <;> split <;> simp_all <;> omega
set_option maxHeartbeats 8000000 in
set_option maxRecDepth 100000 in
theorem sequence_divide.calls (k : Nat) (A0 : Option Addr) (c0 : Nat) (l0 : List Int) (A1 : Option Addr) (c1 : Nat) (l1 : List Int) (A2 : Option Addr) (c2 : Nat) (l2 : List Int) (ord : List Int) (ps : List P3) (w : World) (hr0 : Kd.C (Kd.int .i64) w A0 l0.length l0) (hc0 : l0.length ≤ c0) (hr1 : Kd.C (Kd.int .i64) w A1 l1.length l1) (hc1 : l1.length ≤ c1) (hr2 : Kd.C (Kd.int .i64) w A2 l2.length l2) (hc2 : l2.length ≤ c2) (h : sequence_divide.f k l0 l1 l2 = some (ord, ps)) :
  Calls Try.prog 35 #[.slice A0 l0.length c0, .slice A1 l1.length c1, .slice A2 l2.length c2] w fun e w' => ∃ (Ao Ap : Option Addr) (co cp : Nat), e = .returned (.tuple #[.slice Ao ord.length co, .slice Ap ps.length cp]) ∧ Kd.C (Kd.int .i64) w' Ao ord.length ord ∧ ps.length ≤ cp ∧ k3.C w' Ap ps.length ps ∧ Below w.heap.size w w' := by
 have HR0 := Aside0.mk hr0
 have HC0 := Aside0.mk hc0
 have HR1 := Aside0.mk hr1
 have HC1 := Aside0.mk hc1
 have HR2 := Aside0.mk hr2
 have HC2 := Aside0.mk hc2
 clear hr0 hc0 hr1 hc1 hr2 hc2
 unfold sequence_divide.f at h
 have hsz : l0.length ≤ 1000000 ∧ l1.length ≤ 1000000 ∧ l2.length ≤ 1000000 := by
  by_cases c : l0.length ≤ 1000000 ∧ l1.length ≤ 1000000 ∧ l2.length ≤ 1000000
  ·exact c
  ·rw [if_neg c] at h
   cases h
 rw [if_pos hsz] at h
 obtain ⟨hs0, hs1, hs2⟩ := hsz
 have FK := Aside0.mk (show sequence_Kept.f l0 l1 l2 = some (keptS l0 l1 l2) by rw [sequence_Kept.f, if_pos ⟨hs0, hs1, hs2⟩])
 have F0 := Aside0.mk (show sequence_once.f l0 = some (onceS l0) by rw [sequence_once.f, if_pos (by omega)])
 have F1 := Aside0.mk (show sequence_once.f l1 = some (onceS l1) by rw [sequence_once.f, if_pos (by omega)])
 have F2 := Aside0.mk (show sequence_once.f l2 = some (onceS l2) by rw [sequence_once.f, if_pos (by omega)])
 have L0 := onceL_len l0 []
 have L1 := onceL_len l1 []
 have L2 := onceL_len l2 []
 have M0 := keepL_len (keptS l0 l1 l2) (onceS l0) []
 have M1 := keepL_len (keptS l0 l1 l2) (onceS l1) []
 have M2 := keepL_len (keptS l0 l1 l2) (onceS l2) []
 unfold divL at h
 unfold onceS at L0 L1 L2
 simp only [List.length_nil, Nat.zero_add] at L0 L1 L2 M0 M1 M2
 change (onceS l0).length ≤ _ at L0
 change (onceS l1).length ≤ _ at L1
 change (onceS l2).length ≤ _ at L2
 obtain ⟨kp, hkp⟩ : ∃ kp, kp = keptS l0 l1 l2 := ⟨_, rfl⟩
 rw [← hkp] at h FK M0 M1 M2
 clear hkp
 obtain ⟨o0, ho0⟩ : ∃ o, o = onceS l0 := ⟨_, rfl⟩
 obtain ⟨o1, ho1⟩ : ∃ o, o = onceS l1 := ⟨_, rfl⟩
 obtain ⟨o2, ho2⟩ : ∃ o, o = onceS l2 := ⟨_, rfl⟩
 rw [← ho0] at h F0 L0 M0
 rw [← ho1] at h F1 L1 M1
 rw [← ho2] at h F2 L2 M2
 clear ho0 ho1 ho2
 have hb0 : o0.length < 17592186044416 := by omega
 have hb1 : o1.length < 17592186044416 := by omega
 have hb2 : o2.length < 17592186044416 := by omega
 obtain ⟨lb, hlb⟩ : ∃ o, keepL kp o0 [] = o := ⟨_, rfl⟩
 obtain ⟨ll, hll⟩ : ∃ o, keepL kp o1 [] = o := ⟨_, rfl⟩
 obtain ⟨lr, hlr⟩ : ∃ o, keepL kp o2 [] = o := ⟨_, rfl⟩
 have HLB := Aside0.mk hlb
 have HLL := Aside0.mk hll
 have HLR := Aside0.mk hlr
 rw [hlb, hll, hlr] at h
 rw [hlb] at M0
 rw [hll] at M1
 rw [hlr] at M2
 clear hlb hll hlr
 obtain ⟨x, hx, h⟩ := Option.bind_eq_some_iff.1 h
 obtain ⟨y, hy, h⟩ := Option.bind_eq_some_iff.1 h
 have HX := Aside0.mk hx
 have HY := Aside0.mk hy
 clear hx hy
 unfold divEnd at h
 have hcond : inB lb x = true ∧ inB lb y = true ∧ x.length ≤ 1000000 ∧ y.length ≤ 1000000 ∧ (cutsS (divOrder lb x y) lb).length ≤ 2000000 ∧ (cutsS (divOrder lb x y) lb).length ≤ (cutsS (divOrder lb x y) ll).length ∧ (cutsS (divOrder lb x y) lb).length ≤ (cutsS (divOrder lb x y) lr).length := by
  apply Classical.byContradiction
  intro c
  rw [if_neg c] at h
  cases h
 rw [if_pos hcond] at h
 have HF := Aside0.mk (Option.some.inj h)
 clear h
 obtain ⟨hi1, hi2, hxl, hyl, hq0, hq1, hq2⟩ := hcond
 have HI1 := Aside0.mk (List.all_eq_true.1 hi1)
 have HI2 := Aside0.mk (List.all_eq_true.1 hi2)
 clear hi1 hi2
 have hmm := @run_makeMap Try.prog
 go_enter Try.func35, Try.ntmps35
 go_wp2_with (first
  | (go_at_call 20; ((with_reducible refine (sequence_Kept.calls A0 c0 l0 A1 c1 l1 A2 c2 l2 kp _ HR0.out HC0.out HR1.out HC1.out HR2.out HC2.out FK.out).mono ?_); rintro e w1 ⟨v1, rfl, hr1, hb1⟩; obtain ⟨Ak, ck, rfl⟩ := Kd.R_slice hr1; have HK1 := Aside0.mk (Kd.R_reads' hr1).2.2; have HB1 := Aside0.mk hb1; clear hr1 hb1))
  | (go_at_call 26; ((with_reducible refine (sequence_members.calls Ak ck kp _ HK1.out).mono ?_); rintro e w2 ⟨rfl, hm2, hb2⟩; have HM2 := Aside0.mk hm2; have HB2 := Aside0.mk (HB1.out.trans (hb2.mono HB1.out.size)); clear hm2 hb2))
  | (go_at_call 25; ((with_reducible refine (sequence_once.calls A0 c0 l0 o0 _ (Kd.C_below HR0.out HB2.out) HC0.out F0.out).mono ?_); rintro e w3 ⟨v3, rfl, hr3, hb3⟩; obtain ⟨A3, c3, rfl⟩ := Kd.R_slice hr3; have HR3 := Aside0.mk (Kd.R_reads' hr3).2.2; have HM3 := Aside0.mk (HM2.out.below hb3); have HB3 := Aside0.mk (HB2.out.trans (hb3.mono HB2.out.size)); clear hr3 hb3))
  | (go_at_call 48; ((with_reducible refine (sequence_keeps.calls A3 c3 o0 _ kp _ HR3.out HM3.out hb0).mono ?_); rintro e w4 ⟨v4, rfl, hr4, hb4⟩; rw [HLB.out] at hr4; obtain ⟨Ab, cb, rfl⟩ := Kd.R_slice hr4; have HRb := Aside0.mk (Kd.R_reads' hr4).2.2; have HCb := Aside0.mk (Kd.R_reads' hr4).2.1; have HM4 := Aside0.mk (HM3.out.below hb4); have HB4 := Aside0.mk (HB3.out.trans (hb4.mono HB3.out.size)); clear hr4 hb4))
  | (go_at_call 25; ((with_reducible refine (sequence_once.calls A1 c1 l1 o1 _ (Kd.C_below HR1.out HB4.out) HC1.out F1.out).mono ?_); rintro e w5 ⟨v5, rfl, hr5, hb5⟩; obtain ⟨A5, c5, rfl⟩ := Kd.R_slice hr5; have HR5 := Aside0.mk (Kd.R_reads' hr5).2.2; have HM5 := Aside0.mk (HM4.out.below hb5); have HRb5 := Aside0.mk (Kd.C_below HRb.out hb5); have HB5 := Aside0.mk (HB4.out.trans (hb5.mono HB4.out.size)); clear hr5 hb5))
  | (go_at_call 48; ((with_reducible refine (sequence_keeps.calls A5 c5 o1 _ kp _ HR5.out HM5.out hb1).mono ?_); rintro e w6 ⟨v6, rfl, hr6, hb6⟩; rw [HLL.out] at hr6; obtain ⟨Al, cl, rfl⟩ := Kd.R_slice hr6; have HRl := Aside0.mk (Kd.R_reads' hr6).2.2; have HCl := Aside0.mk (Kd.R_reads' hr6).2.1; have HM6 := Aside0.mk (HM5.out.below hb6); have HRb6 := Aside0.mk (Kd.C_below HRb5.out hb6); have HB6 := Aside0.mk (HB5.out.trans (hb6.mono HB5.out.size)); clear hr6 hb6))
  | (go_at_call 25; ((with_reducible refine (sequence_once.calls A2 c2 l2 o2 _ (Kd.C_below HR2.out HB6.out) HC2.out F2.out).mono ?_); rintro e w7 ⟨v7, rfl, hr7, hb7⟩; obtain ⟨A7, c7, rfl⟩ := Kd.R_slice hr7; have HR7 := Aside0.mk (Kd.R_reads' hr7).2.2; have HM7 := Aside0.mk (HM6.out.below hb7); have HRb7 := Aside0.mk (Kd.C_below HRb6.out hb7); have HRl7 := Aside0.mk (Kd.C_below HRl.out hb7); have HB7 := Aside0.mk (HB6.out.trans (hb7.mono HB6.out.size)); clear hr7 hb7))
  | (go_at_call 48; ((with_reducible refine (sequence_keeps.calls A7 c7 o2 _ kp _ HR7.out HM7.out hb2).mono ?_); rintro e w8 ⟨v8, rfl, hr8, hb8⟩; rw [HLR.out] at hr8; obtain ⟨Ar, cr, rfl⟩ := Kd.R_slice hr8; have HRr := Aside0.mk (Kd.R_reads' hr8).2.2; have HCr := Aside0.mk (Kd.R_reads' hr8).2.1; have HRb8 := Aside0.mk (Kd.C_below HRb7.out hb8); have HRl8 := Aside0.mk (Kd.C_below HRl7.out hb8); have HB8 := Aside0.mk (HB7.out.trans (hb8.mono HB7.out.size)); clear hr8 hb8))
  | (go_at_call 49; ((with_reducible refine (lcs_Ints.calls k Ab cb lb Al cl ll x _ (Kd.C_alloc HRb8.out _) HCb.out (Kd.C_alloc HRl8.out _) HCl.out HX.out).mono ?_); rintro e w9 ⟨v9, rfl, hr9, hb9⟩; obtain ⟨A9, c9, rfl⟩ := Kd.R_slice hr9; have HO9 := Aside0.mk hr9; have hba := below_alloc (Below.refl w8.heap.size w8) (Obj.map #[] 0); have hb89 := hba.trans (hb9.mono hba.size); have HRb9 := Aside0.mk (Kd.C_below HRb8.out hb89); have HRl9 := Aside0.mk (Kd.C_below HRl8.out hb89); have HRr9 := Aside0.mk (Kd.C_below HRr.out hb89); have HM9 := Aside0.mk ((MapAt.new intE w8).below hb9); have HB9 := Aside0.mk (HB8.out.trans (hb89.mono HB8.out.size)); have HB89 := Aside0.mk hb89; have HS9 : Aside0 (w8.heap.size < w9.heap.size) := ⟨by have := hb9.size; simp at this; omega⟩; clear hr9 hb9 hba hb89)))
 go_loopg [47] x.length (fun gk v47 w' => ∃ (kk : Nat), v47 = .int .i64 kk ∧ kk + gk = x.length ∧ Aside0 (MapAt intE w' w8.heap.size (setM ((oldsOf lb x).take kk))) ∧ Aside0 (Kd.R k71 71 w' (w8.alloc (Obj.map #[] 0)).heap.size (fun _ => True) (.slice A9 x.length c9) x) ∧ Aside0 (Below w8.heap.size w8 w'))
 case atStart =>
  refine ⟨0, rfl, by omega, ⟨?_⟩, ⟨?_⟩, ⟨?_⟩⟩
  ·exact HM9.out
  ·exact HO9.out
  ·exact HB89.out
 case round =>
  obtain ⟨kk, rfl, hk, HM, HO, HB⟩ := hrel
  obtain ⟨go, rfl⟩ : ∃ go, go = gk := ⟨gk, rfl⟩
  have HK := Aside0.mk hk
  cases go with
  | succ g =>
   have h1 : decide ((kk : Int) < (x.length : Int)) = true := decide_eq_true (by omega)
   have h2 : decide (kk < x.length) = true := decide_eq_true (by omega)
   have p12 : 0 ≤ (kk : Int) := by omega
   have q12 : (kk : Int) < (x.length : Int) := by omega
   have hk9 : kk < x.length := by omega
   obtain ⟨ad, e, hx0, hx1⟩ := at_T71 (Kd.R_reads' HO.out).2.2 (kk : Int) p12 q12
   cases e
   rw [Int.toNat_natCast] at hx0 hx1
   have hmem : rd_T71 x (kk : Int) ∈ x := by
    have : rd_T71 x (kk : Int) = x[kk] := by simp [rd_T71, List.getD_eq_getElem?_getD, List.getElem?_eq_getElem hk9]
    rw [this]
    exact List.getElem_mem hk9
   obtain ⟨pp, hpp⟩ : ∃ pp, pp = rd_T71 x (kk : Int) := ⟨_, rfl⟩
   rw [← hpp] at hx0 hx1 hmem
   obtain ⟨pb, qb⟩ := of_decide_eq_true (HI1.out _ hmem)
   obtain ⟨ab, eb, hxb⟩ := Kd.at_int (Kd.C_below HRb8.out HB.out) pp.f0 pb qb
   cases eb
   have HT := Aside0.mk (show (oldsOf lb x).take (kk + 1) = (oldsOf lb x).take kk ++ [rd lb pp.f0] by
    rw [List.take_add_one]
    have : (oldsOf lb x)[kk]? = some (rd lb pp.f0) := by
     rw [hpp]
     simp [oldsOf, List.getElem?_map, rd_T71, List.getD_eq_getElem?_getD, List.getElem?_eq_getElem hk9]
    rw [this]
    rfl)
   clear hmem hpp
   have hxb2 : (wr.alloc (Obj.cells #[.int .i64 pp.f0, .int .i64 pp.f1] 71)).cell? (ab.add pp.f0.toNat) = some (.int .i64 (rd lb pp.f0)) := (World.cell?_alloc_lt wr _ _ (World.block_lt_of_cell? wr _ hxb)).trans hxb
   go_wp2_with (first
    | (with_reducible refine wpList_mapUpdate rfl _ _ _ rfl (KeyOk.int Try.underlying3) Try.underlying41 rfl (HM.out.below (below_alloc (Below.refl _ _) _)) (rd lb pp.f0) rfl _ rfl ?_; intro w2 hm2 hg2; have HM2 := Aside0.mk hm2; have HG2 := Aside0.mk hg2; clear hm2 hg2))
   go_roundg g
   case measure => omega
   case rel =>
    have hBa : Below wr.heap.size wr (wr.alloc (Obj.cells #[.int .i64 pp.f0, .int .i64 pp.f1] 71)) := below_alloc (Below.refl _ _) _
    refine ⟨kk + 1, by go_num, by have := HK.out; omega, ⟨?_⟩, ⟨R_map (Kd.R_below HO.out hBa) (HM.out.below hBa) HG2.out⟩, ⟨(HB.out.trans (hBa.mono HB.out.size)).grown HG2.out ?_ ?_⟩⟩
    ·rw [HT.out, setM_snoc]
     exact HM2.out
    ·have := hBa.size
     have := HB.out.size
     omega
    ·intro j hj
     cases hj
     exact Nat.le_refl _
  | zero =>
   have h1 : decide ((kk : Int) < (x.length : Int)) = false := decide_eq_false (by omega)
   have h2 : decide (kk < x.length) = false := decide_eq_false (by omega)
   have HMx := Aside0.mk (show MapAt intE wr w8.heap.size (setM (oldsOf lb x)) by have := HM.out; rwa [List.take_of_length_le (by simp [oldsOf]; omega)] at this)
   clear hk HM HO
   obtain ⟨wA, hwA⟩ : ∃ wA : World, wA = wr := ⟨_, rfl⟩
   have HRbA := Aside0.mk (Kd.C_below HRb8.out HB.out)
   have HRlA := Aside0.mk (Kd.C_below HRl8.out HB.out)
   have HRrA := Aside0.mk (Kd.C_below HRr.out HB.out)
   have HBA := Aside0.mk (HB8.out.trans (HB.out.mono HB8.out.size))
   rw [← hwA] at HMx HRbA HRlA HRrA HBA ⊢
   clear hwA HB
   go_wp2_with (first
    | (go_at_call 49; ((with_reducible refine (lcs_Ints.calls k Ab cb lb Ar cr lr y _ (Kd.C_alloc HRbA.out _) HCb.out (Kd.C_alloc HRrA.out _) HCr.out HY.out).mono ?_); rintro e wB ⟨v11, rfl, hr11, hb11⟩; obtain ⟨A11, c11, rfl⟩ := Kd.R_slice hr11; have HO11 := Aside0.mk hr11; have hba := below_alloc (Below.refl wA.heap.size wA) (Obj.map #[] 0); have HBAB := Aside0.mk (hba.trans (hb11.mono hba.size)); have HM11 := Aside0.mk ((MapAt.new intE wA).below hb11); clear hr11 hb11 hba)))
   obtain ⟨ord', hord'⟩ : ∃ o, o = divOrder lb x y := ⟨_, rfl⟩
   have HORD := Aside0.mk hord'
   clear hord'
   go_loopg [16, 63] y.length (fun gk v16 v63 w' => ∃ (kk : Nat) (out : List Int), v63 = .int .i64 kk ∧ kk + gk = y.length ∧ out.length ≤ kk ∧ Aside0 (out = ((oldsOf lb y).take kk).filter fun v => decide (v ∈ oldsOf lb x)) ∧ Aside0 (MapAt intE w' wA.heap.size (setM out)) ∧ Aside0 (Kd.R (Kd.int .i64) 3 w' wA.heap.size (fun _ => True) v16 out) ∧ Aside0 (Kd.R k71 71 w' (wA.alloc (Obj.map #[] 0)).heap.size (fun _ => True) (.slice A11 y.length c11) y) ∧ Aside0 (Below wA.heap.size wA w'))
   case atStart =>
    refine ⟨0, [], rfl, by omega, by simp, ⟨?_⟩, ⟨?_⟩, ⟨?_⟩, ⟨?_⟩, ⟨?_⟩⟩
    ·simp
    ·exact HM11.out
    ·exact Kd.R_nil _ _ _ _ _
    ·exact HO11.out
    ·exact HBAB.out
   case round =>
    obtain ⟨kk, out, rfl, hk, hol, HL, HM, HO, HY2, HB⟩ := hrel
    obtain ⟨go, rfl⟩ : ∃ go, go = gk := ⟨gk, rfl⟩
    have HK := Aside0.mk hk
    cases go with
    | succ g =>
     have h1 : decide ((kk : Int) < (y.length : Int)) = true := decide_eq_true (by omega)
     have h2 : decide (kk < y.length) = true := decide_eq_true (by omega)
     have p12 : 0 ≤ (kk : Int) := by omega
     have q12 : (kk : Int) < (y.length : Int) := by omega
     have hk9 : kk < y.length := by omega
     obtain ⟨ad, e, hx0, hx1⟩ := at_T71 (Kd.R_reads' HY2.out).2.2 (kk : Int) p12 q12
     cases e
     rw [Int.toNat_natCast] at hx0 hx1
     have hmem : rd_T71 y (kk : Int) ∈ y := by
      have : rd_T71 y (kk : Int) = y[kk] := by simp [rd_T71, List.getD_eq_getElem?_getD, List.getElem?_eq_getElem hk9]
      rw [this]
      exact List.getElem_mem hk9
     obtain ⟨pp, hpp⟩ : ∃ pp, pp = rd_T71 y (kk : Int) := ⟨_, rfl⟩
     rw [← hpp] at hx0 hx1 hmem
     obtain ⟨pb, qb⟩ := of_decide_eq_true (HI2.out _ hmem)
     obtain ⟨ab, eb, hxb⟩ := Kd.at_int (Kd.C_below HRbA.out HB.out) pp.f0 pb qb
     cases eb
     obtain ⟨xx, hxx⟩ : ∃ xx, xx = rd lb pp.f0 := ⟨_, rfl⟩
     have HT := Aside0.mk (show (oldsOf lb y).take (kk + 1) = (oldsOf lb y).take kk ++ [xx] by
      rw [List.take_add_one]
      have : (oldsOf lb y)[kk]? = some xx := by
       rw [hxx, hpp]
       simp [oldsOf, List.getElem?_map, rd_T71, List.getD_eq_getElem?_getD, List.getElem?_eq_getElem hk9]
      rw [this]
      rfl)
     rw [← hxx] at hxb
     clear hmem hpp hxx
     have hxb2 : (wr.alloc (Obj.cells #[.int .i64 pp.f0, .int .i64 pp.f1] 71)).cell? (ab.add pp.f0.toNat) = some (.int .i64 xx) := (World.cell?_alloc_lt wr _ _ (World.block_lt_of_cell? wr _ hxb)).trans hxb
     have HBa : Aside0 (Below wr.heap.size wr (wr.alloc (Obj.cells #[.int .i64 pp.f0, .int .i64 pp.f1] 71))) := ⟨below_alloc (Below.refl _ _) _⟩
     have HMl := Aside0.mk ((HMx.out.below HB.out).below HBa.out)
     have HM' := Aside0.mk (HM.out.below HBa.out)
     have HG := Aside0.mk (setM_get (oldsOf lb x) xx)
     obtain ⟨Ao, co, eo⟩ := Kd.R_slice HO.out
     subst eo
     have HO' := Aside0.mk (Kd.R_below HO.out HBa.out)
     have HY' := Aside0.mk (Kd.R_below HY2.out HBa.out)
     have HB' := Aside0.mk (HB.out.trans (HBa.out.mono HB.out.size))
     by_cases hin : xx ∈ oldsOf lb x
     ·rw [decide_eq_true hin] at HG
      have HLn := Aside0.mk (show out ++ [xx] = ((oldsOf lb y).take (kk + 1)).filter fun v => decide (v ∈ oldsOf lb x) by rw [HT.out, List.filter_append, ← HL.out]; simp [hin])
      clear hin
      have hb44 : out.length < 17592186044416 := by omega
      have HS := Aside0.mk (setM_snoc out xx)
      go_wp2_with (first
       | (with_reducible refine wpList_lookup (z := .bool false) rfl (.tmp 72) _ rfl (KeyOk.int Try.underlying3) Try.underlying41 (by kernel_rfl) rfl HMl.out xx rfl ?_; rw [HG.out])
       | (with_reducible refine wpList_mapUpdate rfl _ _ _ rfl (KeyOk.int Try.underlying3) Try.underlying41 rfl HM'.out xx rfl _ rfl ?_; intro w2 hm2 hg2; have HM2 := Aside0.mk hm2; have HO2 := Aside0.mk (R_map HO'.out HM'.out hg2); have HY3 := Aside0.mk (R_map HY'.out HM'.out hg2); have HB2 := Aside0.mk (HB'.out.grown hg2 HB'.out.size (fun j hj => by cases hj; exact Nat.le_refl _)); clear hm2 hg2)
       | ((with_reducible refine gate_builtin (b := .append) (xs := #[.tmp 77, .tmp 79]) rfl ?_); at_builtin; refine Kd.R_append (Kd.int .i64) (w0 := wA) wA.heap.size rfl (.tmp 77) (.tmp 79) 22 3 (.int .i64 0) 8 rfl Try.underlying22 info3 rfl (by decide) (by omega) (.slice Ao out.length co) out xx [.int .i64 xx] (fun _ => True) (fun _ => False) rfl rfl ?aP (fun _ hk => hk.elim) ?aF ?aO ?aB ?aS ?aL ?_; (case aP => exact rfl); (case aF => exact (fun _ _ => trivial)); (case aO => exact HO2.out); (case aB => exact HB2.out); (case aS => exact HB2.out.size); (case aL => omega); intro v9 w9' ho hb hg hat; have HO9' := Aside0.mk ho; have HB9' := Aside0.mk hb; have HM9' := Aside0.mk (MapAt.row HM2.out HO2.out hg); have HY9 := Aside0.mk (R_kinds HY3.out HO2.out (by intro q hq; simp [k71, Kd.iso, Kd.pair, Kd.int, Kd.scalar] at hq; omega) hg); clear ho hb hg hat))
      go_roundg g
      case measure => omega
      case rel =>
       refine ⟨kk + 1, out ++ [xx], by go_num, by have := HK.out; omega, by simp; omega, HLn, ⟨?_⟩, HO9', HY9, HB9'⟩
       rw [HS.out]
       exact HM9'.out
     ·rw [decide_eq_false hin] at HG
      have HLn := Aside0.mk (show out = ((oldsOf lb y).take (kk + 1)).filter fun v => decide (v ∈ oldsOf lb x) by rw [HT.out, List.filter_append, ← HL.out]; simp [hin])
      clear hin
      go_wp2_with (first
       | (with_reducible refine wpList_lookup (z := .bool false) rfl (.tmp 72) _ rfl (KeyOk.int Try.underlying3) Try.underlying41 (by kernel_rfl) rfl HMl.out xx rfl ?_; rw [HG.out]))
      go_roundg g
      case measure => omega
      case rel => exact ⟨kk + 1, out, by go_num, by have := HK.out; omega, by omega, HLn, HM', HO', HY', HB'⟩
    | zero =>
     have h1 : decide ((kk : Int) < (y.length : Int)) = false := decide_eq_false (by omega)
     have h2 : decide (kk < y.length) = false := decide_eq_false (by omega)
     have HE := Aside0.mk (show out = divOrder lb x y by have := HL.out; rwa [List.take_of_length_le (by simp [oldsOf]; omega)] at this)
     have hol2 : out.length ≤ 1000000 := by omega
     rw [← HE.out] at hq0 hq1 hq2
     have HF2 := HF.out
     rw [← HE.out] at HF2
     have HF3 := Aside0.mk HF2
     clear HF2
     clear HL HF HORD HY2
     obtain ⟨wC, hwC⟩ : ∃ wC : World, wC = wr := ⟨_, rfl⟩
     have HRbC := Aside0.mk (Kd.C_below HRbA.out HB.out)
     have HRlC := Aside0.mk (Kd.C_below HRlA.out HB.out)
     have HRrC := Aside0.mk (Kd.C_below HRrA.out HB.out)
     have HBC := Aside0.mk (HBA.out.trans (HB.out.mono HBA.out.size))
     obtain ⟨Ao, co, eo⟩ := Kd.R_slice HO.out
     subst eo
     have HOC := Aside0.mk (Kd.R_reads' HO.out).2.2
     rw [← hwC] at HM HRbC HRlC HRrC HBC HOC ⊢
     clear hwC HB HO
     have hlb3 : lb.length < 100000000000 := by omega
     have hll3 : ll.length < 100000000000 := by omega
     have hlr3 : lr.length < 100000000000 := by omega
     go_wp2_with (first
      | (go_at_call 50; ((with_reducible refine (sequence_cuts.calls Ab cb lb _ out _ HRbC.out HM.out hlb3).mono ?_); rintro e w20 ⟨v20, rfl, hr, hb⟩; obtain ⟨A20, c20, rfl⟩ := Kd.R_slice hr; have HX20 := Aside0.mk (Kd.R_reads' hr).2.2; have HM20 := Aside0.mk (HM.out.below hb); have HRl20 := Aside0.mk (Kd.C_below HRlC.out hb); have HRr20 := Aside0.mk (Kd.C_below HRrC.out hb); have HO20 := Aside0.mk (Kd.C_below HOC.out hb); have HB20 := Aside0.mk (HBC.out.trans (hb.mono HBC.out.size)); clear hr hb))
      | (go_at_call 50; ((with_reducible refine (sequence_cuts.calls Al cl ll _ out _ HRl20.out HM20.out hll3).mono ?_); rintro e w21 ⟨v21, rfl, hr, hb⟩; obtain ⟨A21, c21, rfl⟩ := Kd.R_slice hr; have HX21 := Aside0.mk (Kd.C_below HX20.out hb); have HY21 := Aside0.mk (Kd.R_reads' hr).2.2; have HM21 := Aside0.mk (HM20.out.below hb); have HRr21 := Aside0.mk (Kd.C_below HRr20.out hb); have HO21 := Aside0.mk (Kd.C_below HO20.out hb); have HB21 := Aside0.mk (HB20.out.trans (hb.mono HB20.out.size)); clear hr hb))
      | (go_at_call 50; ((with_reducible refine (sequence_cuts.calls Ar cr lr _ out _ HRr21.out HM21.out hlr3).mono ?_); rintro e w22 ⟨v22, rfl, hr, hb⟩; obtain ⟨A22, c22, rfl⟩ := Kd.R_slice hr; have HX22 := Aside0.mk (Kd.C_below HX21.out hb); have HY22 := Aside0.mk (Kd.C_below HY21.out hb); have HZ22 := Aside0.mk (Kd.R_reads' hr).2.2; have HO22 := Aside0.mk (Kd.C_below HO21.out hb); have HB22 := Aside0.mk (HB21.out.trans (hb.mono HB21.out.size)); clear hr hb)))
     clear h1 h2
     obtain ⟨X, hX⟩ : ∃ X, X = cutsS out lb := ⟨_, rfl⟩
     obtain ⟨Y, hY⟩ : ∃ Y, Y = cutsS out ll := ⟨_, rfl⟩
     obtain ⟨Z, hZ⟩ : ∃ Z, Z = cutsS out lr := ⟨_, rfl⟩
     rw [← hX] at HX22 hq0 hq1 hq2 HF3 ⊢
     rw [← hY] at HY22 hq1 HF3 ⊢
     rw [← hZ] at HZ22 hq2 HF3 ⊢
     clear hX hY hZ
     go_loopg [23, 93] X.length (fun gk v23 v93 w' => ∃ (kk : Nat) (xs : List PV), v93 = .int .i64 kk ∧ kk + gk = X.length ∧ xs.length = kk ∧ Aside0 (Kd.R pvk 39 w' w22.heap.size (fun _ => True) v23 xs) ∧ Aside0 (RowPV w22 xs ((parts3 X Y Z).take kk)) ∧ Aside0 (Below w22.heap.size w22 w'))
     case atStart =>
      refine ⟨0, [], rfl, by omega, by simp, ⟨?_⟩, ⟨?_⟩, ⟨?_⟩⟩
      ·exact Kd.R_nil _ _ _ _ _
      ·exact RowPV.nil _
      ·exact Below.refl _ _
     case round =>
      obtain ⟨kk, xs, rfl, hk, hxs, HO, HP, HB⟩ := hrel
      obtain ⟨go, rfl⟩ : ∃ go, go = gk := ⟨gk, rfl⟩
      have HK := Aside0.mk hk
      cases go with
      | succ g =>
       have h1 : decide ((kk : Int) < (X.length : Int)) = true := decide_eq_true (by omega)
       have h2 : decide (kk < X.length) = true := decide_eq_true (by omega)
       have p12 : 0 ≤ (kk : Int) := by omega
       have q12 : (kk : Int) < (X.length : Int) := by omega
       have q13 : (kk : Int) < (Y.length : Int) := by omega
       have q14 : (kk : Int) < (Z.length : Int) := by omega
       obtain ⟨aX, sX, e1, hcX, hsX⟩ := at_SV HX22.out kk (by omega)
       obtain ⟨aY, sY, e2, hcY, hsY⟩ := at_SV HY22.out kk (by omega)
       obtain ⟨aZ, sZ, e3, hcZ, hsZ⟩ := at_SV HZ22.out kk (by omega)
       cases e1
       cases e2
       cases e3
       have HPV := Aside0.mk (show PVAt w22 ⟨sX, sY, sZ⟩ ⟨X.getD kk [], Y.getD kk [], Z.getD kk []⟩ from ⟨hsX, hsY, hsZ⟩)
       have HT := Aside0.mk (show (parts3 X Y Z).take (kk + 1) = (parts3 X Y Z).take kk ++ [⟨X.getD kk [], Y.getD kk [], Z.getD kk []⟩] by
        rw [List.take_add_one]
        have : (parts3 X Y Z)[kk]? = some ⟨X.getD kk [], Y.getD kk [], Z.getD kk []⟩ := by
         simp only [parts3, List.getElem?_map, List.getElem?_range (show kk < X.length by omega), Option.map_some]
        rw [this]
        rfl)
       have hcX' := (HB.out.cell (World.block_lt_of_cell? w22 _ hcX)).trans hcX
       have hcY' := (HB.out.cell (World.block_lt_of_cell? w22 _ hcY)).trans hcY
       have hcZ' := (HB.out.cell (World.block_lt_of_cell? w22 _ hcZ)).trans hcZ
       clear hcX hcY hcZ hsX hsY hsZ
       change _ = some (Value.slice sX.A sX.n sX.c) at hcX'
       change _ = some (Value.slice sY.A sY.n sY.c) at hcY'
       change _ = some (Value.slice sZ.A sZ.n sZ.c) at hcZ'
       have hb44 : xs.length < 100000000 := by omega
       have HXS := Aside0.mk hxs
       clear hxs
       have HO' := Kd.R_drew HO.out
       have HB' := HB.out.trans ((pw_below_drewN (Below.refl wr.heap.size wr) 1).mono HB.out.size)
       change Below _ _ wr.drew at HB'
       have HOD := Aside0.mk HO'
       have HBD := Aside0.mk HB'
       clear HO' HB'
       obtain ⟨Ap, cp, ep⟩ := Kd.R_slice HOD.out
       subst ep
       go_wp2
       go_region_law (first | (refine Kd.R_append_step pvk (w0 := w22) w22.heap.size rfl (.tmp 96) (.tmp 110) 49 39 (.agg #[.slice none 0 0, .slice none 0 0, .slice none 0 0]) 72 rfl Try.underlying49 (by kernel_rfl) rfl (by decide) (by omega) (.slice Ap xs.length cp) xs ⟨sX, sY, sZ⟩ [.slice sX.A sX.n sX.c, .slice sY.A sY.n sY.c, .slice sZ.A sZ.n sZ.c] (fun _ => True) (fun _ => False) rfl rfl (pvk_mkM _ _ _ _) (fun _ hk => hk.elim) (fun _ _ => trivial) HOD.out HBD.out HBD.out.size (by omega) ?_; intro v9 w9' ho hb hg hat; have HO9' := Aside0.mk ho; have HB9' := Aside0.mk hb; clear ho hb hg hat))
       all_goals
        go_wp2
        go_roundg g
        case measure => omega
        case rel =>
         refine ⟨kk + 1, xs ++ [⟨sX, sY, sZ⟩], by go_num, by have := HK.out; omega, by simp [HXS.out], HO9', ⟨?_⟩, HB9'⟩
         rw [HT.out]
         exact HP.out.snoc HPV.out
      | zero =>
       have h1 : decide ((kk : Int) < (X.length : Int)) = false := decide_eq_false (by omega)
       have h2 : decide (kk < X.length) = false := decide_eq_false (by omega)
       have HP2 := Aside0.mk (show RowPV wr xs (parts3 X Y Z) by have := HP.out; rw [List.take_of_length_le (by simp [parts3]; omega)] at this; exact this.below HB.out)
       obtain ⟨Ap, cp, ep⟩ := Kd.R_slice HO.out
       subst ep
       go_wp2
       go_ret2
       have e := HF3.out
       injection e with e1 e2
       subst e1 e2
       have hr := Kd.R_reads' HO.out
       have hl := HP2.out.1
       refine ⟨Ao, Ap, co, cp, by first | rfl | (rw [hl]; rfl), Kd.C_below HO22.out HB.out, by rw [← hl]; exact hr.2.1, ?_, HB22.out.trans (HB.out.mono HB22.out.size)⟩
       rw [← hl]
       exact HP2.out.C hr.2.2

/-! ### sequence_equal: function 51 -/
def sequence_equal.l0 : Nat → List Int → List Int → Int → Int → Option (Bool)
 | 0, _, _, _, _ => none
 | k + 1, x0, x1, x12, x13 => if x13 < x12 then (if 0 ≤ x13 then (if x13 < (x0.length : Int) then (if x13 < (x1.length : Int) then (if (rd x0 x13) = (rd x1 x13) then (sequence_equal.l0 k x0 x1 x12 (wrap64 (x13 + 1))) else (some false)) else (none)) else (none)) else (none)) else (some true)
def sequence_equal.f (k : Nat) (l0 : List Int) (l1 : List Int) : Option (Bool) := if (l0.length : Int) = (l1.length : Int) then (sequence_equal.l0 k l0 l1 (l0.length : Int) 0) else (some false)
theorem sequence_equal.mono_l : ∀ k, (∀ y0 y1 y2 y3, LeO (sequence_equal.l0 k y0 y1 y2 y3) (sequence_equal.l0 (k + 1) y0 y1 y2 y3))
 | 0 => fun _ _ _ _ r h => by simp [sequence_equal.l0] at h
 | k + 1 => by
  have ih0 := sequence_equal.mono_l k
  ·intro y0 y1 y2 y3
   unfold sequence_equal.l0
   repeat' first
   | (with_reducible exact ih0 _ _ _ _)
   | (with_reducible exact LeO.refl _)
   | (with_reducible exact LeO.none _)
   | (with_reducible refine LeO.ite ?_ ?_)
   | (with_reducible refine LeO.bind ?_ (fun _ => ?_))
theorem sequence_equal.mono : ∀ a0 a1 k, LeO (sequence_equal.f k a0 a1) (sequence_equal.f (k + 1) a0 a1) := by
 intro a0 a1 k
 have ih0 := sequence_equal.mono_l k
 unfold sequence_equal.f
 repeat' first
   | (with_reducible exact ih0 _ _ _ _)
   | (with_reducible exact LeO.refl _)
   | (with_reducible exact LeO.none _)
   | (with_reducible refine LeO.ite ?_ ?_)
   | (with_reducible refine LeO.bind ?_ (fun _ => ?_))
set_option maxHeartbeats 8000000 in
set_option maxRecDepth 100000 in
theorem sequence_equal.calls (k : Nat) (A0 : Option Addr) (c0 : Nat) (l0 : List Int) (A1 : Option Addr) (c1 : Nat) (l1 : List Int) (r : Bool) (w : World) (hr0 : Kd.C (Kd.int .i64) w A0 l0.length l0) (hc0 : l0.length ≤ c0) (hr1 : Kd.C (Kd.int .i64) w A1 l1.length l1) (hc1 : l1.length ≤ c1) (h : sequence_equal.f k l0 l1 = some r) :
  Calls Try.prog 51 #[.slice A0 l0.length c0, .slice A1 l1.length c1] w fun e w' => e = .returned (.bool r) ∧ Drawn0 w w' := by
 have HR0 := Aside0.mk hr0
 have HC0 := Aside0.mk hc0
 clear hr0 hc0
 have HR1 := Aside0.mk hr1
 have HC1 := Aside0.mk hc1
 clear hr1 hc1
 have H : (if (l0.length : Int) = (l1.length : Int) then (sequence_equal.l0 k l0 l1 (l0.length : Int) 0) else (some false)) = some r := h
 clear h
 by_cases c3 : (l0.length : Int) = (l1.length : Int)
 ·rw [if_pos c3] at H
  have c3b0 : ((l0.length : Int) == (l1.length : Int)) = true := beq_iff_eq.mpr c3
  have c3b1 : ((l0.length : Int) != (l1.length : Int)) = false := bne_eq_false_iff_eq.mpr c3
  have c3b2 : (l0.length == l1.length) = true := by first | simpa using c3 | (simp at c3 ⊢; omega)
  clear c3
  have H' := Aside0.mk H
  clear H
  go_enter Try.func51, Try.ntmps51
  go_wp2
  repeat (go_quiet (fail); try go_wp2)
  go_loopg [13] k (fun kq v13 w' => ∃ (x13_1 : Int), v13 = .int .i64 x13_1 ∧ Aside0 (sequence_equal.l0 kq l0 l1 (l0.length : Int) x13_1 = some r) ∧ Aside0 (kq ≤ k) ∧ Drawn0 w w')
  case atStart => exact ⟨(0), SX, H', ⟨Nat.le_refl _⟩, by repeat (first | exact Drawn0.refl _ | apply Drawn0.step)⟩
  case round =>
   clear H'
   try clear c1
   try clear p2
   try clear c3
   try clear c3b0
   try clear c3b1
   try clear c3b2
   obtain ⟨x13_1, rfl, HA, HK1, ⟨m1, rfl⟩⟩ := hrel
   cases gk with
   | zero => exact absurd HA.out (by simp [sequence_equal.l0])
   | succ k1 =>
    have H := HA.out
    clear HA
    simp only [sequence_equal.l0] at H
    by_cases c4 : x13_1 < (l0.length : Int)
    ·rw [if_pos c4] at H
     have c4b0 : decide (x13_1 < (l0.length : Int)) = true := decide_eq_true c4
     clear c4
     by_cases c5 : 0 ≤ x13_1
     ·rw [if_pos c5] at H
      have c5b0 : decide (0 ≤ x13_1) = true := decide_eq_true c5
      clear c5
      by_cases c6 : x13_1 < (l0.length : Int)
      ·rw [if_pos c6] at H
       have c6b0 : decide (x13_1 < (l0.length : Int)) = true := decide_eq_true c6
       clear c6
       by_cases c7 : x13_1 < (l1.length : Int)
       ·rw [if_pos c7] at H
        have c7b0 : decide (x13_1 < (l1.length : Int)) = true := decide_eq_true c7
        clear c7
        by_cases c8 : (rd l0 x13_1) = (rd l1 x13_1)
        ·rw [if_pos c8] at H
         have c8b0 : ((rd l0 x13_1) == (rd l1 x13_1)) = true := beq_iff_eq.mpr c8
         have c8b1 : ((rd l0 x13_1) != (rd l1 x13_1)) = false := bne_eq_false_iff_eq.mpr c8
         clear c8
         have H' := Aside0.mk H
         clear H
         have p160 : 0 ≤ (x13_1 : Int) := of_decide_eq_true AX
         have q160 : x13_1 < (l0.length : Int) := of_decide_eq_true AX
         obtain ⟨ad160, e160, hx160_0⟩ := Kd.at_int HR0.out x13_1 p160 q160
         cases e160
         replace p160 := eq_true p160
         replace q160 := eq_true q160
         have p161 : 0 ≤ (x13_1 : Int) := of_decide_eq_true AX
         have q161 : x13_1 < (l1.length : Int) := of_decide_eq_true AX
         obtain ⟨ad161, e161, hx161_0⟩ := Kd.at_int HR1.out x13_1 p161 q161
         cases e161
         replace p161 := eq_true p161
         replace q161 := eq_true q161
         go_wp2
         repeat (go_quiet (fail); try go_wp2)
         go_roundg k1
         case measure => have := HK1.out; omega
         case rel => exact ⟨(wrap64 (x13_1 + 1)), SX, H', ⟨by have := HK1.out; omega⟩, by repeat (first | exact Drawn0.refl _ | apply Drawn0.step)⟩
        ·rw [if_neg c8] at H
         have c8b0 : ((rd l0 x13_1) == (rd l1 x13_1)) = false := beq_eq_false_iff_ne.mpr c8
         have c8b1 : ((rd l0 x13_1) != (rd l1 x13_1)) = true := bne_iff_ne.mpr c8
         obtain rfl := Option.some.inj H
         have p160 : 0 ≤ (x13_1 : Int) := of_decide_eq_true AX
         have q160 : x13_1 < (l0.length : Int) := of_decide_eq_true AX
         obtain ⟨ad160, e160, hx160_0⟩ := Kd.at_int HR0.out x13_1 p160 q160
         cases e160
         replace p160 := eq_true p160
         replace q160 := eq_true q160
         have p161 : 0 ≤ (x13_1 : Int) := of_decide_eq_true AX
         have q161 : x13_1 < (l1.length : Int) := of_decide_eq_true AX
         obtain ⟨ad161, e161, hx161_0⟩ := Kd.at_int HR1.out x13_1 p161 q161
         cases e161
         replace p161 := eq_true p161
         replace q161 := eq_true q161
         go_wp2
         repeat (go_quiet (fail); try go_wp2)
         go_ret
         exact ⟨SX, by repeat (first | exact Drawn0.refl _ | apply Drawn0.step)⟩
       ·rw [if_neg c7] at H
        exact absurd H (by simp)
      ·rw [if_neg c6] at H
       exact absurd H (by simp)
     ·rw [if_neg c5] at H
      exact absurd H (by simp)
    ·rw [if_neg c4] at H
     have c4b0 : decide (x13_1 < (l0.length : Int)) = false := decide_eq_false c4
     clear c4
     obtain rfl := Option.some.inj H
     go_wp2
     repeat (go_quiet (fail); try go_wp2)
     go_ret
     exact ⟨SX, by repeat (first | exact Drawn0.refl _ | apply Drawn0.step)⟩
 ·rw [if_neg c3] at H
  have c3b0 : ((l0.length : Int) == (l1.length : Int)) = false := beq_eq_false_iff_ne.mpr c3
  have c3b1 : ((l0.length : Int) != (l1.length : Int)) = true := bne_iff_ne.mpr c3
  have c3b2 : (l0.length == l1.length) = false := by first | simpa using c3 | (simp at c3 ⊢; omega)
  obtain rfl := Option.some.inj H
  go_enter Try.func51, Try.ntmps51
  go_wp2
  repeat (go_quiet (fail); try go_wp2)
  go_ret
  exact ⟨SX, by repeat (first | exact Drawn0.refl _ | apply Drawn0.step)⟩

/-! ### sequence_merged: function 36 (by hand) -/
theorem equal_l0 (a b : List Int) (hl : a.length = b.length) (hb : a.length < 9223372036854775808) : ∀ j i, i + j = a.length → sequence_equal.l0 (j + 1) a b (a.length : Int) (i : Int) = some (decide (a.drop i = b.drop i)) := by
 intro j
 induction j with
 | zero =>
  intro i hi
  have hi' : i = a.length := by omega
  unfold sequence_equal.l0
  rw [if_neg (by omega), List.drop_of_length_le (by omega), List.drop_of_length_le (by omega)]
  simp
 | succ j ih =>
  intro i hi
  have h1 : i < a.length := by omega
  have h2 : i < b.length := by omega
  have ea : rd a (i : Int) = a[i] := by simp [rd, List.getD_eq_getElem?_getD, List.getElem?_eq_getElem h1]
  have eb : rd b (i : Int) = b[i] := by simp [rd, List.getD_eq_getElem?_getD, List.getElem?_eq_getElem h2]
  unfold sequence_equal.l0
  rw [if_pos (by omega), if_pos (by omega), if_pos (by omega), if_pos (by omega), ea, eb, List.drop_eq_getElem_cons h1, List.drop_eq_getElem_cons h2]
  have hw : wrap64 ((i : Int) + 1) = ((i + 1 : Nat) : Int) := by unfold wrap64; omega
  by_cases h : a[i] = b[i]
  ·rw [if_pos h, hw, ih (i + 1) (by omega)]
   simp only [List.cons.injEq, h, true_and]
  ·rw [if_neg h]
   simp only [List.cons.injEq, h, false_and, decide_false]
theorem equal_f (a b : List Int) (hb : a.length < 9223372036854775808) : sequence_equal.f (a.length + 1) a b = some (decide (a = b)) := by
 unfold sequence_equal.f
 by_cases hl : a.length = b.length
 ·rw [if_pos (by omega)]
  have := equal_l0 a b hl hb a.length 0 (by omega)
  simpa using this
 ·rw [if_neg (by omega)]
  have : a ≠ b := fun h => hl (by rw [h])
  simp [this]
theorem equal_calls (A0 : Option Addr) (c0 : Nat) (l0 : List Int) (A1 : Option Addr) (c1 : Nat) (l1 : List Int) (r : Bool) (w : World) (hr0 : Kd.C (Kd.int .i64) w A0 l0.length l0) (hc0 : l0.length ≤ c0) (hr1 : Kd.C (Kd.int .i64) w A1 l1.length l1) (hc1 : l1.length ≤ c1) (h : decide (l0 = l1) = r) :
  Calls Try.prog 51 #[.slice A0 l0.length c0, .slice A1 l1.length c1] w fun e w' => e = .returned (.bool r) ∧ Drawn0 w w' :=
 sequence_equal.calls (l0.length + 1) A0 c0 l0 A1 c1 l1 r w hr0 hc0 hr1 hc1 (by rw [equal_f _ _ (by have := hr0.2.1; omega), h])
def mergedS (p : P3) : Option (List Int) := if p.f1 = p.f0 then some p.f2 else if p.f2 = p.f0 ∨ p.f1 = p.f2 then some p.f1 else none
/-- A slice that reads as a list. -/
def SlAt (w : World) (v : Value) (l : List Int) : Prop := ∃ s : SV, v = .slice s.A s.n s.c ∧ SVAt w s l
theorem SlAt.below {w w1 : World} {v : Value} {l : List Int} (h : SlAt w v l) (hb : Below w.heap.size w w1) : SlAt w1 v l := by
 obtain ⟨s, e, h⟩ := h
 exact ⟨s, e, h.below hb⟩
theorem SlAt.nil (w : World) : SlAt w (.slice none 0 0) [] := ⟨SV.z, rfl, rfl, Nat.le_refl _, Kd.C_nil _ w⟩
set_option maxHeartbeats 4000000 in
set_option maxRecDepth 100000 in
theorem sequence_merged_calls (x : PV) (p : P3) (w : World) (hp : PVAt w x p) :
  Calls Try.prog 36 #[.agg #[x.a.v, x.b.v, x.c.v]] w fun e w' => ∃ (v0 : Value), e = .returned (.tuple #[v0, .bool (mergedS p).isSome]) ∧ SlAt w' v0 ((mergedS p).getD []) ∧ Below w.heap.size w w' := by
 obtain ⟨⟨A0, n0, c0⟩, ⟨A1, n1, c1⟩, ⟨A2, n2, c2⟩⟩ := x
 obtain ⟨f0, f1, f2⟩ := p
 obtain ⟨⟨e0, hc0, hr0⟩, ⟨e1, hc1, hr1⟩, ⟨e2, hc2, hr2⟩⟩ := hp
 dsimp only at e0 e1 e2 hc0 hc1 hc2 hr0 hr1 hr2
 subst e0 e1 e2
 have HR0 := Aside0.mk hr0
 have HR1 := Aside0.mk hr1
 have HR2 := Aside0.mk hr2
 have HC0 := Aside0.mk hc0
 have HC1 := Aside0.mk hc1
 have HC2 := Aside0.mk hc2
 clear hr0 hr1 hr2 hc0 hc1 hc2
 dsimp only [SV.v]
 by_cases h10 : f1 = f0
 ·have D10 := Aside0.mk (decide_eq_true h10)
  have hM : mergedS ⟨f0, f1, f2⟩ = some f2 := if_pos h10
  rw [hM]
  clear h10 hM
  go_enter Try.func36, Try.ntmps36
  go_wp2_with (first | (go_at_call 51; ((with_reducible refine (equal_calls A1 c1 f1 A0 c0 f0 true _ (Kd.C_alloc HR1.out _) HC1.out (Kd.C_alloc HR0.out _) HC0.out D10.out).mono ?_); rintro e w' ⟨rfl, ⟨nd, rfl⟩⟩)))
  go_ret2
  exact ⟨_, rfl, ⟨⟨A2, _, c2⟩, rfl, rfl, HC2.out, Kd.C_drewN (Kd.C_alloc HR2.out _) _⟩, pw_below_drewN (below_alloc (Below.refl _ _) _) _⟩
 ·have D10 := Aside0.mk (decide_eq_false h10)
  by_cases h20 : f2 = f0
  ·have D20 := Aside0.mk (decide_eq_true h20)
   have hM : mergedS ⟨f0, f1, f2⟩ = some f1 := by unfold mergedS; rw [if_neg h10, if_pos (.inl h20)]
   rw [hM]
   clear h10 h20 hM
   go_enter Try.func36, Try.ntmps36
   go_wp2_with (first | (go_at_call 51; ((with_reducible refine (equal_calls A1 c1 f1 A0 c0 f0 false _ (Kd.C_alloc HR1.out _) HC1.out (Kd.C_alloc HR0.out _) HC0.out D10.out).mono ?_); rintro e w' ⟨rfl, ⟨nd, rfl⟩⟩)) | (go_at_call 51; ((with_reducible refine (equal_calls A2 c2 f2 A0 c0 f0 true _ (Kd.C_drewN (Kd.C_alloc HR2.out _) _) HC2.out (Kd.C_drewN (Kd.C_alloc HR0.out _) _) HC0.out D20.out).mono ?_); rintro e w' ⟨rfl, ⟨nd2, rfl⟩⟩)))
   go_ret2
   exact ⟨_, rfl, ⟨⟨A1, _, c1⟩, rfl, rfl, HC1.out, Kd.C_drewN (Kd.C_alloc HR1.out _) _⟩, pw_below_drewN (below_alloc (Below.refl _ _) _) _⟩
  ·have D20 := Aside0.mk (decide_eq_false h20)
   by_cases h12 : f1 = f2
   ·have D12 := Aside0.mk (decide_eq_true h12)
    have hM : mergedS ⟨f0, f1, f2⟩ = some f1 := by unfold mergedS; rw [if_neg h10, if_pos (.inr h12)]
    rw [hM]
    clear h10 h20 h12 hM
    go_enter Try.func36, Try.ntmps36
    go_wp2_with (first | (go_at_call 51; ((with_reducible refine (equal_calls A1 c1 f1 A2 c2 f2 true _ (Kd.C_drewN (Kd.C_alloc HR1.out _) _) HC1.out (Kd.C_drewN (Kd.C_alloc HR2.out _) _) HC2.out D12.out).mono ?_); rintro e w' ⟨rfl, ⟨nd3, rfl⟩⟩)) | (go_at_call 51; ((with_reducible refine (equal_calls A1 c1 f1 A0 c0 f0 false _ (Kd.C_alloc HR1.out _) HC1.out (Kd.C_alloc HR0.out _) HC0.out D10.out).mono ?_); rintro e w' ⟨rfl, ⟨nd, rfl⟩⟩)) | (go_at_call 51; ((with_reducible refine (equal_calls A2 c2 f2 A0 c0 f0 false _ (Kd.C_drewN (Kd.C_alloc HR2.out _) _) HC2.out (Kd.C_drewN (Kd.C_alloc HR0.out _) _) HC0.out D20.out).mono ?_); rintro e w' ⟨rfl, ⟨nd2, rfl⟩⟩)))
    go_ret2
    exact ⟨_, rfl, ⟨⟨A1, _, c1⟩, rfl, rfl, HC1.out, Kd.C_drewN (Kd.C_alloc HR1.out _) _⟩, pw_below_drewN (below_alloc (Below.refl _ _) _) _⟩
   ·have D12 := Aside0.mk (decide_eq_false h12)
    have hM : mergedS ⟨f0, f1, f2⟩ = none := by unfold mergedS; rw [if_neg h10, if_neg (by rintro (h | h); exact h20 h; exact h12 h)]
    rw [hM]
    clear h10 h20 h12 hM
    go_enter Try.func36, Try.ntmps36
    go_wp2_with (first | (go_at_call 51; ((with_reducible refine (equal_calls A1 c1 f1 A2 c2 f2 false _ (Kd.C_drewN (Kd.C_alloc HR1.out _) _) HC1.out (Kd.C_drewN (Kd.C_alloc HR2.out _) _) HC2.out D12.out).mono ?_); rintro e w' ⟨rfl, ⟨nd3, rfl⟩⟩)) | (go_at_call 51; ((with_reducible refine (equal_calls A1 c1 f1 A0 c0 f0 false _ (Kd.C_alloc HR1.out _) HC1.out (Kd.C_alloc HR0.out _) HC0.out D10.out).mono ?_); rintro e w' ⟨rfl, ⟨nd, rfl⟩⟩)) | (go_at_call 51; ((with_reducible refine (equal_calls A2 c2 f2 A0 c0 f0 false _ (Kd.C_drewN (Kd.C_alloc HR2.out _) _) HC2.out (Kd.C_drewN (Kd.C_alloc HR0.out _) _) HC0.out D20.out).mono ?_); rintro e w' ⟨rfl, ⟨nd2, rfl⟩⟩)))
    go_ret2
    exact ⟨_, rfl, SlAt.nil _, pw_below_drewN (below_alloc (Below.refl _ _) _) _⟩

end Go.Proofs.Ytdbgdkbpamekpaa.Q
