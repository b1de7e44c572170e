-- Written by a program of this session (mk.py) out of the translation; Lean checks it.
import Derived.Test.YtdbgdkbpamekpaaQ0
import Derived.Test.YtdbgdkbpamekpaaQ1
namespace Go.Proofs.Ytdbgdkbpamekpaa.Q
open Go.RowKit Go.Proofs.YtdbgdkbpamekpaaW.PrintWords Go.Proofs.YtdbgdkbpamekpaaW.PrintLast Go.Proofs.YtdbgdkbpamekpaaW.PrintMore
attribute [local go_sem] max2_int min2_int max_two min_two max_three min_three max_four min_four   -- for this text's walks alone
set_option linter.unusedVariables false
set_option linter.unusedSimpArgs false

/-! ### sequence_Kept: function 20 (by hand) -/
def keptA (p q : List Int) : List Int → List Int → List Int
 | [], out => out
 | x :: r, out => keptA p q r (if x ∈ p ∧ x ∈ q then out ++ [x] else out)
def keptN (b : List Int) : List Int → List Int → List Int
 | [], out => out
 | x :: r, out => keptN b r (if x ∈ b then out else out ++ [x])
def keptS (b p q : List Int) : List Int := keptA p q (onceS b) [] ++ sortI (keptN b (onceS (p ++ q)) [])
def sequence_Kept.f (b p q : List Int) : Option (List Int) := if b.length ≤ 1000000 ∧ p.length ≤ 1000000 ∧ q.length ≤ 1000000 then some (keptS b p q) else none
theorem onceL_len : ∀ (l out : List Int), (onceL l out).length ≤ out.length + l.length
 | [], out => by simp [onceL]
 | x :: r, out => by
  rw [onceL]
  have := onceL_len r (if x ∈ out then out else out ++ [x])
  split at this <;> simp at this ⊢ <;> split <;> simp_all <;> omega
theorem once_two (A0 : Option Addr) (c0 : Nat) (l1 l2 : List Int) (n : Nat) (hn : n = (l1 ++ l2).length) (r : List Int) (w : World) (hr0 : Kd.C (Kd.int .i64) w A0 n (l1 ++ l2)) (hc0 : n ≤ c0) (h : sequence_once.f (l1 ++ l2) = some r) :
  Calls Try.prog 25 #[.slice A0 n c0] w fun e w' => ∃ v0_ : Value, e = .returned (v0_) ∧ Kd.R (Kd.int .i64) 3 w' w.heap.size (fun _ => True) v0_ r ∧ Below w.heap.size w w' := by
 subst hn
 exact sequence_once.calls A0 c0 (l1 ++ l2) r w hr0 hc0 h
set_option maxHeartbeats 8000000 in
set_option maxRecDepth 100000 in
theorem sequence_Kept.calls (A0 : Option Addr) (c0 : Nat) (l0 : List Int) (A1 : Option Addr) (c1 : Nat) (l1 : List Int) (A2 : Option Addr) (c2 : Nat) (l2 : List Int) (r : List Int) (w : World) (hr0 : Kd.C (Kd.int .i64) w A0 l0.length l0) (hc0 : l0.length ≤ c0) (hr1 : Kd.C (Kd.int .i64) w A1 l1.length l1) (hc1 : l1.length ≤ c1) (hr2 : Kd.C (Kd.int .i64) w A2 l2.length l2) (hc2 : l2.length ≤ c2) (h : sequence_Kept.f l0 l1 l2 = some r) :
  Calls Try.prog 20 #[.slice A0 l0.length c0, .slice A1 l1.length c1, .slice A2 l2.length c2] w fun e w' => ∃ v0_ : Value, e = .returned (v0_) ∧ Kd.R (Kd.int .i64) 3 w' w.heap.size (fun _ => True) v0_ r ∧ Below w.heap.size w w' := by
 have HR0 := Aside0.mk hr0
 have HC0 := Aside0.mk hc0
 have HR1 := Aside0.mk hr1
 have HC1 := Aside0.mk hc1
 have HR2 := Aside0.mk hr2
 have HC2 := Aside0.mk hc2
 clear hr0 hc0 hr1 hc1 hr2 hc2
 unfold sequence_Kept.f at h
 have hsz : l0.length ≤ 1000000 ∧ l1.length ≤ 1000000 ∧ l2.length ≤ 1000000 := by
  by_cases c : l0.length ≤ 1000000 ∧ l1.length ≤ 1000000 ∧ l2.length ≤ 1000000
  ·exact c
  ·rw [if_neg c] at h
   cases h
 rw [if_pos hsz] at h
 have HF := Aside0.mk (Option.some.inj h)
 clear h
 obtain ⟨hs0, hs1, hs2⟩ := hsz
 have F0 := Aside0.mk (show sequence_once.f l0 = some (onceS l0) by rw [sequence_once.f, if_pos (by omega)])
 have L0 := Aside0.mk (onceL_len l0 [])
 obtain ⟨ob, hob⟩ : ∃ ob, ob = onceS l0 := ⟨_, rfl⟩
 have HOB := Aside0.mk hob
 rw [← hob] at F0
 have hobl : ob.length ≤ 1000000 := by have := L0.out; rw [hob, onceS]; simp at this; omega
 clear hob L0
 have F1 := Aside0.mk (show sequence_once.f (l1 ++ l2) = some (onceS (l1 ++ l2)) by rw [sequence_once.f, if_pos (by rw [List.length_append]; omega)])
 have L1 := Aside0.mk (onceL_len (l1 ++ l2) [])
 obtain ⟨oc, hoc⟩ : ∃ oc, oc = onceS (l1 ++ l2) := ⟨_, rfl⟩
 have HOC := Aside0.mk hoc
 rw [← hoc] at F1
 have hocl : oc.length ≤ 2000000 := by have := L1.out; rw [hoc, onceS]; simp at this; omega
 clear hoc L1
 go_enter Try.func20, Try.ntmps20
 go_wp2_with (first
  | (go_at_call 26; (with_reducible refine (sequence_members.calls A0 c0 l0 _ HR0.out).mono ?_); rintro e w1 ⟨rfl, hm1, hb1⟩; have HM1 := Aside0.mk hm1; have HB1 := Aside0.mk hb1; clear hm1 hb1)
  | (go_at_call 26; (with_reducible refine (sequence_members.calls A1 c1 l1 _ (Kd.C_below HR1.out HB1.out)).mono ?_); rintro e w2 ⟨rfl, hm2, hb2⟩; have HM1b := Aside0.mk (HM1.out.below hb2); have HM2 := Aside0.mk hm2; have HB2 := Aside0.mk (HB1.out.trans (hb2.mono HB1.out.size)); clear hm2 hb2 HM1)
  | (go_at_call 26; (with_reducible refine (sequence_members.calls A2 c2 l2 _ (Kd.C_below HR2.out HB2.out)).mono ?_); rintro e w3 ⟨rfl, hm3, hb3⟩; have HM1c := Aside0.mk (HM1b.out.below hb3); have HM2c := Aside0.mk (HM2.out.below hb3); have HM3 := Aside0.mk hm3; have HB3 := Aside0.mk (HB2.out.trans (hb3.mono HB2.out.size)); clear hm3 hb3 HM1b HM2)
  | (go_at_call 25; (with_reducible refine (sequence_once.calls A0 c0 l0 ob _ (Kd.C_below HR0.out HB3.out) HC0.out F0.out).mono ?_); rintro e w4 ⟨v24, rfl, ho4, hb4⟩; obtain ⟨Ao4, co4, rfl⟩ := Kd.R_slice ho4; have HO4 := Aside0.mk ho4; have HM1d := Aside0.mk (HM1c.out.below hb4); have HM2d := Aside0.mk (HM2c.out.below hb4); have HM3d := Aside0.mk (HM3.out.below hb4); have HB4 := Aside0.mk (HB3.out.trans (hb4.mono HB3.out.size)); clear ho4 hb4 HM1c HM2c HM3))
 obtain ⟨rA, hrA⟩ : ∃ rA, keptA l1 l2 ob [] = rA := ⟨_, rfl⟩
 have HRA := Aside0.mk hrA
 clear hrA
 go_loopg [10, 26] ob.length (fun gk v10 v26 w' => ∃ (k : Nat) (out : List Int), v26 = .int .i64 k ∧ k + gk = ob.length ∧ out.length ≤ k ∧ Aside0 (keptA l1 l2 (ob.drop k) out = rA) ∧ Aside0 (Kd.R (Kd.int .i64) 3 w' w4.heap.size (fun _ => True) v10 out) ∧ Aside0 (Below w4.heap.size w4 w'))
 case atStart =>
  refine ⟨0, [], rfl, by omega, by simp, ⟨?_⟩, ⟨?_⟩, ⟨?_⟩⟩
  ·exact HRA.out
  ·exact Kd.R_nil _ _ _ _ _
  ·exact Below.refl _ _
 case round =>
  obtain ⟨k, out, rfl, hk, hout, HL, HO, HB⟩ := hrel
  obtain ⟨go, rfl⟩ : ∃ go, go = gk := ⟨gk, rfl⟩
  have HK := Aside0.mk hk
  cases go with
  | succ g =>
   have h1 : decide ((k : Int) < (ob.length : Int)) = true := decide_eq_true (by omega)
   have h2 : decide (k < ob.length) = true := decide_eq_true (by omega)
   have p12 : 0 ≤ (k : Int) := by omega
   have q12 : (k : Int) < (ob.length : Int) := by omega
   obtain ⟨ad, e, hx⟩ := Kd.at_int (Kd.C_below (Kd.R_reads' HO4.out).2.2 HB.out) (k : Int) p12 q12
   cases e
   rw [Int.toNat_natCast] at hx
   have hk9 : k < ob.length := by omega
   have hd : ob.drop k = rd ob (k : Int) :: ob.drop (k + 1) := by
    rw [List.drop_eq_getElem_cons hk9]
    unfold rd
    simp [List.getD_eq_getElem?_getD, List.getElem?_eq_getElem hk9]
   obtain ⟨x, hxe⟩ : ∃ x, x = rd ob (k : Int) := ⟨_, rfl⟩
   rw [← hxe] at hx hd
   have HL2 := Aside0.mk (show keptA l1 l2 (ob.drop (k + 1)) (if x ∈ l1 ∧ x ∈ l2 then out ++ [x] else out) = rA by have := HL.out; rw [hd, keptA] at this; exact this)
   clear hd hxe HL hk
   have HG1 := Aside0.mk (setM_get l1 x)
   have HG2 := Aside0.mk (setM_get l2 x)
   by_cases hin1 : x ∈ l1
   ·rw [decide_eq_true hin1] at HG1
    by_cases hin2 : x ∈ l2
    ·rw [if_pos ⟨hin1, hin2⟩] at HL2
     rw [decide_eq_true hin2] at HG2
     clear hin1 hin2
     obtain ⟨Ao, co, eo⟩ := Kd.R_slice HO.out
     subst eo
     have hb44 : out.length < 17592186044416 := by omega
     go_wp2_with (first | (with_reducible refine wpList_lookup (z := .bool false) rfl (.tmp 30) _ rfl (KeyOk.int Try.underlying3) Try.underlying41 (by kernel_rfl) rfl (HM2d.out.below HB.out) x rfl ?_; rw [HG1.out]) | ((with_reducible refine gate_dst (N := 36) rfl ?_); refine gate_guard (by rfl) ?_; dsimp only; with_reducible refine wpList_lookup (z := .bool false) rfl (.tmp 34) _ rfl (KeyOk.int Try.underlying3) Try.underlying41 (by kernel_rfl) rfl (HM3d.out.below HB.out) x rfl ?_; rw [HG2.out]) | ((with_reducible refine gate_builtin (b := .append) (xs := #[.tmp 38, .tmp 40]) rfl ?_); at_builtin; refine Kd.R_append (Kd.int .i64) (w0 := w4) w4.heap.size rfl (.tmp 38) (.tmp 40) 22 3 (.int .i64 0) 8 rfl Try.underlying22 info3 rfl (by decide) (by omega) (.slice Ao out.length co) out x [.int .i64 x] (fun _ => True) (fun _ => False) rfl rfl ?aP (fun _ hk => hk.elim) ?aF ?aO ?aB ?aS ?aL ?_; (case aP => exact rfl); (case aF => exact (fun _ _ => trivial)); (case aO => exact (RX HO.out)); (case aB => exact (BX HB.out)); (case aS => exact (below_size (BX HB.out))); (case aL => omega); intro v9 w9 ho hb hg hat; have HO9 := Aside0.mk ho; have HB9 := Aside0.mk hb; clear ho hb hg hat))
     go_roundg g
     case measure => omega
     case rel => exact ⟨k + 1, out ++ [x], by go_num, by have := HK.out; omega, by simp; omega, HL2, HO9, HB9⟩
    ·rw [if_neg (fun c => hin2 c.2)] at HL2
     rw [decide_eq_false hin2] at HG2
     clear hin1 hin2
     go_wp2_with (first | (with_reducible refine wpList_lookup (z := .bool false) rfl (.tmp 30) _ rfl (KeyOk.int Try.underlying3) Try.underlying41 (by kernel_rfl) rfl (HM2d.out.below HB.out) x rfl ?_; rw [HG1.out]) | ((with_reducible refine gate_dst (N := 36) rfl ?_); refine gate_guard (by rfl) ?_; dsimp only; with_reducible refine wpList_lookup (z := .bool false) rfl (.tmp 34) _ rfl (KeyOk.int Try.underlying3) Try.underlying41 (by kernel_rfl) rfl (HM3d.out.below HB.out) x rfl ?_; rw [HG2.out]))
     go_roundg g
     case measure => omega
     case rel => exact ⟨k + 1, out, by go_num, by have := HK.out; omega, by omega, HL2, HO, HB⟩
   ·rw [if_neg (fun c => hin1 c.1)] at HL2
    rw [decide_eq_false hin1] at HG1
    clear hin1
    go_wp2_with (first | (with_reducible refine wpList_lookup (z := .bool false) rfl (.tmp 30) _ rfl (KeyOk.int Try.underlying3) Try.underlying41 (by kernel_rfl) rfl (HM2d.out.below HB.out) x rfl ?_; rw [HG1.out]))
    go_roundg g
    case measure => omega
    case rel => exact ⟨k + 1, out, by go_num, by have := HK.out; omega, by omega, HL2, HO, HB⟩
  | zero =>
   have h1 : decide ((k : Int) < (ob.length : Int)) = false := decide_eq_false (by omega)
   have h2 : decide (k < ob.length) = false := decide_eq_false (by omega)
   have HL2 := Aside0.mk (show out = rA by have := HL.out; rw [List.drop_of_length_le (by omega), keptA] at this; exact this)
   clear hk HL
   obtain ⟨w5, rfl⟩ : ∃ w5 : World, w5 = wr := ⟨_, rfl⟩
   have HO5 := Aside0.mk (show Kd.R (Kd.int .i64) 3 w5 w4.heap.size (fun _ => True) _ rA from HL2.out ▸ HO.out)
   have HR1e := Aside0.mk (Kd.C_below HR1.out (HB4.out.trans (HB.out.mono HB4.out.size)))
   have HR2e := Aside0.mk (Kd.C_below HR2.out (HB4.out.trans (HB.out.mono HB4.out.size)))
   go_wp2_with (first
    | ((with_reducible refine gate_dst (N := 48) rfl ?_); refine Kd.R_make (Kd.int .i64) (w0 := w5) w5.heap.size 3 rfl (N := 48) rfl 22 _ _ rfl ((l1.length : Int) + (l2.length : Int)) rfl rfl Try.underlying22 (.int .i64 0) 8 info3 rfl (by decide) (by omega) 0 (ok := fun _ => True) (okp := fun _ => True) rfl (fun _ hk => hk) trivial (by omega) (by omega) (Below.refl _ _) (Nat.le_refl _) ?_; intro v48 w6 ho6 hb6 hg6 hn6; (have hown6 := Kd.own_of_R ho6); (rcases hown6.2 with ⟨hv6, _⟩ | ⟨g6, cap6, cur6, hv6, _, _, _, _, _, _⟩; (exact absurd hn6 (by rw [hv6]; simp [Value.ownBlock]))); (obtain ⟨A6, hA6⟩ : ∃ A6 : Option Addr, A6 = some ⟨g6, 0, none⟩ := ⟨_, rfl⟩); have HA6 := Aside0.mk hA6; rw [← hA6] at hv6; clear hA6; subst hv6; simp only [show ((l1.length : Int) + (l2.length : Int)).toNat = l1.length + l2.length from by omega, List.length_replicate] at ho6; have HO6 := Aside0.mk ho6; have hcap6 := (Kd.R_reads' ho6).2.1; have HB6 := Aside0.mk hb6; have HR1f := Aside0.mk (Kd.C_below HR1e.out hb6); have HR2f := Aside0.mk (Kd.C_below HR2e.out hb6); clear hown6 hn6 hg6 ho6 hb6)
    | ((with_reducible refine gate_builtin (b := .copy) (xs := #[.tmp 49, .tmp 50]) rfl ?_); refine Kd.R_copy (h1 := fun _ => rfl) 0 (w0 := w5) w5.heap.size rfl (.tmp 49) (.tmp 50) 22 22 3 rfl Try.underlying22 (by kernel_rfl) (.slice A6 (l1.length + l2.length) cap6) (List.replicate (l1.length + l2.length) (0 : Int)) l1 A1 l1.length c1 (fun _ => True) rfl rfl HO6.out HR1f.out HB6.out HB6.out.size ?_; intro w7 ho7 hb7 hg7; have HO7 := Aside0.mk ho7; have HB7 := Aside0.mk hb7; have HR2g := Aside0.mk (Kd.C_below HR2e.out hb7); clear ho7 hb7 hg7; obtain ⟨A55, hA55, hrun55⟩ := cut_run (P := Try.prog) 22 3 .i64 Try.underlying22 (by kernel_rfl) A6 (l1.length + l2.length) cap6 l1.length (by omega); have HA55 := Aside0.mk hA55; clear hA55; rw [Nat.add_sub_cancel_left] at hrun55)
    | ((with_reducible refine gate_builtin (b := .copy) (xs := #[.tmp 55, .tmp 56]) rfl ?_); refine R_copy_tail' (h1 := fun _ => rfl) 0 (w0 := w5) w5.heap.size rfl (.tmp 55) (.tmp 56) 22 22 3 rfl Try.underlying22 (by kernel_rfl) g6 l1.length (l1.length + l2.length) cap6 _ l2 A6 A2 l2.length c2 (cap6 - l1.length) (fun _ => True) HA6.out (congrArg (fun z => Value.slice z l2.length (cap6 - l1.length)) HA55.out) rfl HO7.out HR2g.out HB7.out HB7.out.size (by simp) ?_; intro w8 ho8 hb8 hg8; have e8 := (show ((List.take (min l1.length (List.replicate (l1.length + l2.length) (0:Int)).length) l1 ++ List.drop (min l1.length (List.replicate (l1.length + l2.length) (0:Int)).length) (List.replicate (l1.length + l2.length) (0:Int))).take l1.length ++ l2) = l1 ++ l2 from by simp); rw [e8] at ho8; have HO8 := Aside0.mk ho8; have HB8 := Aside0.mk hb8; have HC8 : Aside0 (Kd.C (Kd.int .i64) w8 A6 (l1.length + l2.length) (l1 ++ l2)) := ⟨by have h8 := (Kd.R_reads' ho8); exact h8.1 ▸ h8.2.2⟩; clear ho8 hb8 hg8 e8)
    | (go_at_call 25; ((with_reducible refine (once_two A6 cap6 l1 l2 (l1.length + l2.length) (by simp) oc _ HC8.out hcap6 F1.out).mono ?_); rintro e w10 ⟨v59, rfl, ho10, hb10⟩; obtain ⟨Ao10, co10, rfl⟩ := Kd.R_slice ho10; have HO10 := Aside0.mk ho10; have HX8 := Aside0.mk (HB8.out.trans (hb10.mono HB8.out.size)); clear ho10 hb10)))
   have HO5x := Aside0.mk (Kd.R_below HO5.out HX8.out)
   have HM1x := Aside0.mk ((HM1d.out.below (HB.out)).below HX8.out)
   obtain ⟨rN, hrN⟩ : ∃ rN, keptN l0 oc [] = rN := ⟨_, rfl⟩
   have HRN := Aside0.mk hrN
   clear hrN
   clear h1 h2
   go_loopg [11, 61] oc.length (fun gk v11 v61 w' => ∃ (k : Nat) (out : List Int), v61 = .int .i64 k ∧ k + gk = oc.length ∧ out.length ≤ k ∧ Aside0 (keptN l0 (oc.drop k) out = rN) ∧ Aside0 (Kd.R (Kd.int .i64) 3 w' w10.heap.size (fun _ => True) v11 out) ∧ Aside0 (Below w10.heap.size w10 w'))
   case atStart =>
    refine ⟨0, [], rfl, by omega, by simp, ⟨?_⟩, ⟨?_⟩, ⟨?_⟩⟩
    ·exact HRN.out
    ·exact Kd.R_nil _ _ _ _ _
    ·exact Below.refl _ _
   case round =>
    obtain ⟨k2, out2, rfl, hk2, hout2, HL3, HO3, HB3'⟩ := hrel
    obtain ⟨go2, rfl⟩ : ∃ go, go = gk := ⟨gk, rfl⟩
    have HK2 := Aside0.mk hk2
    cases go2 with
    | succ g =>
     have h1 : decide ((k2 : Int) < (oc.length : Int)) = true := decide_eq_true (by omega)
     have h2 : decide (k2 < oc.length) = true := decide_eq_true (by omega)
     have p12 : 0 ≤ (k2 : Int) := by omega
     have q12 : (k2 : Int) < (oc.length : Int) := by omega
     obtain ⟨ad, e, hx⟩ := Kd.at_int (Kd.C_below (Kd.R_reads' HO10.out).2.2 HB3'.out) (k2 : Int) p12 q12
     cases e
     rw [Int.toNat_natCast] at hx
     have hk9 : k2 < oc.length := by omega
     have hd : oc.drop k2 = rd oc (k2 : Int) :: oc.drop (k2 + 1) := by
      rw [List.drop_eq_getElem_cons hk9]
      unfold rd
      simp [List.getD_eq_getElem?_getD, List.getElem?_eq_getElem hk9]
     obtain ⟨x, hxe⟩ : ∃ x, x = rd oc (k2 : Int) := ⟨_, rfl⟩
     rw [← hxe] at hx hd
     have HL4 := Aside0.mk (show keptN l0 (oc.drop (k2 + 1)) (if x ∈ l0 then out2 else out2 ++ [x]) = rN by have := HL3.out; rw [hd, keptN] at this; exact this)
     clear hd hxe HL3 hk2
     have HG1 := Aside0.mk (setM_get l0 x)
     by_cases hin1 : x ∈ l0
     ·rw [if_pos hin1] at HL4
      rw [decide_eq_true hin1] at HG1
      clear hin1
      go_wp2_with (first | (with_reducible refine wpList_lookup (z := .bool false) rfl (.tmp 65) _ rfl (KeyOk.int Try.underlying3) Try.underlying41 (by kernel_rfl) rfl (HM1x.out.below HB3'.out) x rfl ?_; rw [HG1.out]))
      go_roundg g
      case measure => omega
      case rel => exact ⟨k2 + 1, out2, by go_num, by have := HK2.out; omega, by omega, HL4, HO3, HB3'⟩
     ·rw [if_neg hin1] at HL4
      rw [decide_eq_false hin1] at HG1
      clear hin1
      obtain ⟨Ao, co, eo⟩ := Kd.R_slice HO3.out
      subst eo
      have hb44 : out2.length < 17592186044416 := by omega
      go_wp2_with (first | (with_reducible refine wpList_lookup (z := .bool false) rfl (.tmp 65) _ rfl (KeyOk.int Try.underlying3) Try.underlying41 (by kernel_rfl) rfl (HM1x.out.below HB3'.out) x rfl ?_; rw [HG1.out]) | ((with_reducible refine gate_builtin (b := .append) (xs := #[.tmp 69, .tmp 71]) rfl ?_); at_builtin; refine Kd.R_append (Kd.int .i64) (w0 := w10) w10.heap.size rfl (.tmp 69) (.tmp 71) 22 3 (.int .i64 0) 8 rfl Try.underlying22 info3 rfl (by decide) (by omega) (.slice Ao out2.length co) out2 x [.int .i64 x] (fun _ => True) (fun _ => False) rfl rfl ?aP (fun _ hk => hk.elim) ?aF ?aO ?aB ?aS ?aL ?_; (case aP => exact rfl); (case aF => exact (fun _ _ => trivial)); (case aO => exact (RX HO3.out)); (case aB => exact (by repeat (first | (with_reducible first | exact HB3'.out | apply below_alloc | apply pw_below_drewN | apply below_drew1) | exact HB3'.out))); (case aS => exact (below_size (by repeat (first | (with_reducible first | exact HB3'.out | apply below_alloc | apply pw_below_drewN | apply below_drew1) | exact HB3'.out)))); (case aL => omega); intro v9 w9 ho hb hg hat; have HO9 := Aside0.mk ho; have HB9 := Aside0.mk hb; clear ho hb hg hat))
      go_roundg g
      case measure => omega
      case rel => exact ⟨k2 + 1, out2 ++ [x], by go_num, by have := HK2.out; omega, by simp; omega, HL4, HO9, HB9⟩
    | zero =>
     have h1 : decide ((k2 : Int) < (oc.length : Int)) = false := decide_eq_false (by omega)
     have h2 : decide (k2 < oc.length) = false := decide_eq_false (by omega)
     have HL4 := Aside0.mk (show out2 = rN by have := HL3.out; rw [List.drop_of_length_le (by omega), keptN] at this; exact this)
     clear hk2 HL3
     have HO3' := Aside0.mk (show Kd.R (Kd.int .i64) 3 _ w10.heap.size (fun _ => True) _ rN from HL4.out ▸ HO3.out)
     have hrl : rN.length ≤ 2000000 := by rw [← HL4.out]; have := HK2.out; omega
     have hral : rA.length ≤ 1000000 := by have h := HL2.out; rw [← h]; have := HK.out; omega
     obtain ⟨Am, cm, em⟩ := Kd.R_slice HO3'.out
     subst em
     have HE := Aside0.mk (show rA ++ sortI rN = r by rw [← HRA.out, ← HRN.out, HOB.out, HOC.out]; exact HF.out)
     go_wp2_with (first
      | (go_at_call 31; ((with_reducible refine (sort_ints_own w10.heap.size (fun _ => True) _ rN _ HO3'.out (by omega)).mono ?_); rintro e w11 ⟨rfl, hso, hsg⟩; have HB11 := Aside0.mk (HB3'.out.grown hsg HB3'.out.size (fun j hj => Kd.R_base HO3'.out j hj)); have HO11 := Aside0.mk (Kd.R_below HO5x.out HB11.out); have HC11 : Aside0 (Kd.C (Kd.int .i64) w11 Am rN.length (sortI rN)) := ⟨by have h8 := (Kd.R_reads' hso); exact h8.1 ▸ h8.2.2⟩; have HX11 := Aside0.mk (HB.out.trans ((HX8.out.trans (HB11.out.mono HX8.out.size)).mono HB.out.size)); clear hso hsg))
      | ((with_reducible refine gate_builtin (b := .append) (xs := #[.tmp 76, .tmp 77]) rfl ?_); at_builtin; (refine Kd.R_append_row (Value.int .i64) 0 (h1 := fun _ => rfl) (w0 := w4) w4.heap.size rfl (.tmp 76) (.tmp 77) 22 3 (.int .i64 0) 8 rfl Try.underlying22 info3 rfl (by omega) _ rA (sortI rN) Am rN.length cm (fun _ => True) rfl rfl (fun _ _ => trivial) HO11.out HC11.out HX11.out HX11.out.size (by omega) ?_; intro v78 w12 ho12 hb12 hg12 hat12; have HO12 := Aside0.mk ho12; have HB12 := Aside0.mk hb12; clear ho12 hb12 hg12 hat12)))
     go_ret
     refine ⟨_, rfl, Kd.R_lower (HE.out ▸ HO12.out) HB4.out.size, HB4.out.trans (HB12.out.mono HB4.out.size)⟩

/-! ### sequence_keeps: function 48 (by hand) -/
/-- The elements that are in another list. -/
def keepL (kept : List Int) : List Int → List Int → List Int
 | [], out => out
 | x :: r, out => keepL kept r (if x ∈ kept then out ++ [x] else out)
set_option maxHeartbeats 2000000 in
theorem sequence_keeps.calls (A0 : Option Addr) (c0 : Nat) (l0 : List Int) (b : Nat) (kept : List Int) (w : World) (hr0 : Kd.C (Kd.int .i64) w A0 l0.length l0) (hM : MapAt intE w b (setM kept)) (hlen : l0.length < 17592186044416) :
  Calls Try.prog 48 #[.slice A0 l0.length c0, .map (some b)] w fun e w' => ∃ v0_ : Value, e = .returned (v0_) ∧ Kd.R (Kd.int .i64) 3 w' w.heap.size (fun _ => True) v0_ (keepL kept l0 []) ∧ Below w.heap.size w w' := by
 have HR0 := Aside0.mk hr0
 have HM := Aside0.mk hM
 clear hr0 hM
 obtain ⟨r, hr⟩ : ∃ r, keepL kept l0 [] = r := ⟨_, rfl⟩
 rw [hr]
 have HF := Aside0.mk hr
 clear hr
 go_enter Try.func48, Try.ntmps48
 go_wp2
 go_loopg [5, 10] l0.length (fun gk v5 v10 w' => ∃ (k : Nat) (out : List Int), v10 = .int .i64 k ∧ k + gk = l0.length ∧ out.length ≤ k ∧ Aside0 (keepL kept (l0.drop k) out = r) ∧ Aside0 (Kd.R (Kd.int .i64) 3 w' w.heap.size (fun _ => True) v5 out) ∧ Aside0 (Below w.heap.size w w'))
 case atStart =>
  refine ⟨0, [], rfl, by omega, by simp, ⟨?_⟩, ⟨?_⟩, ⟨?_⟩⟩
  ·exact HF.out
  ·exact Kd.R_nil _ _ _ _ _
  ·exact Below.refl _ _
 case round =>
  obtain ⟨k, out, rfl, hk, hout, HL, HO, HB⟩ := hrel
  obtain ⟨go, rfl⟩ : ∃ go, go = gk := ⟨gk, rfl⟩
  have HK := Aside0.mk hk
  cases go with
  | succ g =>
   have h1 : decide ((k : Int) < (l0.length : Int)) = true := decide_eq_true (by omega)
   have h2 : decide (k < l0.length) = true := decide_eq_true (by omega)
   have p12 : 0 ≤ (k : Int) := by omega
   have q12 : (k : Int) < (l0.length : Int) := by omega
   obtain ⟨ad, e, hx⟩ := Kd.at_int (Kd.C_below HR0.out HB.out) (k : Int) p12 q12
   cases e
   rw [Int.toNat_natCast] at hx
   have hk9 : k < l0.length := by omega
   have hd : l0.drop k = rd l0 (k : Int) :: l0.drop (k + 1) := by
    rw [List.drop_eq_getElem_cons hk9]
    unfold rd
    simp [List.getD_eq_getElem?_getD, List.getElem?_eq_getElem hk9]
   obtain ⟨x, hxe⟩ : ∃ x, x = rd l0 (k : Int) := ⟨_, rfl⟩
   rw [← hxe] at hx hd
   have HL2 := Aside0.mk (show keepL kept (l0.drop (k + 1)) (if x ∈ kept then out ++ [x] else out) = r by have := HL.out; rw [hd, keepL] at this; exact this)
   clear hd hxe HL hk
   have HG := Aside0.mk (setM_get kept x)
   by_cases hin : x ∈ kept
   ·rw [if_pos hin] at HL2
    rw [decide_eq_true hin] at HG
    clear hin
    obtain ⟨Ao, co, eo⟩ := Kd.R_slice HO.out
    subst eo
    have hb44 : out.length < 17592186044416 := by omega
    go_wp2_with (first | (with_reducible refine wpList_lookup (z := .bool false) rfl _ _ rfl (KeyOk.int Try.underlying3) Try.underlying41 (by kernel_rfl) rfl (HM.out.below HB.out) x rfl ?_; rw [HG.out]) | ((with_reducible refine gate_builtin (b := .append) (xs := #[.tmp 17, .tmp 19]) rfl ?_); at_builtin; refine Kd.R_append (Kd.int .i64) (w0 := w) w.heap.size rfl (.tmp 17) (.tmp 19) 22 3 (.int .i64 0) 8 rfl Try.underlying22 info3 rfl (by decide) (by omega) (.slice Ao out.length co) out x [.int .i64 x] (fun _ => True) (fun _ => False) rfl rfl ?aP (fun _ hk => hk.elim) ?aF ?aO ?aB ?aS ?aL ?_; (case aP => exact rfl); (case aF => exact (fun _ _ => trivial)); (case aO => exact (RX HO.out)); (case aB => exact (BX HB.out)); (case aS => exact (below_size (BX HB.out))); (case aL => omega); intro v9 w9 ho hb hg hat; have HO9 := Aside0.mk ho; have HB9 := Aside0.mk hb; clear ho hb hg hat))
    go_roundg g
    case measure => omega
    case rel => exact ⟨k + 1, out ++ [x], by go_num, by have := HK.out; omega, by simp; omega, HL2, HO9, HB9⟩
   ·rw [if_neg hin] at HL2
    rw [decide_eq_false hin] at HG
    clear hin
    go_wp2_with (with_reducible refine wpList_lookup (z := .bool false) rfl _ _ rfl (KeyOk.int Try.underlying3) Try.underlying41 (by kernel_rfl) rfl (HM.out.below HB.out) x rfl ?_; rw [HG.out])
    go_roundg g
    case measure => omega
    case rel => exact ⟨k + 1, out, by go_num, by have := HK.out; omega, by omega, HL2, HO, HB⟩
  | zero =>
   have h1 : decide ((k : Int) < (l0.length : Int)) = false := decide_eq_false (by omega)
   have h2 : decide (k < l0.length) = false := decide_eq_false (by omega)
   have HL2 := Aside0.mk (show out = r by have := HL.out; rw [List.drop_of_length_le (by omega), keepL] at this; exact this)
   clear hk HL
   go_wp2
   go_ret
   exact ⟨_, rfl, HL2.out ▸ HO.out, HB.out⟩

/-! ### lcs_partner_int: function 101 -/
mutual
def lcs_partner_int.l0 : Nat → List Int → List Int → List (List Int) → Int → Int → Int → Option (Int)
 | 0, _, _, _, _, _, _ => none
 | k + 1, x0, x1, x2, x3, x4, x11 => if x11 < (x1.length : Int) then (if 0 ≤ x3 then (if x3 < (x2.length : Int) then (if 0 ≤ x11 then (if x11 < ((rd_LI x2 x3).length : Int) then (if 0 ≤ x4 then (if x4 < ((rd_LI x2 x3).length : Int) then (lcs_partner_int.j1 k x0 x1 x2 x3 x4 x11 ((rd (rd_LI x2 x3) x11) == (rd (rd_LI x2 x3) x4))) else (none)) else (none)) else (none)) else (none)) else (none)) else (none)) else (lcs_partner_int.j1 k x0 x1 x2 x3 x4 x11 false)
def lcs_partner_int.j1 : Nat → List Int → List Int → List (List Int) → Int → Int → Int → Bool → Option (Int)
 | 0, _, _, _, _, _, _, _ => none
 | k + 1, x0, x1, x2, x3, x4, x11, x33 => if x33 = true then (if 0 ≤ x3 then (if x3 < (x0.length : Int) then (if 0 ≤ x11 then (if x11 < (x1.length : Int) then (if (rd x0 x3) = (rd x1 x11) then (if 0 ≤ (wrap64 (x3 + 1)) then (if (wrap64 (x3 + 1)) < (x2.length : Int) then (if 0 ≤ (wrap64 (x11 + 1)) then (if (wrap64 (x11 + 1)) < ((rd_LI x2 (wrap64 (x3 + 1))).length : Int) then (if x3 < (x2.length : Int) then (if 0 ≤ x4 then (if x4 < ((rd_LI x2 x3).length : Int) then (if (wrap64 ((rd (rd_LI x2 (wrap64 (x3 + 1))) (wrap64 (x11 + 1))) + 1)) = (rd (rd_LI x2 x3) x4) then (some x11) else (lcs_partner_int.l0 k x0 x1 x2 x3 x4 (wrap64 (x11 + 1)))) else (none)) else (none)) else (none)) else (none)) else (none)) else (none)) else (none)) else (lcs_partner_int.l0 k x0 x1 x2 x3 x4 (wrap64 (x11 + 1)))) else (none)) else (none)) else (none)) else (none)) else (some (-1))
end
def lcs_partner_int.f (k : Nat) (l0 : List Int) (l1 : List Int) (l2 : List (List Int)) (a3 : Int) (a4 : Int) : Option (Int) := lcs_partner_int.l0 k l0 l1 l2 a3 a4 a4
theorem lcs_partner_int.mono_l : ∀ k, (∀ y0 y1 y2 y3 y4 y5, LeO (lcs_partner_int.l0 k y0 y1 y2 y3 y4 y5) (lcs_partner_int.l0 (k + 1) y0 y1 y2 y3 y4 y5)) ∧ (∀ y0 y1 y2 y3 y4 y5 y6, LeO (lcs_partner_int.j1 k y0 y1 y2 y3 y4 y5 y6) (lcs_partner_int.j1 (k + 1) y0 y1 y2 y3 y4 y5 y6))
 | 0 => ⟨fun _ _ _ _ _ _ r h => by simp [lcs_partner_int.l0] at h, fun _ _ _ _ _ _ _ r h => by simp [lcs_partner_int.j1] at h⟩
 | k + 1 => by
  obtain ⟨ih0, ih1⟩ := lcs_partner_int.mono_l k
  refine ⟨?_, ?_⟩
  ·intro y0 y1 y2 y3 y4 y5
   unfold lcs_partner_int.l0
   repeat' first
   | (with_reducible exact ih0 _ _ _ _ _ _)
   | (with_reducible exact ih1 _ _ _ _ _ _ _)
   | (with_reducible exact LeO.refl _)
   | (with_reducible exact LeO.none _)
   | (with_reducible refine LeO.ite ?_ ?_)
   | (with_reducible refine LeO.bind ?_ (fun _ => ?_))
  ·intro y0 y1 y2 y3 y4 y5 y6
   unfold lcs_partner_int.j1
   repeat' first
   | (with_reducible exact ih0 _ _ _ _ _ _)
   | (with_reducible exact ih1 _ _ _ _ _ _ _)
   | (with_reducible exact LeO.refl _)
   | (with_reducible exact LeO.none _)
   | (with_reducible refine LeO.ite ?_ ?_)
   | (with_reducible refine LeO.bind ?_ (fun _ => ?_))
theorem lcs_partner_int.mono : ∀ a0 a1 a2 a3 a4 k, LeO (lcs_partner_int.f k a0 a1 a2 a3 a4) (lcs_partner_int.f (k + 1) a0 a1 a2 a3 a4) := by
 intro a0 a1 a2 a3 a4 k
 obtain ⟨ih0, ih1⟩ := lcs_partner_int.mono_l k
 unfold lcs_partner_int.f
 repeat' first
   | (with_reducible exact ih0 _ _ _ _ _ _)
   | (with_reducible exact ih1 _ _ _ _ _ _ _)
   | (with_reducible exact LeO.refl _)
   | (with_reducible exact LeO.none _)
   | (with_reducible refine LeO.ite ?_ ?_)
   | (with_reducible refine LeO.bind ?_ (fun _ => ?_))
set_option maxHeartbeats 8000000 in
set_option maxRecDepth 100000 in
theorem lcs_partner_int.calls (k : Nat) (A0 : Option Addr) (c0 : Nat) (l0 : List Int) (A1 : Option Addr) (c1 : Nat) (l1 : List Int) (A2 : Option Addr) (c2 : Nat) (l2 : List (List Int)) (a3 : Int) (a4 : Int) (r : Int) (w : World) (hr0 : Kd.C (Kd.int .i64) w A0 l0.length l0) (hc0 : l0.length ≤ c0) (hr1 : Kd.C (Kd.int .i64) w A1 l1.length l1) (hc1 : l1.length ≤ c1) (hr2 : Kd.C (Kd.slice 3 (Kd.int .i64)) w A2 l2.length l2) (hc2 : l2.length ≤ c2) (h : lcs_partner_int.f k l0 l1 l2 a3 a4 = some r) :
  Calls Try.prog 101 #[.slice A0 l0.length c0, .slice A1 l1.length c1, .slice A2 l2.length c2, .int .i64 a3, .int .i64 a4] w fun e w' => e = .returned (.int .i64 r) ∧ Drawn0 w w' := by
 have HR0 := Aside0.mk hr0
 have HC0 := Aside0.mk hc0
 clear hr0 hc0
 have HR1 := Aside0.mk hr1
 have HC1 := Aside0.mk hc1
 clear hr1 hc1
 have HR2 := Aside0.mk hr2
 have HC2 := Aside0.mk hc2
 clear hr2 hc2
 have H : (lcs_partner_int.l0 k l0 l1 l2 a3 a4 a4) = some r := h
 clear h
 have H' := Aside0.mk H
 clear H
 go_enter Try.func101, Try.ntmps101
 go_wp2
 repeat (go_quiet (fail); try go_wp2)
 go_loopg [11] k (fun kq v11 w' => ∃ (x11_1 : Int), v11 = .int .i64 x11_1 ∧ Aside0 (lcs_partner_int.l0 kq l0 l1 l2 a3 a4 x11_1 = some r) ∧ Aside0 (kq ≤ k) ∧ Drawn0 w w')
 case atStart => exact ⟨(a4), SX, H', ⟨Nat.le_refl _⟩, by repeat (first | exact Drawn0.refl _ | apply Drawn0.step)⟩
 case round =>
  clear H'
  try clear c1
  try clear c2
  try clear p2
  obtain ⟨x11_1, rfl, HA, HK1, ⟨m1, rfl⟩⟩ := hrel
  cases gk with
  | zero => exact absurd HA.out (by simp [lcs_partner_int.l0])
  | succ k1 =>
   have H := HA.out
   clear HA
   simp only [lcs_partner_int.l0] at H
   have HC6 := Aside0.mk H
   clear H
   go_upto_region 2 with (fail)
   repeat (go_quiet (fail); go_upto_region 2 with (fail))
   go_cut [33] (fun v33 wc => ∃ (kq : Nat) (x33_5 : Bool), v33 = .bool x33_5 ∧ Aside0 (lcs_partner_int.j1 kq l0 l1 l2 a3 a4 x11_1 x33_5 = some r) ∧ Aside0 (kq ≤ k1) ∧ Drawn0 w wc)
   case first =>
    have H := HC6.out
    clear HC6
    by_cases c7 : x11_1 < (l1.length : Int)
    ·rw [if_pos c7] at H
     have c7b0 : decide (x11_1 < (l1.length : Int)) = true := decide_eq_true c7
     clear c7
     (first | rw [c7b0] | (simp only [i64_w, i32_w]; rw [c7b0]) | skip)
     by_cases c8 : 0 ≤ a3
     ·rw [if_pos c8] at H
      have c8b0 : decide (0 ≤ a3) = true := decide_eq_true c8
      clear c8
      by_cases c9 : a3 < (l2.length : Int)
      ·rw [if_pos c9] at H
       have c9b0 : decide (a3 < (l2.length : Int)) = true := decide_eq_true c9
       clear c9
       by_cases c10 : 0 ≤ x11_1
       ·rw [if_pos c10] at H
        have c10b0 : decide (0 ≤ x11_1) = true := decide_eq_true c10
        clear c10
        by_cases c11 : x11_1 < ((rd_LI l2 a3).length : Int)
        ·rw [if_pos c11] at H
         have c11b0 : decide (x11_1 < ((rd_LI l2 a3).length : Int)) = true := decide_eq_true c11
         clear c11
         by_cases c12 : 0 ≤ a4
         ·rw [if_pos c12] at H
          have c12b0 : decide (0 ≤ a4) = true := decide_eq_true c12
          clear c12
          by_cases c13 : a4 < ((rd_LI l2 a3).length : Int)
          ·rw [if_pos c13] at H
           have c13b0 : decide (a4 < ((rd_LI l2 a3).length : Int)) = true := decide_eq_true c13
           clear c13
           have H' := Aside0.mk H
           clear H
           have p102 : 0 ≤ (a3 : Int) := of_decide_eq_true AX
           have q102 : a3 < (l2.length : Int) := of_decide_eq_true AX
           obtain ⟨ad102, A102_0, c102_0, e102, hx102_0, hl102_0, hi102_0⟩ := at_LI HR2.out a3 p102 q102
           cases e102
           have HR102_0 := Aside0.mk hi102_0
           have HC102_0 := Aside0.mk hl102_0
           clear hi102_0 hl102_0
           replace p102 := eq_true p102
           replace q102 := eq_true q102
           have p103 : 0 ≤ (x11_1 : Int) := of_decide_eq_true AX
           have q103 : x11_1 < ((rd_LI l2 a3).length : Int) := of_decide_eq_true AX
           obtain ⟨ad103, e103, hx103_0⟩ := Kd.at_int HR102_0.out x11_1 p103 q103
           cases e103
           replace p103 := eq_true p103
           replace q103 := eq_true q103
           have p104 : 0 ≤ (a3 : Int) := of_decide_eq_true AX
           have q104 : a3 < (l2.length : Int) := of_decide_eq_true AX
           obtain ⟨ad104, A104_0, c104_0, e104, hx104_0, hl104_0, hi104_0⟩ := at_LI HR2.out a3 p104 q104
           obtain rfl : ad102 = ad104 := (by injection e104)
           have HR104_0 := Aside0.mk hi104_0
           have HC104_0 := Aside0.mk hl104_0
           clear hi104_0 hl104_0
           replace p104 := eq_true p104
           replace q104 := eq_true q104
           have ea_ := Option.some.inj (hx102_0.symm.trans hx104_0)
           injection ea_ with ea_ en_ ec_
           subst ea_
           subst ec_
           clear en_
           have p105 : 0 ≤ (a4 : Int) := of_decide_eq_true AX
           have q105 : a4 < ((rd_LI l2 a3).length : Int) := of_decide_eq_true AX
           obtain ⟨ad105, e105, hx105_0⟩ := Kd.at_int HR104_0.out a4 p105 q105
           cases e105
           replace p105 := eq_true p105
           replace q105 := eq_true q105
           go_wp2
           repeat (go_quiet (fail); try go_wp2)
           go_meet
           case rel => exact ⟨_, (((rd (rd_LI l2 a3) x11_1) == (rd (rd_LI l2 a3) a4))), SX, H', ⟨by have := HK1.out; first | omega | exact Nat.le_refl _⟩, by repeat (first | exact Drawn0.refl _ | apply Drawn0.step)⟩
          ·rw [if_neg c13] at H
           exact absurd H (by simp)
         ·rw [if_neg c12] at H
          exact absurd H (by simp)
        ·rw [if_neg c11] at H
         exact absurd H (by simp)
       ·rw [if_neg c10] at H
        exact absurd H (by simp)
      ·rw [if_neg c9] at H
       exact absurd H (by simp)
     ·rw [if_neg c8] at H
      exact absurd H (by simp)
    ·rw [if_neg c7] at H
     have c7b0 : decide (x11_1 < (l1.length : Int)) = false := decide_eq_false c7
     clear c7
     (first | rw [c7b0] | (simp only [i64_w, i32_w]; rw [c7b0]) | skip)
     have H' := Aside0.mk H
     clear H
     go_wp2
     repeat (go_quiet (fail); try go_wp2)
     go_meet
     case rel => exact ⟨_, (false), SX, H', ⟨by have := HK1.out; first | omega | exact Nat.le_refl _⟩, by repeat (first | exact Drawn0.refl _ | apply Drawn0.step)⟩
   case rest =>
    clear HC6
    try clear c1
    try clear p1
    try clear q1
    try clear hx1
    try clear c2
    try clear p2
    try clear c7
    try clear c7b0
    try clear c8
    try clear c8b0
    try clear c9
    try clear c9b0
    try clear c10
    try clear c10b0
    try clear p10
    try clear q10
    try clear hx10
    try clear c11
    try clear c11b0
    try clear c12
    try clear c12b0
    try clear c13
    try clear c13b0
    try clear hx102_0
    try clear hx103_0
    try clear hx104_0
    try clear hx105_0
    try clear p102
    try clear p103
    try clear p104
    try clear p105
    try clear p2
    try clear q102
    try clear q103
    try clear q104
    try clear q105
    obtain ⟨kq, x33_5, rfl, HA, HJ5, ⟨mc5, rfl⟩⟩ := hcut
    cases kq with
    | zero => exact absurd HA.out (by simp [lcs_partner_int.j1])
    | succ kj5 =>
     have H := HA.out
     clear HA
     simp only [lcs_partner_int.j1] at H
     by_cases c14 : x33_5 = true
     ·subst c14
      have H1 : (if 0 ≤ a3 then (if a3 < (l0.length : Int) then (if 0 ≤ x11_1 then (if x11_1 < (l1.length : Int) then (if (rd l0 a3) = (rd l1 x11_1) then (if 0 ≤ (wrap64 (a3 + 1)) then (if (wrap64 (a3 + 1)) < (l2.length : Int) then (if 0 ≤ (wrap64 (x11_1 + 1)) then (if (wrap64 (x11_1 + 1)) < ((rd_LI l2 (wrap64 (a3 + 1))).length : Int) then (if a3 < (l2.length : Int) then (if 0 ≤ a4 then (if a4 < ((rd_LI l2 a3).length : Int) then (if (wrap64 ((rd (rd_LI l2 (wrap64 (a3 + 1))) (wrap64 (x11_1 + 1))) + 1)) = (rd (rd_LI l2 a3) a4) then (some x11_1) else (lcs_partner_int.l0 kj5 l0 l1 l2 a3 a4 (wrap64 (x11_1 + 1)))) else (none)) else (none)) else (none)) else (none)) else (none)) else (none)) else (none)) else (lcs_partner_int.l0 kj5 l0 l1 l2 a3 a4 (wrap64 (x11_1 + 1)))) else (none)) else (none)) else (none)) else (none)) = some r := by rw [if_pos rfl] at H; exact H
      clear H
      have H := H1
      clear H1
      by_cases c15 : 0 ≤ a3
      ·rw [if_pos c15] at H
       have c15b0 : decide (0 ≤ a3) = true := decide_eq_true c15
       clear c15
       by_cases c16 : a3 < (l0.length : Int)
       ·rw [if_pos c16] at H
        have c16b0 : decide (a3 < (l0.length : Int)) = true := decide_eq_true c16
        clear c16
        by_cases c17 : 0 ≤ x11_1
        ·rw [if_pos c17] at H
         have c17b0 : decide (0 ≤ x11_1) = true := decide_eq_true c17
         clear c17
         by_cases c18 : x11_1 < (l1.length : Int)
         ·rw [if_pos c18] at H
          have c18b0 : decide (x11_1 < (l1.length : Int)) = true := decide_eq_true c18
          clear c18
          by_cases c19 : (rd l0 a3) = (rd l1 x11_1)
          ·rw [if_pos c19] at H
           have c19b0 : ((rd l0 a3) == (rd l1 x11_1)) = true := beq_iff_eq.mpr c19
           have c19b1 : ((rd l0 a3) != (rd l1 x11_1)) = false := bne_eq_false_iff_eq.mpr c19
           clear c19
           obtain ⟨ji20, hji20⟩ : ∃ j_ : Int, (wrap64 (a3 + 1)) = j_ := ⟨_, rfl⟩
           replace H : (if 0 ≤ (ji20) then (if (ji20) < (l2.length : Int) then (if 0 ≤ (wrap64 (x11_1 + 1)) then (if (wrap64 (x11_1 + 1)) < ((rd_LI l2 (ji20)).length : Int) then (if a3 < (l2.length : Int) then (if 0 ≤ a4 then (if a4 < ((rd_LI l2 a3).length : Int) then (if (wrap64 ((rd (rd_LI l2 (ji20)) (wrap64 (x11_1 + 1))) + 1)) = (rd (rd_LI l2 a3) a4) then (some x11_1) else (lcs_partner_int.l0 kj5 l0 l1 l2 a3 a4 (wrap64 (x11_1 + 1)))) else (none)) else (none)) else (none)) else (none)) else (none)) else (none)) else (none)) = some r := by first | (rw [hji20] at H; exact H) | (simp only [hji20] at H ⊢; exact H)
           have hji20w : (IntKind.i64.wrap (a3 + 1)) = ji20 := (i64_w _).trans hji20
           by_cases c21 : 0 ≤ (ji20)
           ·rw [if_pos c21] at H
            have c21b0 : decide (0 ≤ (ji20)) = true := decide_eq_true c21
            clear c21
            by_cases c22 : (ji20) < (l2.length : Int)
            ·rw [if_pos c22] at H
             have c22b0 : decide ((ji20) < (l2.length : Int)) = true := decide_eq_true c22
             clear c22
             obtain ⟨ji23, hji23⟩ : ∃ j_ : Int, (wrap64 (x11_1 + 1)) = j_ := ⟨_, rfl⟩
             replace H : (if 0 ≤ (ji23) then (if (ji23) < ((rd_LI l2 (ji20)).length : Int) then (if a3 < (l2.length : Int) then (if 0 ≤ a4 then (if a4 < ((rd_LI l2 a3).length : Int) then (if (wrap64 ((rd (rd_LI l2 (ji20)) (ji23)) + 1)) = (rd (rd_LI l2 a3) a4) then (some x11_1) else (lcs_partner_int.l0 kj5 l0 l1 l2 a3 a4 ji23)) else (none)) else (none)) else (none)) else (none)) else (none)) = some r := by first | (rw [hji23] at H; exact H) | (simp only [hji23] at H ⊢; exact H)
             have hji23w : (IntKind.i64.wrap (x11_1 + 1)) = ji23 := (i64_w _).trans hji23
             by_cases c24 : 0 ≤ (ji23)
             ·rw [if_pos c24] at H
              have c24b0 : decide (0 ≤ (ji23)) = true := decide_eq_true c24
              clear c24
              by_cases c25 : (ji23) < ((rd_LI l2 (ji20)).length : Int)
              ·rw [if_pos c25] at H
               have c25b0 : decide ((ji23) < ((rd_LI l2 (ji20)).length : Int)) = true := decide_eq_true c25
               clear c25
               by_cases c26 : a3 < (l2.length : Int)
               ·rw [if_pos c26] at H
                have c26b0 : decide (a3 < (l2.length : Int)) = true := decide_eq_true c26
                clear c26
                by_cases c27 : 0 ≤ a4
                ·rw [if_pos c27] at H
                 have c27b0 : decide (0 ≤ a4) = true := decide_eq_true c27
                 clear c27
                 by_cases c28 : a4 < ((rd_LI l2 a3).length : Int)
                 ·rw [if_pos c28] at H
                  have c28b0 : decide (a4 < ((rd_LI l2 a3).length : Int)) = true := decide_eq_true c28
                  clear c28
                  by_cases c29 : (wrap64 ((rd (rd_LI l2 (ji20)) (ji23)) + 1)) = (rd (rd_LI l2 a3) a4)
                  ·rw [if_pos c29] at H
                   have c29b0 : ((wrap64 ((rd (rd_LI l2 (ji20)) (ji23)) + 1)) == (rd (rd_LI l2 a3) a4)) = true := beq_iff_eq.mpr c29
                   have c29b1 : ((wrap64 ((rd (rd_LI l2 (ji20)) (ji23)) + 1)) != (rd (rd_LI l2 a3) a4)) = false := bne_eq_false_iff_eq.mpr c29
                   clear c29
                   obtain rfl := Option.some.inj H
                   have p106 : 0 ≤ (a3 : Int) := of_decide_eq_true AX
                   have q106 : a3 < (l0.length : Int) := of_decide_eq_true AX
                   obtain ⟨ad106, e106, hx106_0⟩ := Kd.at_int HR0.out a3 p106 q106
                   cases e106
                   replace p106 := eq_true p106
                   replace q106 := eq_true q106
                   have p107 : 0 ≤ (x11_1 : Int) := of_decide_eq_true AX
                   have q107 : x11_1 < (l1.length : Int) := of_decide_eq_true AX
                   obtain ⟨ad107, e107, hx107_0⟩ := Kd.at_int HR1.out x11_1 p107 q107
                   cases e107
                   replace p107 := eq_true p107
                   replace q107 := eq_true q107
                   have p108 : 0 ≤ ((ji20) : Int) := of_decide_eq_true AX
                   have q108 : (ji20) < (l2.length : Int) := of_decide_eq_true AX
                   obtain ⟨ad108, A108_0, c108_0, e108, hx108_0, hl108_0, hi108_0⟩ := at_LI HR2.out (ji20) p108 q108
                   cases e108
                   have HR108_0 := Aside0.mk hi108_0
                   have HC108_0 := Aside0.mk hl108_0
                   clear hi108_0 hl108_0
                   replace p108 := eq_true p108
                   replace q108 := eq_true q108
                   have p109 : 0 ≤ ((ji23) : Int) := of_decide_eq_true AX
                   have q109 : (ji23) < ((rd_LI l2 (ji20)).length : Int) := of_decide_eq_true AX
                   obtain ⟨ad109, e109, hx109_0⟩ := Kd.at_int HR108_0.out (ji23) p109 q109
                   cases e109
                   replace p109 := eq_true p109
                   replace q109 := eq_true q109
                   have p110 : 0 ≤ (a3 : Int) := of_decide_eq_true AX
                   have q110 : a3 < (l2.length : Int) := of_decide_eq_true AX
                   obtain ⟨ad110, A110_0, c110_0, e110, hx110_0, hl110_0, hi110_0⟩ := at_LI HR2.out a3 p110 q110
                   obtain rfl : ad108 = ad110 := (by injection e110)
                   have HR110_0 := Aside0.mk hi110_0
                   have HC110_0 := Aside0.mk hl110_0
                   clear hi110_0 hl110_0
                   replace p110 := eq_true p110
                   replace q110 := eq_true q110
                   have p111 : 0 ≤ (a4 : Int) := of_decide_eq_true AX
                   have q111 : a4 < ((rd_LI l2 a3).length : Int) := of_decide_eq_true AX
                   obtain ⟨ad111, e111, hx111_0⟩ := Kd.at_int HR110_0.out a4 p111 q111
                   cases e111
                   replace p111 := eq_true p111
                   replace q111 := eq_true q111
                   go_wp2
                   repeat (go_quiet (fail); try go_wp2)
                   go_ret
                   exact ⟨by first | rfl | (simp; done) | (simp only [← hji20, ← hji23] <;> (first | rfl | simp)) | (simp [*]; done), by repeat (first | exact Drawn0.refl _ | apply Drawn0.step)⟩
                  ·rw [if_neg c29] at H
                   have c29b0 : ((wrap64 ((rd (rd_LI l2 (ji20)) (ji23)) + 1)) == (rd (rd_LI l2 a3) a4)) = false := beq_eq_false_iff_ne.mpr c29
                   have c29b1 : ((wrap64 ((rd (rd_LI l2 (ji20)) (ji23)) + 1)) != (rd (rd_LI l2 a3) a4)) = true := bne_iff_ne.mpr c29
                   have H' := Aside0.mk H
                   clear H
                   have p106 : 0 ≤ (a3 : Int) := of_decide_eq_true AX
                   have q106 : a3 < (l0.length : Int) := of_decide_eq_true AX
                   obtain ⟨ad106, e106, hx106_0⟩ := Kd.at_int HR0.out a3 p106 q106
                   cases e106
                   replace p106 := eq_true p106
                   replace q106 := eq_true q106
                   have p107 : 0 ≤ (x11_1 : Int) := of_decide_eq_true AX
                   have q107 : x11_1 < (l1.length : Int) := of_decide_eq_true AX
                   obtain ⟨ad107, e107, hx107_0⟩ := Kd.at_int HR1.out x11_1 p107 q107
                   cases e107
                   replace p107 := eq_true p107
                   replace q107 := eq_true q107
                   have p108 : 0 ≤ ((ji20) : Int) := of_decide_eq_true AX
                   have q108 : (ji20) < (l2.length : Int) := of_decide_eq_true AX
                   obtain ⟨ad108, A108_0, c108_0, e108, hx108_0, hl108_0, hi108_0⟩ := at_LI HR2.out (ji20) p108 q108
                   cases e108
                   have HR108_0 := Aside0.mk hi108_0
                   have HC108_0 := Aside0.mk hl108_0
                   clear hi108_0 hl108_0
                   replace p108 := eq_true p108
                   replace q108 := eq_true q108
                   have p109 : 0 ≤ ((ji23) : Int) := of_decide_eq_true AX
                   have q109 : (ji23) < ((rd_LI l2 (ji20)).length : Int) := of_decide_eq_true AX
                   obtain ⟨ad109, e109, hx109_0⟩ := Kd.at_int HR108_0.out (ji23) p109 q109
                   cases e109
                   replace p109 := eq_true p109
                   replace q109 := eq_true q109
                   have p110 : 0 ≤ (a3 : Int) := of_decide_eq_true AX
                   have q110 : a3 < (l2.length : Int) := of_decide_eq_true AX
                   obtain ⟨ad110, A110_0, c110_0, e110, hx110_0, hl110_0, hi110_0⟩ := at_LI HR2.out a3 p110 q110
                   obtain rfl : ad108 = ad110 := (by injection e110)
                   have HR110_0 := Aside0.mk hi110_0
                   have HC110_0 := Aside0.mk hl110_0
                   clear hi110_0 hl110_0
                   replace p110 := eq_true p110
                   replace q110 := eq_true q110
                   have p111 : 0 ≤ (a4 : Int) := of_decide_eq_true AX
                   have q111 : a4 < ((rd_LI l2 a3).length : Int) := of_decide_eq_true AX
                   obtain ⟨ad111, e111, hx111_0⟩ := Kd.at_int HR110_0.out a4 p111 q111
                   cases e111
                   replace p111 := eq_true p111
                   replace q111 := eq_true q111
                   go_wp2
                   repeat (go_quiet (fail); try go_wp2)
                   go_roundg kj5
                   case measure => have := HK1.out; have := HJ5.out; omega
                   case rel => exact ⟨(ji23), (by first | rfl | (simp; done) | (simp only [← hji23] <;> (first | rfl | simp)) | (simp [*]; done)), H', ⟨by have := HK1.out; have := HJ5.out; omega⟩, by repeat (first | exact Drawn0.refl _ | apply Drawn0.step)⟩
                 ·rw [if_neg c28] at H
                  exact absurd H (by simp)
                ·rw [if_neg c27] at H
                 exact absurd H (by simp)
               ·rw [if_neg c26] at H
                exact absurd H (by simp)
              ·rw [if_neg c25] at H
               exact absurd H (by simp)
             ·rw [if_neg c24] at H
              exact absurd H (by simp)
            ·rw [if_neg c22] at H
             exact absurd H (by simp)
           ·rw [if_neg c21] at H
            exact absurd H (by simp)
          ·rw [if_neg c19] at H
           have c19b0 : ((rd l0 a3) == (rd l1 x11_1)) = false := beq_eq_false_iff_ne.mpr c19
           have c19b1 : ((rd l0 a3) != (rd l1 x11_1)) = true := bne_iff_ne.mpr c19
           have H' := Aside0.mk H
           clear H
           have p106 : 0 ≤ (a3 : Int) := of_decide_eq_true AX
           have q106 : a3 < (l0.length : Int) := of_decide_eq_true AX
           obtain ⟨ad106, e106, hx106_0⟩ := Kd.at_int HR0.out a3 p106 q106
           cases e106
           replace p106 := eq_true p106
           replace q106 := eq_true q106
           have p107 : 0 ≤ (x11_1 : Int) := of_decide_eq_true AX
           have q107 : x11_1 < (l1.length : Int) := of_decide_eq_true AX
           obtain ⟨ad107, e107, hx107_0⟩ := Kd.at_int HR1.out x11_1 p107 q107
           cases e107
           replace p107 := eq_true p107
           replace q107 := eq_true q107
           go_wp2
           repeat (go_quiet (fail); try go_wp2)
           go_roundg kj5
           case measure => have := HK1.out; have := HJ5.out; omega
           case rel => exact ⟨(wrap64 (x11_1 + 1)), SX, H', ⟨by have := HK1.out; have := HJ5.out; omega⟩, by repeat (first | exact Drawn0.refl _ | apply Drawn0.step)⟩
         ·rw [if_neg c18] at H
          exact absurd H (by simp)
        ·rw [if_neg c17] at H
         exact absurd H (by simp)
       ·rw [if_neg c16] at H
        exact absurd H (by simp)
      ·rw [if_neg c15] at H
       exact absurd H (by simp)
     ·replace c14 := Bool.eq_false_iff.mpr c14
      subst c14
      have H1 : (some (-1)) = some r := by rw [if_neg (show ¬ (false = true) by decide)] at H; exact H
      clear H
      have H := H1
      clear H1
      obtain rfl := Option.some.inj H
      go_wp2
      repeat (go_quiet (fail); try go_wp2)
      go_ret
      exact ⟨SX, by repeat (first | exact Drawn0.refl _ | apply Drawn0.step)⟩

end Go.Proofs.Ytdbgdkbpamekpaa.Q
