-- Written by a program of this session (mk.py) out of the translation; Lean checks it.
import Derived.Test.YtdbgdkbpamekpaaQ0
import Derived.Test.YtdbgdkbpamekpaaQ1
import Derived.Test.YtdbgdkbpamekpaaQ2
import Derived.Test.YtdbgdkbpamekpaaQ5
namespace Go.Proofs.Ytdbgdkbpamekpaa.Q
open Go.RowKit Go.Proofs.YtdbgdkbpamekpaaW.PrintWords Go.Proofs.YtdbgdkbpamekpaaW.PrintLast Go.Proofs.YtdbgdkbpamekpaaW.PrintMore
attribute [local go_sem] max2_int min2_int max_two min_two max_three min_three max_four min_four   -- for this text's walks alone
set_option linter.unusedVariables false
set_option linter.unusedSimpArgs false

/-! ### sequence_join: function 23 (by hand) -/
def smallP (p : P3) : Bool := decide (p.f0.length ≤ 2000000 ∧ p.f1.length ≤ 2000000 ∧ p.f2.length ≤ 2000000)
def mgS (oth : P3 → Option (List Int)) (p : P3) : Option (List Int) := match mergedS p with | some l => some l | none => oth p
def joinA (mg : P3 → Option (List Int)) : List P3 → List Int → List Int → Option (List Int × Bool)
 | [], _, out => some (out, true)
 | p :: ps, ord, out => if smallP p = true ∧ out.length ≤ 1000000000 ∧ ((mg p).getD []).length ≤ 100000000 then
   (match mg p with
    | none => some ([], false)
    | some l => joinA mg ps ord.tail (out ++ l ++ ord.take 1))
  else none
def joinF (k : Nat) (oth : P3 → Option (List Int)) (l0 l1 l2 : List Int) : Option (List Int × Bool) := (sequence_divide.f k l0 l1 l2).bind fun d => joinA (mgS oth) d.2 d.1 []
theorem joinF.mono (oth : P3 → Option (List Int)) : ∀ a0 a1 a2 k, LeO (joinF k oth a0 a1 a2) (joinF (k + 1) oth a0 a1 a2) := fun a0 a1 a2 k => LeO.bind (sequence_divide.mono _ _ _ _) fun _ => LeO.refl _
/-- What a function value computes of a part. -/
def PartFn (P : Program) (g : FuncId) (lb : Array Value) (w : World) (oth : P3 → Option (List Int)) : Prop := ∀ (x : PV) (p : P3) (W : World), smallP p = true → Below w.heap.size w W → PVAt W x p →
 Calls P g (#[.agg #[.slice x.a.A x.a.n x.a.c, .slice x.b.A x.b.n x.b.c, .slice x.c.A x.c.n x.c.c]] ++ lb) W fun e W' => ∃ v0 : Value, e = .returned (.tuple #[v0, .bool (oth p).isSome]) ∧ SlAt W' v0 ((oth p).getD []) ∧ Below W.heap.size W W'
set_option maxHeartbeats 16000000 in
set_option maxRecDepth 100000 in
theorem sequence_join_calls (k : Nat) (oth : P3 → Option (List Int)) (g : FuncId) (lb : Array Value) (eg : ∀ args w, (callFunc g args).run Try.prog w = .ok (.enter g args) w) (A0 : Option Addr) (c0 : Nat) (l0 : List Int) (A1 : Option Addr) (c1 : Nat) (l1 : List Int) (A2 : Option Addr) (c2 : Nat) (l2 : List Int) (r : List Int) (b : Bool) (w : World) (hr0 : Kd.C (Kd.int .i64) w A0 l0.length l0) (hc0 : l0.length ≤ c0) (hr1 : Kd.C (Kd.int .i64) w A1 l1.length l1) (hc1 : l1.length ≤ c1) (hr2 : Kd.C (Kd.int .i64) w A2 l2.length l2) (hc2 : l2.length ≤ c2) (ho : PartFn Try.prog g lb w oth) (h : joinF k oth l0 l1 l2 = some (r, b)) :
  Calls Try.prog 23 #[.slice A0 l0.length c0, .slice A1 l1.length c1, .slice A2 l2.length c2, .func (.func g) #[] lb] w fun e w' => ∃ v0_ : Value, e = .returned (.tuple #[v0_, .bool b]) ∧ Kd.R (Kd.int .i64) 3 w' w.heap.size (fun _ => True) v0_ r ∧ Below w.heap.size w w' := by
 have HR0 := Aside0.mk hr0
 have HC0 := Aside0.mk hc0
 have HR1 := Aside0.mk hr1
 have HC1 := Aside0.mk hc1
 have HR2 := Aside0.mk hr2
 have HC2 := Aside0.mk hc2
 have HOTH := Aside0.mk ho
 clear hr0 hc0 hr1 hc1 hr2 hc2 ho
 unfold joinF at h
 obtain ⟨⟨ord, ps⟩, hd, h⟩ := Option.bind_eq_some_iff.1 h
 have HD := Aside0.mk hd
 have HF := Aside0.mk h
 clear hd h
 go_enter Try.func23, Try.ntmps23
 go_wp2_with (first
  | (go_at_call 35; ((with_reducible refine (sequence_divide.calls k A0 c0 l0 A1 c1 l1 A2 c2 l2 ord ps _ HR0.out HC0.out HR1.out HC1.out HR2.out HC2.out HD.out).mono ?_); rintro e w1 ⟨Ao, Ap, co, cp, rfl, hro, hcp, hrp, hb1⟩; have HRO := Aside0.mk hro; have HRP := Aside0.mk hrp; have HB1 := Aside0.mk hb1; clear hro hrp hb1)))
 have hpl : ps.length ≤ 9223372036854775807 := HRP.out.2.1
 go_loopg [12, 26] ps.length (fun gk v12 v26 w' => ∃ (kk : Nat) (out : List Int), v26 = .int .i64 kk ∧ kk + gk = ps.length ∧ Aside0 (joinA (mgS oth) (ps.drop kk) (ord.drop kk) out = some (r, b)) ∧ Aside0 (Kd.R (Kd.int .i64) 3 w' w1.heap.size (fun _ => True) v12 out) ∧ Aside0 (Below w1.heap.size w1 w'))
 case atStart =>
  refine ⟨0, [], rfl, by omega, ⟨?_⟩, ⟨?_⟩, ⟨?_⟩⟩
  ·exact HF.out
  ·exact Kd.R_nil _ _ _ _ _
  ·exact Below.refl _ _
 case round =>
  obtain ⟨kk, out, rfl, hk, HL, HO, HB⟩ := hrel
  obtain ⟨go, rfl⟩ : ∃ go, go = gk := ⟨gk, rfl⟩
  have HK := Aside0.mk hk
  cases go with
  | succ g0 =>
   have h1 : decide ((kk : Int) < (ps.length : Int)) = true := decide_eq_true (by omega)
   have h2 : decide (kk < ps.length) = true := decide_eq_true (by omega)
   have p12 : 0 ≤ (kk : Int) := by omega
   have q12 : (kk : Int) < (ps.length : Int) := by omega
   obtain ⟨ad, ⟨⟨xA, xn, xc⟩, ⟨yA, yn, yc⟩, ⟨zA, zn, zc⟩⟩, e, hpv, hx0, hx1, hx2⟩ := at_k3 (Kd.C_below HRP.out HB.out) kk (by omega)
   cases e
   have hdr : ps.drop kk = ps.getD kk P3.z :: ps.drop (kk + 1) := by
    rw [List.drop_eq_getElem_cons (by omega)]
    simp [List.getD_eq_getElem?_getD, List.getElem?_eq_getElem (show kk < ps.length by omega)]
   obtain ⟨p, hp⟩ : ∃ p, p = ps.getD kk P3.z := ⟨_, rfl⟩
   rw [← hp] at hpv hdr
   clear hp
   change wr.cell? _ = some (Value.slice xA xn xc) at hx0
   change wr.cell? _ = some (Value.slice yA yn yc) at hx1
   change wr.cell? _ = some (Value.slice zA zn zc) at hx2
   have hL := HL.out
   rw [hdr, joinA] at hL
   clear hdr
   have hcond : smallP p = true ∧ out.length ≤ 1000000000 ∧ ((mgS oth p).getD []).length ≤ 100000000 := by
    apply Classical.byContradiction
    intro c
    rw [if_neg c] at hL
    cases hL
   rw [if_pos hcond] at hL
   obtain ⟨hsm, hol, hml⟩ := hcond
   obtain ⟨W1, hW1⟩ : ∃ W1 : World, W1 = wr.alloc (Obj.cells #[.slice xA xn xc, .slice yA yn yc, .slice zA zn zc] 39) := ⟨_, rfl⟩
   have hbA : Below wr.heap.size wr W1 := by rw [hW1]; exact below_alloc (Below.refl _ _) _
   have HPV := Aside0.mk hpv
   have HSM := Aside0.mk hsm
   have HOA := Aside0.mk (Kd.R_below HO.out hbA)
   have HBA := Aside0.mk (HB.out.trans (hbA.mono HB.out.size))
   have HCM := sequence_merged_calls ⟨⟨xA, xn, xc⟩, ⟨yA, yn, yc⟩, ⟨zA, zn, zc⟩⟩ p W1 (hpv.below hbA)
   have HX0 : Aside0 (W1.heap.size > wr.heap.size) := ⟨by rw [hW1]; simp⟩
   dsimp only [SV.v] at HCM
   rw [hW1] at HCM
   have HCM' := Aside0.mk HCM
   clear hpv hbA hsm HCM
   have HOA2 : Aside0 (Kd.R (Kd.int .i64) 3 (wr.alloc (Obj.cells #[.slice xA xn xc, .slice yA yn yc, .slice zA zn zc] 39)) w1.heap.size (fun _ => True) _ out) := ⟨hW1 ▸ HOA.out⟩
   have HBA2 : Aside0 (Below w1.heap.size w1 (wr.alloc (Obj.cells #[.slice xA xn xc, .slice yA yn yc, .slice zA zn zc] 39))) := ⟨hW1 ▸ HBA.out⟩
   clear HOA HBA HX0
   have HbA : Aside0 (Below wr.heap.size wr (wr.alloc (Obj.cells #[.slice xA xn xc, .slice yA yn yc, .slice zA zn zc] 39))) := ⟨below_alloc (Below.refl _ _) _⟩
   clear hW1
   rcases hms : mergedS p with _ | l
   ·rw [hms] at HCM'
    have hmg : mgS oth p = oth p := by simp [mgS, hms]
    rw [hmg] at hL hml
    clear hms hmg
    simp only [Option.isSome_none, Option.getD_none] at HCM'
    obtain ⟨Aout, cout, eout⟩ := Kd.R_slice HO.out
    subst eout
    rcases hot : oth p with _ | l
    ·rw [hot] at hL
     dsimp only at hL
     injection hL with hL
     injection hL with e1 e2
     subst e1 e2
     have HOT := Aside0.mk hot
     clear hot
     go_wp2_with (first | (go_at_call 36; ((with_reducible refine HCM'.out.mono ?_); rintro e w2 ⟨v2, rfl, hs2, hb2⟩; have hz0 := (blk_cell (blk_below (heap_alloc_new wr (Obj.cells #[.slice xA xn xc, .slice yA yn yc, .slice zA zn zc] 39)) hb2) 0).trans rfl; have hz1 := (blk_cell (blk_below (heap_alloc_new wr (Obj.cells #[.slice xA xn xc, .slice yA yn yc, .slice zA zn zc] 39)) hb2) 1).trans rfl; have hz2 := (blk_cell (blk_below (heap_alloc_new wr (Obj.cells #[.slice xA xn xc, .slice yA yn yc, .slice zA zn zc] 39)) hb2) 2).trans rfl; change _ = some (Value.slice xA xn xc) at hz0; change _ = some (Value.slice yA yn yc) at hz1; change _ = some (Value.slice zA zn zc) at hz2; have HPV2 := Aside0.mk ((HPV.out.below HbA.out).below hb2); have HO1 := Aside0.mk (Kd.R_below HOA2.out hb2); have HBm := Aside0.mk (HBA2.out.trans (hb2.mono HBA2.out.size)); have HCL := HOTH.out ⟨⟨xA, xn, xc⟩, ⟨yA, yn, yc⟩, ⟨zA, zn, zc⟩⟩ p w2 HSM.out (HB1.out.trans (HBm.out.mono HB1.out.size)) HPV2.out; rw [HOT.out] at HCL; simp only [Option.isSome_some, Option.isSome_none, Option.getD_some, Option.getD_none] at HCL; clear hs2 hb2)) | (go_at_fn g; ((with_reducible refine HCL.mono ?_); rintro e w3 ⟨v3, rfl, hs3, hb3⟩; have HBz := Aside0.mk (HBm.out.trans (hb3.mono HBm.out.size)); clear hb3 hs3 HCL)))
     go_ret2
     exact ⟨_, rfl, Kd.R_nil _ _ _ _ _, HB1.out.trans (HBz.out.mono HB1.out.size)⟩
    ·rw [hot] at hL hml
     simp only [Option.getD_some] at hml
     dsimp only at hL
     have HLN := Aside0.mk hL
     have HOT := Aside0.mk hot
     clear hot hL
     by_cases hko : kk < ord.length
     ·have ho2 : (kk : Int) < (ord.length : Int) := by omega
      have hod : ord.drop kk = rd ord (kk : Int) :: ord.drop (kk + 1) := by
       rw [List.drop_eq_getElem_cons hko]
       unfold rd
       simp [List.getD_eq_getElem?_getD, List.getElem?_eq_getElem hko]
      have HLN2 := Aside0.mk (show joinA (mgS oth) (ps.drop (kk + 1)) (ord.drop (kk + 1)) (out ++ l ++ [rd ord (kk : Int)]) = some (r, b) by have := HLN.out; rw [hod] at this; exact this)
      clear hod HLN
      go_wp2_with (first | (go_at_call 36; ((with_reducible refine HCM'.out.mono ?_); rintro e w2 ⟨v2, rfl, hs2, hb2⟩; have hz0 := (blk_cell (blk_below (heap_alloc_new wr (Obj.cells #[.slice xA xn xc, .slice yA yn yc, .slice zA zn zc] 39)) hb2) 0).trans rfl; have hz1 := (blk_cell (blk_below (heap_alloc_new wr (Obj.cells #[.slice xA xn xc, .slice yA yn yc, .slice zA zn zc] 39)) hb2) 1).trans rfl; have hz2 := (blk_cell (blk_below (heap_alloc_new wr (Obj.cells #[.slice xA xn xc, .slice yA yn yc, .slice zA zn zc] 39)) hb2) 2).trans rfl; change _ = some (Value.slice xA xn xc) at hz0; change _ = some (Value.slice yA yn yc) at hz1; change _ = some (Value.slice zA zn zc) at hz2; have HPV2 := Aside0.mk ((HPV.out.below HbA.out).below hb2); have HO1 := Aside0.mk (Kd.R_below HOA2.out hb2); have HBm := Aside0.mk (HBA2.out.trans (hb2.mono HBA2.out.size)); have HCL := HOTH.out ⟨⟨xA, xn, xc⟩, ⟨yA, yn, yc⟩, ⟨zA, zn, zc⟩⟩ p w2 HSM.out (HB1.out.trans (HBm.out.mono HB1.out.size)) HPV2.out; rw [HOT.out] at HCL; simp only [Option.isSome_some, Option.isSome_none, Option.getD_some, Option.getD_none] at HCL; clear hs2 hb2)) | (go_at_fn g; ((with_reducible refine HCL.mono ?_); rintro e w3 ⟨v3, rfl, hs3, hb3⟩; obtain ⟨⟨sA, sn, sc⟩, rfl, hsn, hsc, hsr⟩ := hs3; dsimp only at hsn hsc hsr; subst hsn; have HL2 : Aside0 (Kd.C (Kd.int .i64) w3 sA l.length l) := ⟨hsr⟩; have HO2 := Aside0.mk (Kd.R_below HO1.out hb3); have HB2 := Aside0.mk (HBm.out.trans (hb3.mono HBm.out.size)); clear hb3 hsr HCL)) | ((with_reducible refine gate_builtin (b := .append) (xs := #[.tmp 46, .tmp 47]) rfl ?_); at_builtin; (refine Kd.R_append_row (Value.int .i64) 0 (h1 := fun _ => rfl) (w0 := w1) w1.heap.size rfl (.tmp 46) (.tmp 47) 22 3 (.int .i64 0) 8 rfl Try.underlying22 info3 rfl (by omega) _ out l sA l.length sc (fun _ => True) rfl rfl (fun _ _ => trivial) HO2.out HL2.out HB2.out HB2.out.size (by omega) ?_; intro v48 w12 ho12 hb12 hg12 hat12; obtain ⟨A48, c48, rfl⟩ := Kd.R_slice ho12; simp only [List.length_append] at ho12; have HO12 := Aside0.mk ho12; have HB12 := Aside0.mk hb12; obtain ⟨ao, eo, hxo⟩ := Kd.at_int (Kd.C_below HRO.out hb12) (kk : Int) (by omega) (by omega); cases eo; rw [Int.toNat_natCast] at hxo; clear ho12 hb12 hg12 hat12)) | ((with_reducible refine gate_builtin (b := .append) (xs := #[.tmp 53, .tmp 58]) rfl ?_); at_builtin; (refine Kd.R_append (Kd.int .i64) (w0 := w1) w1.heap.size rfl (.tmp 53) (.tmp 58) 22 3 (.int .i64 0) 8 rfl Try.underlying22 info3 rfl (by decide) (by omega) (.slice A48 (out.length + l.length) c48) (out ++ l) (rd ord (kk : Int)) [.int .i64 (rd ord (kk : Int))] (fun _ => True) (fun _ => False) rfl rfl ?aP (fun _ hk => hk.elim) ?aF ?aO ?aB ?aS ?aL ?_; (case aP => exact rfl); (case aF => exact (fun _ _ => trivial)); (case aO => exact HO12.out); (case aB => exact HB12.out); (case aS => exact HB12.out.size); (case aL => simp only [List.length_append]; omega); intro v59 w13 ho hb hg hat; have HO13 := Aside0.mk ho; have HB13 := Aside0.mk hb; clear ho hb hg hat)))
      go_roundg g0
      case measure => omega
      case rel => exact ⟨kk + 1, out ++ l ++ [rd ord (kk : Int)], by go_num, by have := HK.out; omega, HLN2, HO13, HB13⟩
     ·have ho2 : decide ((kk : Int) < (ord.length : Int)) = false := decide_eq_false (by omega)
      have HLN2 := Aside0.mk (show joinA (mgS oth) (ps.drop (kk + 1)) (ord.drop (kk + 1)) (out ++ l) = some (r, b) by have := HLN.out; rw [List.drop_of_length_le (by omega : ord.length ≤ kk)] at this; rw [List.drop_of_length_le (by omega : ord.length ≤ kk + 1)]; simpa using this)
      clear HLN
      go_wp2_with (first | (go_at_call 36; ((with_reducible refine HCM'.out.mono ?_); rintro e w2 ⟨v2, rfl, hs2, hb2⟩; have hz0 := (blk_cell (blk_below (heap_alloc_new wr (Obj.cells #[.slice xA xn xc, .slice yA yn yc, .slice zA zn zc] 39)) hb2) 0).trans rfl; have hz1 := (blk_cell (blk_below (heap_alloc_new wr (Obj.cells #[.slice xA xn xc, .slice yA yn yc, .slice zA zn zc] 39)) hb2) 1).trans rfl; have hz2 := (blk_cell (blk_below (heap_alloc_new wr (Obj.cells #[.slice xA xn xc, .slice yA yn yc, .slice zA zn zc] 39)) hb2) 2).trans rfl; change _ = some (Value.slice xA xn xc) at hz0; change _ = some (Value.slice yA yn yc) at hz1; change _ = some (Value.slice zA zn zc) at hz2; have HPV2 := Aside0.mk ((HPV.out.below HbA.out).below hb2); have HO1 := Aside0.mk (Kd.R_below HOA2.out hb2); have HBm := Aside0.mk (HBA2.out.trans (hb2.mono HBA2.out.size)); have HCL := HOTH.out ⟨⟨xA, xn, xc⟩, ⟨yA, yn, yc⟩, ⟨zA, zn, zc⟩⟩ p w2 HSM.out (HB1.out.trans (HBm.out.mono HB1.out.size)) HPV2.out; rw [HOT.out] at HCL; simp only [Option.isSome_some, Option.isSome_none, Option.getD_some, Option.getD_none] at HCL; clear hs2 hb2)) | (go_at_fn g; ((with_reducible refine HCL.mono ?_); rintro e w3 ⟨v3, rfl, hs3, hb3⟩; obtain ⟨⟨sA, sn, sc⟩, rfl, hsn, hsc, hsr⟩ := hs3; dsimp only at hsn hsc hsr; subst hsn; have HL2 : Aside0 (Kd.C (Kd.int .i64) w3 sA l.length l) := ⟨hsr⟩; have HO2 := Aside0.mk (Kd.R_below HO1.out hb3); have HB2 := Aside0.mk (HBm.out.trans (hb3.mono HBm.out.size)); clear hb3 hsr HCL)) | ((with_reducible refine gate_builtin (b := .append) (xs := #[.tmp 46, .tmp 47]) rfl ?_); at_builtin; (refine Kd.R_append_row (Value.int .i64) 0 (h1 := fun _ => rfl) (w0 := w1) w1.heap.size rfl (.tmp 46) (.tmp 47) 22 3 (.int .i64 0) 8 rfl Try.underlying22 info3 rfl (by omega) _ out l sA l.length sc (fun _ => True) rfl rfl (fun _ _ => trivial) HO2.out HL2.out HB2.out HB2.out.size (by omega) ?_; intro v48 w12 ho12 hb12 hg12 hat12; obtain ⟨A48, c48, rfl⟩ := Kd.R_slice ho12; simp only [List.length_append] at ho12; have HO12 := Aside0.mk ho12; have HB12 := Aside0.mk hb12; skip; clear ho12 hb12 hg12 hat12)))
      go_roundg g0
      case measure => omega
      case rel => exact ⟨kk + 1, out ++ l, by go_num, by have := HK.out; omega, HLN2, HO12, HB12⟩
   ·rw [hms] at HCM'
    have hmg : mgS oth p = some l := by simp [mgS, hms]
    rw [hmg] at hL hml
    simp only [Option.getD_some] at hml
    dsimp only at hL
    have HMS := Aside0.mk hms
    have HLN := Aside0.mk hL
    clear hms hmg hL
    simp only [Option.isSome_some, Option.getD_some] at HCM'
    obtain ⟨Aout, cout, eout⟩ := Kd.R_slice HO.out
    subst eout
    by_cases hko : kk < ord.length
    ·have ho2 : (kk : Int) < (ord.length : Int) := by omega
     have hod : ord.drop kk = rd ord (kk : Int) :: ord.drop (kk + 1) := by
      rw [List.drop_eq_getElem_cons hko]
      unfold rd
      simp [List.getD_eq_getElem?_getD, List.getElem?_eq_getElem hko]
     have HLN2 := Aside0.mk (show joinA (mgS oth) (ps.drop (kk + 1)) (ord.drop (kk + 1)) (out ++ l ++ [rd ord (kk : Int)]) = some (r, b) by have := HLN.out; rw [hod] at this; exact this)
     clear hod HLN
     go_wp2_with (first | (go_at_call 36; ((with_reducible refine HCM'.out.mono ?_); rintro e w2 ⟨v2, rfl, hs2, hb2⟩; obtain ⟨⟨sA, sn, sc⟩, rfl, hsn, hsc, hsr⟩ := hs2; dsimp only at hsn hsc hsr; subst hsn; have HL2 : Aside0 (Kd.C (Kd.int .i64) w2 sA l.length l) := ⟨hsr⟩; have HO2 := Aside0.mk (Kd.R_below HOA2.out hb2); have HB2 := Aside0.mk (HBA2.out.trans (hb2.mono HBA2.out.size)); clear hb2 hsr)) | ((with_reducible refine gate_builtin (b := .append) (xs := #[.tmp 46, .tmp 47]) rfl ?_); at_builtin; (refine Kd.R_append_row (Value.int .i64) 0 (h1 := fun _ => rfl) (w0 := w1) w1.heap.size rfl (.tmp 46) (.tmp 47) 22 3 (.int .i64 0) 8 rfl Try.underlying22 info3 rfl (by omega) _ out l sA l.length sc (fun _ => True) rfl rfl (fun _ _ => trivial) HO2.out HL2.out HB2.out HB2.out.size (by omega) ?_; intro v48 w12 ho12 hb12 hg12 hat12; obtain ⟨A48, c48, rfl⟩ := Kd.R_slice ho12; simp only [List.length_append] at ho12; have HO12 := Aside0.mk ho12; have HB12 := Aside0.mk hb12; obtain ⟨ao, eo, hxo⟩ := Kd.at_int (Kd.C_below HRO.out hb12) (kk : Int) (by omega) (by omega); cases eo; rw [Int.toNat_natCast] at hxo; clear ho12 hb12 hg12 hat12)) | ((with_reducible refine gate_builtin (b := .append) (xs := #[.tmp 53, .tmp 58]) rfl ?_); at_builtin; (refine Kd.R_append (Kd.int .i64) (w0 := w1) w1.heap.size rfl (.tmp 53) (.tmp 58) 22 3 (.int .i64 0) 8 rfl Try.underlying22 info3 rfl (by decide) (by omega) (.slice A48 (out.length + l.length) c48) (out ++ l) (rd ord (kk : Int)) [.int .i64 (rd ord (kk : Int))] (fun _ => True) (fun _ => False) rfl rfl ?aP (fun _ hk => hk.elim) ?aF ?aO ?aB ?aS ?aL ?_; (case aP => exact rfl); (case aF => exact (fun _ _ => trivial)); (case aO => exact HO12.out); (case aB => exact HB12.out); (case aS => exact HB12.out.size); (case aL => simp only [List.length_append]; omega); intro v59 w13 ho hb hg hat; have HO13 := Aside0.mk ho; have HB13 := Aside0.mk hb; clear ho hb hg hat)))
     go_roundg g0
     case measure => omega
     case rel => exact ⟨kk + 1, out ++ l ++ [rd ord (kk : Int)], by go_num, by have := HK.out; omega, HLN2, HO13, HB13⟩
    ·have ho2 : decide ((kk : Int) < (ord.length : Int)) = false := decide_eq_false (by omega)
     have HLN2 := Aside0.mk (show joinA (mgS oth) (ps.drop (kk + 1)) (ord.drop (kk + 1)) (out ++ l) = some (r, b) by have := HLN.out; rw [List.drop_of_length_le (by omega : ord.length ≤ kk)] at this; rw [List.drop_of_length_le (by omega : ord.length ≤ kk + 1)]; simpa using this)
     clear HLN
     go_wp2_with (first | (go_at_call 36; ((with_reducible refine HCM'.out.mono ?_); rintro e w2 ⟨v2, rfl, hs2, hb2⟩; obtain ⟨⟨sA, sn, sc⟩, rfl, hsn, hsc, hsr⟩ := hs2; dsimp only at hsn hsc hsr; subst hsn; have HL2 : Aside0 (Kd.C (Kd.int .i64) w2 sA l.length l) := ⟨hsr⟩; have HO2 := Aside0.mk (Kd.R_below HOA2.out hb2); have HB2 := Aside0.mk (HBA2.out.trans (hb2.mono HBA2.out.size)); clear hb2 hsr)) | ((with_reducible refine gate_builtin (b := .append) (xs := #[.tmp 46, .tmp 47]) rfl ?_); at_builtin; (refine Kd.R_append_row (Value.int .i64) 0 (h1 := fun _ => rfl) (w0 := w1) w1.heap.size rfl (.tmp 46) (.tmp 47) 22 3 (.int .i64 0) 8 rfl Try.underlying22 info3 rfl (by omega) _ out l sA l.length sc (fun _ => True) rfl rfl (fun _ _ => trivial) HO2.out HL2.out HB2.out HB2.out.size (by omega) ?_; intro v48 w12 ho12 hb12 hg12 hat12; obtain ⟨A48, c48, rfl⟩ := Kd.R_slice ho12; simp only [List.length_append] at ho12; have HO12 := Aside0.mk ho12; have HB12 := Aside0.mk hb12; skip; clear ho12 hb12 hg12 hat12)))
     go_roundg g0
     case measure => omega
     case rel => exact ⟨kk + 1, out ++ l, by go_num, by have := HK.out; omega, HLN2, HO12, HB12⟩
  | zero =>
   have h1 : decide ((kk : Int) < (ps.length : Int)) = false := decide_eq_false (by omega)
   have h2 : decide (kk < ps.length) = false := decide_eq_false (by omega)
   have hL := HL.out
   rw [List.drop_of_length_le (show ps.length ≤ kk by omega), joinA] at hL
   injection hL with hL
   injection hL with e1 e2
   subst e1 e2
   go_wp2
   go_ret2
   exact ⟨_, rfl, Kd.R_lower HO.out HB1.out.size, HB1.out.trans (HB.out.mono HB1.out.size)⟩

/-! ### sequence_Merge: function 13 (by hand) -/
theorem enters_merge1 : ∀ args w, (callFunc 24 args).run Try.prog w = .ok (.enter 24 args) w := fun args w => enters_ Try.func24 (by kernel_rfl) rfl args w
set_option maxHeartbeats 2000000 in
theorem merge1_fn (w : World) : PartFn Try.prog 24 #[] w (fun _ => none) := by
 intro x p W hs hb hp
 show Calls Try.prog _ #[.agg #[.slice x.a.A x.a.n x.a.c, .slice x.b.A x.b.n x.b.c, .slice x.c.A x.c.n x.c.c]] W fun e W' => ∃ v0 : Value, e = .returned (.tuple #[v0, .bool false]) ∧ SlAt W' v0 [] ∧ Below W.heap.size W W'
 generalize x.a.A = a1, x.a.n = a2, x.a.c = a3, x.b.A = b1, x.b.n = b2, x.b.c = b3, x.c.A = d1, x.c.n = d2, x.c.c = d3
 clear hs hb hp x p w
 go_enter Try.func24, Try.ntmps24
 go_wp2
 go_ret2
 exact ⟨_, rfl, SlAt.nil _, below_alloc (Below.refl _ _) _⟩
def sequence_Merge.f (k : Nat) (l0 l1 l2 : List Int) : Option (List Int × Bool) :=
 (joinF k (fun _ => none) l0 l1 l2).bind fun d =>
  if d.2 = false then some ([], false) else
  if d.1.length ≤ 2000000000 then
   (if (onceS d.1).length = d.1.length then (if d.1.length = (keptS l0 l1 l2).length then some (d.1, true) else some ([], false)) else some ([], false))
  else none
theorem sequence_Merge.mono : ∀ a0 a1 a2 k, LeO (sequence_Merge.f k a0 a1 a2) (sequence_Merge.f (k + 1) a0 a1 a2) := fun _ _ _ _ => LeO.bind (joinF.mono _ _ _ _ _) fun _ => LeO.refl _
theorem divide_small {k : Nat} {l0 l1 l2 : List Int} {d : List Int × List P3} (h : sequence_divide.f k l0 l1 l2 = some d) : l0.length ≤ 1000000 ∧ l1.length ≤ 1000000 ∧ l2.length ≤ 1000000 := by
 apply Classical.byContradiction
 intro c
 unfold sequence_divide.f at h
 rw [if_neg c] at h
 cases h
theorem join_small {k : Nat} {oth : P3 → Option (List Int)} {l0 l1 l2 : List Int} {d : List Int × Bool} (h : joinF k oth l0 l1 l2 = some d) : l0.length ≤ 1000000 ∧ l1.length ≤ 1000000 ∧ l2.length ≤ 1000000 := by
 unfold joinF at h
 obtain ⟨e, he, _⟩ := Option.bind_eq_some_iff.1 h
 exact divide_small he
set_option maxHeartbeats 8000000 in
set_option maxRecDepth 100000 in
theorem sequence_Merge.calls (k : Nat) (A0 : Option Addr) (c0 : Nat) (l0 : List Int) (A1 : Option Addr) (c1 : Nat) (l1 : List Int) (A2 : Option Addr) (c2 : Nat) (l2 : List Int) (r1 : List Int) (r2 : Bool) (w : World) (hr0 : Kd.C (Kd.int .i64) w A0 l0.length l0) (hc0 : l0.length ≤ c0) (hr1 : Kd.C (Kd.int .i64) w A1 l1.length l1) (hc1 : l1.length ≤ c1) (hr2 : Kd.C (Kd.int .i64) w A2 l2.length l2) (hc2 : l2.length ≤ c2) (h : sequence_Merge.f k l0 l1 l2 = some (r1, r2)) :
  Calls Try.prog 13 #[.slice A0 l0.length c0, .slice A1 l1.length c1, .slice A2 l2.length c2] w fun e w' => ∃ v0_ : Value, e = .returned (.tuple #[v0_, .bool r2]) ∧ Kd.R (Kd.int .i64) 3 w' w.heap.size (fun _ => True) v0_ r1 ∧ Below w.heap.size w w' := by
 have HR0 := Aside0.mk hr0
 have HC0 := Aside0.mk hc0
 have HR1 := Aside0.mk hr1
 have HC1 := Aside0.mk hc1
 have HR2 := Aside0.mk hr2
 have HC2 := Aside0.mk hc2
 clear hr0 hc0 hr1 hc1 hr2 hc2
 unfold sequence_Merge.f at h
 obtain ⟨⟨out, ok⟩, hd, h⟩ := Option.bind_eq_some_iff.1 h
 obtain ⟨hs0, hs1, hs2⟩ := join_small hd
 have HD := Aside0.mk hd
 clear hd
 have FK := Aside0.mk (show sequence_Kept.f l0 l1 l2 = some (keptS l0 l1 l2) by rw [sequence_Kept.f, if_pos ⟨hs0, hs1, hs2⟩])
 dsimp only at h
 obtain ⟨kp, hkp⟩ : ∃ kp, kp = keptS l0 l1 l2 := ⟨_, rfl⟩
 rw [← hkp] at h FK
 clear hkp
 have hJ := sequence_join_calls k (fun _ => none) 24 #[] enters_merge1 A0 c0 l0 A1 c1 l1 A2 c2 l2 out ok w HR0.out HC0.out HR1.out HC1.out HR2.out HC2.out (merge1_fn w) HD.out
 have HJ := Aside0.mk hJ
 clear hJ HD
 cases ok with
 | false =>
  rw [if_pos rfl] at h
  injection h with h
  injection h with e1 e2
  subst e1 e2
  go_enter Try.func13, Try.ntmps13
  go_wp2_with (first | (go_at_call 23; ((with_reducible refine HJ.out.mono ?_); rintro e w1 ⟨v1, rfl, hr1, hb1⟩; have HB1 := Aside0.mk hb1; clear hr1 hb1)))
  go_ret2
  exact ⟨_, rfl, Kd.R_nil _ _ _ _ _, HB1.out⟩
 | true =>
  rw [if_neg (by simp)] at h
  have hol : out.length ≤ 2000000000 := by
   apply Classical.byContradiction
   intro c
   rw [if_neg c] at h
   cases h
  rw [if_pos hol] at h
  have FO := Aside0.mk (show sequence_once.f out = some (onceS out) by rw [sequence_once.f, if_pos (by omega)])
  obtain ⟨oo, hoo⟩ : ∃ o, o = onceS out := ⟨_, rfl⟩
  rw [← hoo] at h FO
  clear hoo
  by_cases h1 : oo.length = out.length
  ·rw [if_pos h1] at h
   have g1 : ((oo.length : Int) != (out.length : Int)) = false := by rw [h1]; simp
   by_cases h2 : out.length = kp.length
   ·rw [if_pos h2] at h
    have g2 : ((out.length : Int) != (kp.length : Int)) = false := by rw [h2]; simp
    injection h with h
    injection h with e1 e2
    subst e1 e2
    clear h1 h2
    go_enter Try.func13, Try.ntmps13
    go_wp2_with (first | (go_at_call 23; ((with_reducible refine HJ.out.mono ?_); rintro e w1 ⟨v1, rfl, hr1, hb1⟩; obtain ⟨Ar, cr, rfl⟩ := Kd.R_slice hr1; have HR := Aside0.mk hr1; have HC := Aside0.mk (Kd.R_reads' hr1).2.1; have HCr := Aside0.mk (Kd.R_reads' hr1).2.2; have HB1 := Aside0.mk hb1; clear hr1 hb1)) | (go_at_call 25; ((with_reducible refine (sequence_once.calls Ar cr out oo _ HCr.out HC.out FO.out).mono ?_); rintro e w2 ⟨v2, rfl, hr2, hb2⟩; obtain ⟨A3, c3, rfl⟩ := Kd.R_slice hr2; have HR3 := Aside0.mk (Kd.R_below HR.out hb2); have HB2 := Aside0.mk (HB1.out.trans (hb2.mono HB1.out.size)); clear hr2 hb2)) | (go_at_call 20; ((with_reducible refine (sequence_Kept.calls A0 c0 l0 A1 c1 l1 A2 c2 l2 kp _ (Kd.C_below HR0.out HB2.out) HC0.out (Kd.C_below HR1.out HB2.out) HC1.out (Kd.C_below HR2.out HB2.out) HC2.out FK.out).mono ?_); rintro e w3 ⟨v3, rfl, hr3, hb3⟩; obtain ⟨A4, c4, rfl⟩ := Kd.R_slice hr3; have HR4 := Aside0.mk (Kd.R_below HR3.out hb3); have HB3 := Aside0.mk (HB2.out.trans (hb3.mono HB2.out.size)); clear hr3 hb3)))
    go_ret2
    exact ⟨_, rfl, HR4.out, HB3.out⟩
   ·rw [if_neg h2] at h
    have g2 : ((out.length : Int) != (kp.length : Int)) = true := by simp; omega
    injection h with h
    injection h with e1 e2
    subst e1 e2
    clear h1 h2
    go_enter Try.func13, Try.ntmps13
    go_wp2_with (first | (go_at_call 23; ((with_reducible refine HJ.out.mono ?_); rintro e w1 ⟨v1, rfl, hr1, hb1⟩; obtain ⟨Ar, cr, rfl⟩ := Kd.R_slice hr1; have HR := Aside0.mk hr1; have HC := Aside0.mk (Kd.R_reads' hr1).2.1; have HCr := Aside0.mk (Kd.R_reads' hr1).2.2; have HB1 := Aside0.mk hb1; clear hr1 hb1)) | (go_at_call 25; ((with_reducible refine (sequence_once.calls Ar cr out oo _ HCr.out HC.out FO.out).mono ?_); rintro e w2 ⟨v2, rfl, hr2, hb2⟩; obtain ⟨A3, c3, rfl⟩ := Kd.R_slice hr2; have HR3 := Aside0.mk (Kd.R_below HR.out hb2); have HB2 := Aside0.mk (HB1.out.trans (hb2.mono HB1.out.size)); clear hr2 hb2)) | (go_at_call 20; ((with_reducible refine (sequence_Kept.calls A0 c0 l0 A1 c1 l1 A2 c2 l2 kp _ (Kd.C_below HR0.out HB2.out) HC0.out (Kd.C_below HR1.out HB2.out) HC1.out (Kd.C_below HR2.out HB2.out) HC2.out FK.out).mono ?_); rintro e w3 ⟨v3, rfl, hr3, hb3⟩; obtain ⟨A4, c4, rfl⟩ := Kd.R_slice hr3; have HR4 := Aside0.mk (Kd.R_below HR3.out hb3); have HB3 := Aside0.mk (HB2.out.trans (hb3.mono HB2.out.size)); clear hr3 hb3)))
    go_ret2
    exact ⟨_, rfl, Kd.R_nil _ _ _ _ _, HB3.out⟩
  ·rw [if_neg h1] at h
   have g1 : ((oo.length : Int) != (out.length : Int)) = true := by simp; omega
   injection h with h
   injection h with e1 e2
   subst e1 e2
   clear h1
   go_enter Try.func13, Try.ntmps13
   go_wp2_with (first | (go_at_call 23; ((with_reducible refine HJ.out.mono ?_); rintro e w1 ⟨v1, rfl, hr1, hb1⟩; obtain ⟨Ar, cr, rfl⟩ := Kd.R_slice hr1; have HR := Aside0.mk hr1; have HC := Aside0.mk (Kd.R_reads' hr1).2.1; have HCr := Aside0.mk (Kd.R_reads' hr1).2.2; have HB1 := Aside0.mk hb1; clear hr1 hb1)) | (go_at_call 25; ((with_reducible refine (sequence_once.calls Ar cr out oo _ HCr.out HC.out FO.out).mono ?_); rintro e w2 ⟨v2, rfl, hr2, hb2⟩; obtain ⟨A3, c3, rfl⟩ := Kd.R_slice hr2; have HR3 := Aside0.mk (Kd.R_below HR.out hb2); have HB2 := Aside0.mk (HB1.out.trans (hb2.mono HB1.out.size)); clear hr2 hb2)) | (go_at_call 20; ((with_reducible refine (sequence_Kept.calls A0 c0 l0 A1 c1 l1 A2 c2 l2 kp _ (Kd.C_below HR0.out HB2.out) HC0.out (Kd.C_below HR1.out HB2.out) HC1.out (Kd.C_below HR2.out HB2.out) HC2.out FK.out).mono ?_); rintro e w3 ⟨v3, rfl, hr3, hb3⟩; obtain ⟨A4, c4, rfl⟩ := Kd.R_slice hr3; have HR4 := Aside0.mk (Kd.R_below HR3.out hb3); have HB3 := Aside0.mk (HB2.out.trans (hb3.mono HB2.out.size)); clear hr3 hb3)))
   go_ret2
   exact ⟨_, rfl, Kd.R_nil _ _ _ _ _, HB2.out⟩

/-! ### sequence_key: function 30 (by hand) -/
def keyS (ks : List ByteArray) (x : Int) : ByteArray := if x < 0 then ByteArray.empty else if (ks.length : Int) ≤ x then ByteArray.empty else rdOf ByteArray.empty ks x
def ltK (ks : List ByteArray) (a b : Int) : Bool := Op.bytesLess (keyS ks a).toList (keyS ks b).toList || ((keyS ks a).toList == (keyS ks b).toList && decide (a < b))
set_option maxHeartbeats 2000000 in
theorem sequence_key_calls (A : Option Addr) (c : Nat) (ks : List ByteArray) (x : Int) (w : World) (hr : Kd.C Kd.string w A ks.length ks) :
  Calls Try.prog 30 #[.slice A ks.length c, .int .i64 x] w fun e w' => e = .returned (.string (keyS ks x)) ∧ ∃ q, w' = w.drewN q := by
 by_cases h0 : x < 0
 ·have e : keyS ks x = ByteArray.empty := if_pos h0
  rw [e]
  clear e hr
  go_enter Try.func30, Try.ntmps30
  go_wp2
  go_ret
  exact ⟨rfl, 0, rfl⟩
 ·by_cases h1 : (ks.length : Int) ≤ x
  ·have e : keyS ks x = ByteArray.empty := by unfold keyS; rw [if_neg h0, if_pos h1]
   rw [e]
   clear e hr
   go_enter Try.func30, Try.ntmps30
   go_wp2
   go_ret
   exact ⟨rfl, 0, rfl⟩
  ·have e : keyS ks x = rdOf ByteArray.empty ks x := by unfold keyS; rw [if_neg h0, if_neg h1]
   rw [e]
   have hb0 : 0 ≤ x := by omega
   have hb1 : x < (ks.length : Int) := by omega
   obtain ⟨ad, ea, hx⟩ := Kd.at_string hr x hb0 hb1
   subst ea
   clear e hr
   go_enter Try.func30, Try.ntmps30
   go_wp2
   go_ret
   exact ⟨rfl, 0, rfl⟩
set_option maxHeartbeats 4000000 in
set_option maxRecDepth 100000 in
theorem less_free (blk off c Bk Bs size : Nat) (W : World) (G : Nat → Int) (Ak : Option Addr) (ck : Nat) (ks : List ByteArray) (hk : W.cell? ⟨Bk, 0, none⟩ = some (.slice Ak ks.length ck)) (hs : W.cell? ⟨Bs, 0, none⟩ = some (.slice (some ⟨blk, off, none⟩) size c))
  (hc : ∀ t, t < size → W.cell? ⟨blk, off + t, none⟩ = some (.int .i64 (G t))) (HK : Kd.C Kd.string W Ak ks.length ks) (i j : Nat) (hi : i < size) (hj : j < size) (_hsz : size < 4611686018427387904) :
  Calls Try.prog 29 #[.int .i64 i, .int .i64 j, .pointer (some ⟨Bk, 0, none⟩), .pointer (some ⟨Bs, 0, none⟩)] W fun e w' => e = .returned (.bool (ltK ks (G i) (G j))) ∧ ∃ q, w' = W.drewN q := by
 have ci := hc i hi
 have cj := hc j hj
 clear hc
 have hi' : (i : Int) < (size : Int) := by omega
 have hj' : (j : Int) < (size : Int) := by omega
 have HKA := Aside0.mk HK
 clear HK
 go_enter Try.func29, Try.ntmps29
 go_wp2
 go_quiet (first | (go_at_call 30; exact Calls.quiet_of (sequence_key_calls Ak ck ks _ _ (Kd.C_drewN HKA.out _))))
 clear hk HKA
 generalize hki : keyS ks (G i) = ki
 generalize hkj : keyS ks (G j) = kj
 have HKI := Aside0.mk hki
 have HKJ := Aside0.mk hkj
 clear hki hkj
 by_cases b1 : Op.bytesLess ki.toList kj.toList = true
 ·go_wp2
  go_quiet (fail)
  go_wp2
  go_ret
  exact ⟨by simp [ltK, HKI.out, HKJ.out, b1], _, World.drewN_drewN _ _ _⟩
 ·have b1' : Op.bytesLess ki.toList kj.toList = false := by simpa using b1
  by_cases b2 : (ki.toList == kj.toList) = true
  ·go_wp2
   go_quiet (fail)
   go_wp2
   go_ret
   exact ⟨by simp [ltK, HKI.out, HKJ.out, b1', b2], _, World.drewN_drewN _ _ _⟩
  ·have b2' : (ki.toList == kj.toList) = false := by simpa using b2
   go_wp2
   go_quiet (fail)
   go_wp2
   go_ret
   exact ⟨by simp [ltK, HKI.out, HKJ.out, b1', b2'], _, World.drewN_drewN _ _ _⟩

/-! ### sequence_Free: function 14 (by hand) -/
theorem swo_ltK (ks : List ByteArray) : Sort.SWO (ltK ks) where
 irrefl x := by simp [ltK, bytesLess_eq, List.lt_irrefl]
 trans x y z h1 h2 := by
  simp only [ltK, bytesLess_eq, Bool.or_eq_true, Bool.and_eq_true, decide_eq_true_eq, beq_iff_eq] at *
  rcases h1 with h1 | ⟨h1, h1'⟩ <;> rcases h2 with h2 | ⟨h2, h2'⟩
  ·exact .inl (List.lt_trans h1 h2)
  ·exact .inl (h2 ▸ h1)
  ·exact .inl (h1 ▸ h2)
  ·exact .inr ⟨h1.trans h2, by omega⟩
 ntrans x y z h1 h2 := by
  simp only [ltK, bytesLess_eq, Bool.or_eq_false_iff, Bool.and_eq_false_iff, decide_eq_false_iff_not, beq_eq_false_iff_ne, List.not_lt] at *
  obtain ⟨a1, b1⟩ := h1
  obtain ⟨a2, b2⟩ := h2
  refine ⟨List.le_trans a2 a1, ?_⟩
  by_cases e : (keyS ks x).toList = (keyS ks z).toList
  ·right
   rw [e] at a1 b1
   have e2 : (keyS ks y).toList = (keyS ks z).toList := List.le_antisymm a1 a2
   rcases b1 with b1 | b1
   ·exact absurd e2.symm b1
   ·rcases b2 with b2 | b2
    ·exact absurd e2 b2
    ·omega
  ·exact .inl e
theorem anti_ltK (ks : List ByteArray) (x y : Int) (h1 : ltK ks x y = false) (h2 : ltK ks y x = false) : x = y := by
 simp only [ltK, bytesLess_eq, Bool.or_eq_false_iff, Bool.and_eq_false_iff, decide_eq_false_iff_not, beq_eq_false_iff_ne, List.not_lt] at *
 obtain ⟨a1, b1⟩ := h1
 obtain ⟨a2, b2⟩ := h2
 have e := List.le_antisymm a1 a2
 rcases b1 with b1 | b1
 ·exact absurd e.symm b1
 ·rcases b2 with b2 | b2
  ·exact absurd e b2
  ·omega
def sortK (ks : List ByteArray) (l : List Int) : List Int := l.mergeSort fun x y => !ltK ks y x
theorem sortK_len (ks : List ByteArray) (l : List Int) : (sortK ks l).length = l.length := List.length_mergeSort l
noncomputable def siT : TypeInfo := (Try.prog.info? 22).get (by kernel_rfl)
noncomputable def siE : TypeInfo := (Try.prog.info? 3).get (by kernel_rfl)
theorem siK (n : Nat) (h2 : 2 ≤ n) : Lib.swapperK n siE 2 = 5 := by
 have a : siE.hasPointers = false := by kernel_rfl
 have b : siE.bytes = 8 := by kernel_rfl
 have c : (n == 0) = false := by simp; omega
 have d : (n == 1) = false := by simp; omega
 simp [Lib.swapperK, a, b, c, d]
theorem siK0 : Lib.swapperK 0 siE 2 = 1 := by simp [Lib.swapperK]
theorem siK1 : Lib.swapperK 1 siE 2 = 2 := by simp [Lib.swapperK]
set_option maxHeartbeats 4000000 in
set_option maxRecDepth 100000 in
open Go.Sort in
theorem free_sort (base : Nat) (ok : Nat → Prop) (v : Value) (xs : List Int) (w0 w : World) (Bk Bv : Nat) (Ak : Option Addr) (ck : Nat) (ks : List ByteArray) (h : Kd.R (Kd.int .i64) 3 w base ok v xs) (hs : xs.length < 4611686018427387904)
  (hb : Below w0.heap.size w0 w) (hb0 : w0.heap.size ≤ base) (hk : w0.cell? ⟨Bk, 0, none⟩ = some (.slice Ak ks.length ck)) (hK : Kd.C Kd.string w0 Ak ks.length ks) (hv : w.heap[Bv]? = some (.cells #[v] 22 (0, 0))) :
  Calls Try.prog 28 #[.iface 22 v, .func (.func 29) #[] #[.pointer (some ⟨Bk, 0, none⟩), .pointer (some ⟨Bv, 0, none⟩)]] w fun e w' => e = .returned (.tuple #[]) ∧ Kd.R (Kd.int .i64) 3 w' base ok v (sortK ks xs) ∧ w.grownBy w' v.ownBlock := by
 rcases Nat.lt_or_ge xs.length 2 with hlt | hge
 ·obtain ⟨A, c, rfl⟩ := Kd.R_slice h
  have hn : xs.length ≤ 1 := by omega
  have hss : sortK ks xs = xs := by
   rcases xs with _ | ⟨a, _ | ⟨b, xs⟩⟩
   ·simp [sortK]
   ·simp [sortK]
   ·simp at hlt
    omega
  obtain ⟨f, hf⟩ : ∃ f, Try.prog.funcs.findIdx? (·.name == "internal/reflectlite" ++ ".Swapper$" ++ toString (Lib.swapperK xs.length siE 2)) = some f := by
   rcases Nat.lt_or_ge xs.length 1 with q | q
   ·exact ⟨52, by rw [show xs.length = 0 by omega, siK0]; kernel_rfl⟩
   ·exact ⟨53, by rw [show xs.length = 1 by omega, siK1]; kernel_rfl⟩
  have hT := Any.sort_Slice_tiny Go.Proofs.Try.laysGg6 22 3 siT siE (by kernel_rfl) (by kernel_rfl) (by kernel_rfl) (by kernel_rfl) 2 (fun _ => by kernel_rfl) A xs.length c hn f hf (.func 29) #[] #[.pointer (some ⟨Bk, 0, none⟩), .pointer (some ⟨Bv, 0, none⟩)] w
  change Calls Try.prog 28 _ _ _ at hT
  refine hT.mono ?_
  rintro e w' ⟨rfl, os, rfl⟩
  have hg : ∀ row, w.grownBy (Sort.grow w os) row := fun row => ⟨rfl, rfl, rfl, by simp, fun k hk _ => Sort.heap_grow_old _ _ hk⟩
  refine ⟨rfl, ?_, hg _⟩
  rw [hss]
  exact Kd.R_grown h (hg none) (fun _ _ he => by cases he)
 ·obtain ⟨g, cap, rfl, hgb, hgl, cells, hcells⟩ := Kd.R_form h (by omega)
  have ho := Kd.own_of_R h
  rcases ho.2 with ⟨he, _⟩ | ⟨g', cap', cur, he, hbase, hbk, h1, h2, h3, h4⟩
  ·cases he
  injection he with he1 he2 he3
  injection he1 with he1
  injection he1 with he1
  subst he1 he3
  have hH : Holds (Value.int .i64) w g 0 xs.toArray := holds_of_own hbk (by simpa [encs] using h4)
  have hg0 : w0.heap.size ≤ g := by omega
  have hless : LessReads Try.prog 29 #[.pointer (some ⟨Bk, 0, none⟩), .pointer (some ⟨Bv, 0, none⟩)] (Value.int .i64) (ltK ks) g 0 xs.toArray.size w := by
   intro m os dk hds i j hi hj
   have hgr : w.grownBy (sortWorld (Value.int .i64) w g 0 m dk os) (some g) := by unfold sortWorld; exact grownBy_sortedE dk
   have hbs : Below w0.heap.size w0 (sortWorld (Value.int .i64) w g 0 m dk os) := hb.grown hgr hb.size (fun j hj => by cases hj; exact hg0)
   have hvs : (sortWorld (Value.int .i64) w g 0 m dk os).heap[Bv]? = some (.cells #[.slice (some ⟨g, 0, none⟩) xs.length cap] 22 (0, 0)) := by
    rw [hgr.block Bv (Array.getElem?_eq_some_iff.1 hv).1 (fun e => by
     injection e with e
     subst e
     rw [hbk] at hv
     injection hv with hv
     injection hv with _ hv
     simp at hv)]
    exact hv
   refine less_free g 0 cap Bk Bv xs.length _ (fun t => dk[t]!) Ak ck ks ?_ ?_ (fun t ht => ?_) (Kd.C_below hK hbs) i j (by simpa using hi) (by simpa using hj) hs
   ·exact (hbs.cell (World.block_lt_of_cell? w0 _ hk)).trans hk
   ·exact (blk_cell hvs 0).trans rfl
   ·unfold sortWorld
    rw [cell?_grow _ _ _ (by show g < _; simpa using hgl)]
    exact cell?_putRow _ _ g 0 xs.toArray dk (holds_ahead _ _ _ _ _ _ hH) hds t (by simpa [hds] using ht)
  have hS := Any.sort_Slice_sorted Go.Proofs.Try.laysGg6 22 3 siT siE (by kernel_rfl) (by kernel_rfl) (by kernel_rfl) (by kernel_rfl) 2 (fun _ => by kernel_rfl) (by kernel_rfl) (fun _ => by kernel_rfl) (Value.int .i64) (fun _ => rfl) (ltK ks) (swo_ltK ks) 29 #[.pointer (some ⟨Bk, 0, none⟩), .pointer (some ⟨Bv, 0, none⟩)]
   (fun args w => enters_ Try.func29 (by kernel_rfl) rfl args w) g 0 cap xs.toArray (by simpa using hge) (by simpa using hs) 56 (by rw [siK _ (by simpa using hge)]; kernel_rfl) true
   (fun args W => run_callFunc_extern Try.func56 (by kernel_rfl) (by kernel_rfl) (by kernel_rfl) (e := Extern.ReflectliteSwapper.swap true) (by kernel_rfl) args W) w hless hH hgl
  change Calls Try.prog 28 _ _ _ at hS
  refine Calls.mono hS ?_
  rintro e w' ⟨rfl, d', n, os, hP, hSo, rfl⟩
  have hu := sorted_unique_holds (swo_ltK ks) (anti_ltK ks) xs.toArray d' hP hSo
  have hd' : d' = (sortK ks xs).toArray := by
   apply Array.toList_inj.1
   rw [hu]
   rfl
  subst hd'
  have hl := sortK_len ks xs
  refine ⟨rfl, ?_, grownBy_sortedE _⟩
  refine Kd.R_of_own ?_ h.1
  rw [hl]
  exact ⟨by simp [encs, hl], .inr ⟨g, cap, _, rfl, hbase, heap_sortedE _ hbk, h1, h2, by simp [Sort.putCells, h3], by
   rw [Nat.mul_one, ← hl]
   exact take_putCellsE cur (sortK ks xs) (by rw [hl]; omega)⟩⟩

def othS (base : List Int) (ks : List ByteArray) (p : P3) : Option (List Int) := some (p.f0 ++ sortK ks (keptN base (onceS (p.f1 ++ p.f2)) []))
theorem keptN_len (b : List Int) : ∀ (l out : List Int), (keptN b l out).length ≤ out.length + l.length
 | [], out => by simp [keptN]
 | x :: r, out => by
  rw [keptN]
  have := keptN_len b r (if x ∈ b then out else out ++ [x])
  split at this <;> simp at this ⊢ <;> split <;> simp_all <;> omega
set_option maxHeartbeats 16000000 in
set_option maxRecDepth 100000 in
theorem free1_fn (base : List Int) (ks : List ByteArray) (w : World) (Bo bm Bk : Nat) (Ak : Option Addr) (ck : Nat) (ho : w.cell? ⟨Bo, 0, none⟩ = some (.map (some bm))) (hm : MapAt intE w bm (setM base)) (hk : w.cell? ⟨Bk, 0, none⟩ = some (.slice Ak ks.length ck)) (hK : Kd.C Kd.string w Ak ks.length ks) :
  PartFn Try.prog 27 #[.pointer (some ⟨Bo, 0, none⟩), .pointer (some ⟨Bk, 0, none⟩)] w (othS base ks) := by
 intro x p W hsm hbW hp
 obtain ⟨⟨A0, n0, c0⟩, ⟨A1, n1, c1⟩, ⟨A2, n2, c2⟩⟩ := x
 obtain ⟨f0, f1, f2⟩ := p
 obtain ⟨⟨e0, hc0, hr0⟩, ⟨e1, hc1, hr1⟩, ⟨e2, hc2, hr2⟩⟩ := hp
 dsimp only at e0 e1 e2 hc0 hc1 hc2 hr0 hr1 hr2
 subst e0 e1 e2
 obtain ⟨hz0, hz1, hz2⟩ := of_decide_eq_true hsm
 dsimp only at hz0 hz1 hz2
 show Calls Try.prog _ #[.agg #[.slice A0 f0.length c0, .slice A1 f1.length c1, .slice A2 f2.length c2], .pointer (some ⟨Bo, 0, none⟩), .pointer (some ⟨Bk, 0, none⟩)] W fun e W' => ∃ v0 : Value, e = .returned (.tuple #[v0, .bool true]) ∧ SlAt W' v0 (f0 ++ sortK ks (keptN base (onceS (f1 ++ f2)) [])) ∧ Below W.heap.size W W'
 have ho' := (hbW.cell (World.block_lt_of_cell? w _ ho)).trans ho
 have hk' := (hbW.cell (World.block_lt_of_cell? w _ hk)).trans hk
 have HMW := Aside0.mk (hm.below hbW)
 have HKW := Aside0.mk (Kd.C_below hK hbW)
 have HR0 := Aside0.mk hr0
 have HR1 := Aside0.mk hr1
 have HR2 := Aside0.mk hr2
 clear hr0 hr1 hr2 hm hK ho hk hbW hsm w
 have FO := Aside0.mk (show sequence_once.f (f1 ++ f2) = some (onceS (f1 ++ f2)) by rw [sequence_once.f, if_pos (by rw [List.length_append]; omega)])
 have L1 := onceL_len (f1 ++ f2) []
 have L2 := keptN_len base (onceS (f1 ++ f2)) []
 change (onceS (f1 ++ f2)).length ≤ _ at L1
 simp only [List.length_nil, List.length_append, Nat.zero_add] at L1 L2
 obtain ⟨oc, hoc⟩ : ∃ oc, oc = onceS (f1 ++ f2) := ⟨_, rfl⟩
 rw [← hoc] at FO L1 L2 ⊢
 clear hoc
 obtain ⟨rN, hrN⟩ : ∃ rN, keptN base oc [] = rN := ⟨_, rfl⟩
 rw [hrN] at L2 ⊢
 have HRN := Aside0.mk hrN
 clear hrN
 go_enter Try.func27, Try.ntmps27
 go_upto_region 2 with fail
 obtain ⟨W2, hW2⟩ : ∃ W2 : World, W2 = ((W.alloc (Obj.cells #[.slice A0 f0.length c0, .slice A1 f1.length c1, .slice A2 f2.length c2] 39)).alloc (Obj.cells #[.slice none 0 0] 22)) := ⟨_, rfl⟩
 rw [← hW2]
 have hsz : W2.heap.size = W.heap.size + 2 := by rw [hW2]; show ((W.heap.push _).push _).size = _; simp
 have hb2 : Below W.heap.size W W2 := by rw [hW2]; exact below_alloc (below_alloc (Below.refl _ _) _) _
 have hbox : W2.heap[W.heap.size]? = some (.cells #[.slice A0 f0.length c0, .slice A1 f1.length c1, .slice A2 f2.length c2] 39 (0, 0)) := by rw [hW2]; exact blk_alloc (heap_alloc_new _ _) _
 have hvar : W2.heap[W.heap.size + 1]? = some (.cells #[.slice none 0 0] 22 (0, 0)) := by
  rw [hW2]
  have := heap_alloc_new (W.alloc (Obj.cells #[.slice A0 f0.length c0, .slice A1 f1.length c1, .slice A2 f2.length c2] 39)) (Obj.cells #[.slice none 0 0] 22)
  rwa [show (W.alloc (Obj.cells #[.slice A0 f0.length c0, .slice A1 f1.length c1, .slice A2 f2.length c2] 39)).heap.size = W.heap.size + 1 from by show (W.heap.push _).size = _; simp] at this
 clear hW2
 have HB2 := Aside0.mk hb2
 have HBOX := Aside0.mk hbox
 have HVAR := Aside0.mk hvar
 have HSZ := Aside0.mk hsz
 have hlt2 : W.heap.size < W2.heap.size := by omega
 have hx1 : W2.cell? ⟨W.heap.size, 1, none⟩ = some (.slice A1 f1.length c1) := (blk_cell hbox 1).trans rfl
 have hx2 : W2.cell? ⟨W.heap.size, 2, none⟩ = some (.slice A2 f2.length c2) := (blk_cell hbox 2).trans rfl
 have HC1 := Aside0.mk (Kd.C_below HR1.out hb2)
 have HC2 := Aside0.mk (Kd.C_below HR2.out hb2)
 clear hb2 hbox hvar hsz
 have HE0 : Aside0 (Kd.R (Kd.int .i64) 3 (W2.alloc (Obj.cells #[] 3)).drew W2.heap.size (fun _ => True) (.slice (some ⟨W2.heap.size, 0, none⟩) 0 0) []) := ⟨Kd.R_drew (Kd.R_of_own (h1 := fun _ => rfl) (by simpa [encs] using World.ownsRow_lit (base := W2.heap.size) (e := 3) (size := 1) W2 #[] 0 (Nat.le_refl _) (by decide) (by rfl)) (fun _ _ => trivial))⟩
 have HEb : Aside0 (Below W2.heap.size W2 (W2.alloc (Obj.cells #[] 3)).drew) := ⟨pw_below_drewN (below_alloc (Below.refl _ _) _) 1⟩
 have HE1 : Aside0 (Kd.C (Kd.int .i64) (W2.alloc (Obj.cells #[] 3)).drew A1 f1.length f1) := ⟨Kd.C_below HC1.out HEb.out⟩
 go_cut [16, 17, 18] (fun v16 v17 v18 wc => ∃ (A : Option Addr) (c : Nat), v16 = .slice A oc.length c ∧ v17 = .int .i64 oc.length ∧ v18 = .int .i64 0 ∧ Aside0 (Kd.R (Kd.int .i64) 3 wc W2.heap.size (fun _ => True) (.slice A oc.length c) oc) ∧ Aside0 (Below W2.heap.size W2 wc))
 case first =>
  go_region_law (first
   | ((refine Kd.R_append_rows_step (Kd.int .i64) (Rr := fun x cs => cs = [.int .i64 x]) (w0 := W2) W2.heap.size rfl (.tmp 9) (.tmp 11) 22 3 (.int .i64 0) 8 rfl Try.underlying22 info3 rfl (by decide) (by omega) (.slice (some ⟨W2.heap.size, 0, none⟩) 0 0) [] f1 A1 f1.length c1 (fun _ => True) (fun _ => False) rfl rfl HE0.out HE1.out (fun _ _ h => h) (fun _ h => h.elim) (fun _ _ => trivial) HEb.out HEb.out.size (by simp; omega) ?_; intro v12 w12 ho12 hb12 hg12 hat12; simp only [List.nil_append] at ho12; obtain ⟨A12, c12, rfl⟩ := Kd.R_slice ho12; have hx3 := (hb12.cell (p := ⟨W.heap.size, 2, none⟩) hlt2).trans hx2; have HO12 := Aside0.mk ho12; have HB12 := Aside0.mk hb12; clear ho12 hb12 hg12 hat12))
   | ((refine Kd.R_append_rows_step (Kd.int .i64) (Rr := fun x cs => cs = [.int .i64 x]) (w0 := W2) W2.heap.size rfl (.tmp 12) (.tmp 14) 22 3 (.int .i64 0) 8 rfl Try.underlying22 info3 rfl (by decide) (by omega) (.slice A12 f1.length c12) f1 f2 A2 f2.length c2 (fun _ => True) (fun _ => False) rfl rfl HO12.out (Kd.C_below HC2.out HB12.out) (fun _ _ h => h) (fun _ h => h.elim) (fun _ _ => trivial) HB12.out HB12.out.size (by omega) ?_; intro v15 w15 ho15 hb15 hg15 hat15; obtain ⟨A15, c15, rfl⟩ := Kd.R_slice ho15; simp only [List.length_append] at ho15; have HC15 := Aside0.mk (Kd.R_reads' ho15); have HB15 := Aside0.mk hb15; clear ho15 hb15 hg15 hat15))
   | (go_simp; go_at_call 25; refine (once_two A15 c15 f1 f2 (f1.length + f2.length) (by simp) oc _ (by have h8 := HC15.out; exact h8.1 ▸ h8.2.2) HC15.out.2.1 FO.out).mono ?_; rintro e w16 ⟨v16, rfl, hr16, hb16⟩; obtain ⟨A16, c16, rfl⟩ := Kd.R_slice hr16; have HO16 := Aside0.mk (Kd.R_lower hr16 HB15.out.size); have HB16 := Aside0.mk (HB15.out.trans (hb16.mono HB15.out.size)); clear hr16 hb16))
  all_goals (go_wp2; go_meet; exact ⟨A16, c16, rfl, rfl, rfl, HO16, HB16⟩)
 case rest =>
  obtain ⟨Aq, cq, rfl, rfl, rfl, HOC, HBC⟩ := hcut
  clear hx1 hx2 HE0 HEb HE1 HC1 HC2
  have HVC := Aside0.mk (blk_below HVAR.out HBC.out)
  have HXC := Aside0.mk (blk_below HBOX.out HBC.out)
  have HBW := Aside0.mk (HB2.out.trans (HBC.out.mono HB2.out.size))
  have HOC' := Aside0.mk (Kd.R_mono (Kd.R_bound HOC.out) (ok' := fun k => W2.heap.size ≤ k ∧ k < wc.heap.size) (fun k hk => ⟨hk.2.1, hk.2.2.1⟩))
  have HSC : Aside0 (W2.heap.size ≤ wc.heap.size) := ⟨HBC.out.size⟩
  go_wp2
  go_loopg [18] oc.length (fun gk v18 w' => ∃ (kk : Nat) (vm : SV) (out : List Int), v18 = .int .i64 kk ∧ kk + gk = oc.length ∧ out.length ≤ kk ∧ Aside0 (keptN base (oc.drop kk) out = rN) ∧ Aside0 (w'.heap[W.heap.size + 1]? = some (.cells #[.slice vm.A vm.n vm.c] 22 (0, 0))) ∧ Aside0 (w'.heap[W.heap.size]? = some (.cells #[.slice A0 f0.length c0, .slice A1 f1.length c1, .slice A2 f2.length c2] 39 (0, 0))) ∧ Aside0 (Kd.R (Kd.int .i64) 3 w' wc.heap.size (fun _ => True) (.slice vm.A vm.n vm.c) out) ∧ Aside0 (Kd.R (Kd.int .i64) 3 w' W2.heap.size (fun k => W2.heap.size ≤ k ∧ k < wc.heap.size) (.slice Aq oc.length cq) oc) ∧ Aside0 (Below W.heap.size W w') ∧ Aside0 (wc.heap.size ≤ w'.heap.size))
  case atStart =>
   refine ⟨0, SV.z, [], rfl, by omega, by simp, ⟨?_⟩, ⟨?_⟩, ⟨?_⟩, ⟨?_⟩, ⟨?_⟩, ⟨?_⟩, ⟨?_⟩⟩
   ·exact HRN.out
   ·exact HVC.out
   ·exact HXC.out
   ·exact Kd.R_nil _ _ _ _ _
   ·exact HOC'.out
   ·exact HBW.out
   ·exact Nat.le_refl _
  case round =>
   obtain ⟨kk, ⟨vA, vn, vc⟩, out, rfl, hk2, hout2, HL, HV, HX, HO, HQ, HB, HS⟩ := hrel
   dsimp only at HV HO
   obtain ⟨go2, rfl⟩ : ∃ go, go = gk := ⟨gk, rfl⟩
   have HK := Aside0.mk hk2
   have hvn : vn = out.length := by
    obtain ⟨A', c', e'⟩ := Kd.R_slice HO.out
    injection e'
   subst hvn
   cases go2 with
   | succ g =>
    have h1 : decide ((kk : Int) < (oc.length : Int)) = true := decide_eq_true (by omega)
    have h2 : decide (kk < oc.length) = true := decide_eq_true (by omega)
    have p12 : 0 ≤ (kk : Int) := by omega
    have q12 : (kk : Int) < (oc.length : Int) := by omega
    obtain ⟨ad, e, hx⟩ := Kd.at_int (Kd.R_reads' HQ.out).2.2 (kk : Int) p12 q12
    cases e
    rw [Int.toNat_natCast] at hx
    have hk9 : kk < oc.length := by omega
    have hd : oc.drop kk = rd oc (kk : Int) :: oc.drop (kk + 1) := by
     rw [List.drop_eq_getElem_cons hk9]
     unfold rd
     simp [List.getD_eq_getElem?_getD, List.getElem?_eq_getElem hk9]
    obtain ⟨x, hxe⟩ : ∃ x, x = rd oc (kk : Int) := ⟨_, rfl⟩
    rw [← hxe] at hx hd
    have HL4 := Aside0.mk (show keptN base (oc.drop (kk + 1)) (if x ∈ base then out else out ++ [x]) = rN by have := HL.out; rw [hd, keptN] at this; exact this)
    clear hd hxe HL hk2
    have HG1 := Aside0.mk (setM_get base x)
    have ho2 := (HB.out.cell (World.block_lt_of_cell? W _ ho')).trans ho'
    have hv2 : wr.cell? ⟨W.heap.size + 1, 0, none⟩ = some (.slice vA out.length vc) := (blk_cell HV.out 0).trans rfl
    by_cases hin1 : x ∈ base
    ·rw [if_pos hin1] at HL4
     rw [decide_eq_true hin1] at HG1
     clear hin1
     go_wp2_with (first | (with_reducible refine wpList_lookup (z := .bool false) rfl (.tmp 22) _ rfl (KeyOk.int Try.underlying3) Try.underlying41 (by kernel_rfl) rfl (HMW.out.below HB.out) x rfl ?_; rw [HG1.out]))
     go_roundg g
     case measure => omega
     case rel => exact ⟨kk + 1, ⟨vA, out.length, vc⟩, out, by go_num, by have := HK.out; omega, by omega, HL4, HV, HX, HO, HQ, HB, HS⟩
    ·rw [if_neg hin1] at HL4
     rw [decide_eq_false hin1] at HG1
     clear hin1
     have hb44 : out.length < 17592186044416 := by omega
     go_wp2_with (first | (with_reducible refine wpList_lookup (z := .bool false) rfl (.tmp 22) _ rfl (KeyOk.int Try.underlying3) Try.underlying41 (by kernel_rfl) rfl (HMW.out.below HB.out) x rfl ?_; rw [HG1.out]) | ((with_reducible refine gate_builtin (b := .append) (xs := #[.tmp 26, .tmp 28]) rfl ?_); at_builtin; (refine Kd.R_append (Kd.int .i64) (w0 := wr) wc.heap.size rfl (.tmp 26) (.tmp 28) 22 3 (.int .i64 0) 8 rfl Try.underlying22 info3 rfl (by decide) (by omega) (.slice vA out.length vc) out x [.int .i64 x] (fun _ => True) (fun _ => False) rfl rfl ?aP (fun _ hk => hk.elim) ?aF ?aO ?aB ?aS ?aL ?_; (case aP => exact rfl); (case aF => exact (fun _ _ => trivial)); (case aO => exact HO.out); (case aB => exact (Below.refl _ _)); (case aS => exact HS.out); (case aL => omega); intro v9 w9 ho9 hb9 hg9 hat9; obtain ⟨A9, c9, rfl⟩ := Kd.R_slice ho9; have HO9 := Aside0.mk ho9; have HB9 := Aside0.mk hb9; have HG9 := Aside0.mk hg9; have hv9 : w9.heap[W.heap.size + 1]? = some (.cells #[.slice vA out.length vc] 22 (0, 0)) := (hb9.block _ (by have := HSZ.out; have := HSC.out; omega)).trans HV.out; have HV9 := Aside0.mk hv9; have hc9 : w9.cell? ⟨W.heap.size + 1, 0, none⟩ = some (.slice vA out.length vc) := (blk_cell hv9 0).trans rfl; have hf9 := blk_frozen hv9 0; clear ho9 hb9 hg9 hat9 hv9)))
     go_roundg g
     case measure => omega
     case rel =>
      have hlt3 : W.heap.size + 1 < wc.heap.size := by have := HSZ.out; have := HSC.out; omega
      have ho9 : Kd.R (Kd.int .i64) 3 w9 wc.heap.size (fun _ => True) (.slice A9 (out.length + 1) c9) (out ++ [x]) := by simpa using HO9.out
      have hq9 := Kd.R_grown HQ.out HG9.out (fun k hk he => by have := Kd.R_base HO.out k he.symm; omega)
      have hb9 := HB.out.grown HG9.out HB.out.size (fun j hj => by have := Kd.R_base HO.out j hj; omega)
      refine ⟨kk + 1, ⟨A9, out.length + 1, c9⟩, out ++ [x], by go_num, by have := HK.out; omega, by simp; omega, HL4, ⟨?_⟩, ⟨?_⟩, ⟨?_⟩, ⟨?_⟩, ⟨?_⟩, ⟨?_⟩⟩
      ·exact blk_put (cs := #[.slice vA out.length vc]) HV9.out 0 _ rfl
      ·rw [Below.heap_setCell _ _ _ _ (by simp)]
       exact (HB9.out.block _ (by omega)).trans HX.out
      ·exact Kd.R_mono (Kd.R_far (p := ⟨W.heap.size + 1, 0, none⟩) (Kd.R_bound ho9) (fun k hk => by have := hk.2.1; show k ≠ W.heap.size + 1; omega) _) (fun _ hk => hk.1)
      ·exact Kd.R_far (p := ⟨W.heap.size + 1, 0, none⟩) hq9 (fun k hk => by have := hk.1; have := HSZ.out; show k ≠ W.heap.size + 1; omega) _
      ·exact below_set hb9 (by show W.heap.size ≤ W.heap.size + 1; omega)
      ·have := HB9.out.size
       have := HS.out
       simp
       omega
   | zero =>
    have h1 : decide ((kk : Int) < (oc.length : Int)) = false := decide_eq_false (by omega)
    have h2 : decide (kk < oc.length) = false := decide_eq_false (by omega)
    have HE := Aside0.mk (show out = rN by have := HL.out; rw [List.drop_of_length_le (by omega), keptN] at this; exact this)
    have hol : out.length ≤ 8000000 := by omega
    have hv2 : wr.cell? ⟨W.heap.size + 1, 0, none⟩ = some (.slice vA out.length vc) := (blk_cell HV.out 0).trans rfl
    have hlt3 : W.heap.size + 1 < wc.heap.size := by have := HSZ.out; have := HSC.out; omega
    have hlt5 := Aside0.mk hlt3
    clear hlt3 hk2 HL
    go_wp2_with (first
     | (go_at_call 28; ((with_reducible refine (free_sort wc.heap.size (fun _ => True) (.slice vA out.length vc) out W wr Bk (W.heap.size + 1) Ak ck ks HO.out (by omega) HB.out (by have := hlt5.out; omega) hk' HKW.out HV.out).mono ?_); rintro e w3 ⟨rfl, hr3, hg3⟩; have HS3 := Aside0.mk hr3; have HG3 := Aside0.mk hg3; clear hr3 hg3)))
    have hlt3 := hlt5.out
    have hb3 : Below W.heap.size W w3 := HB.out.grown HG3.out HB.out.size (fun j hj => by have := Kd.R_base HO.out j hj; omega)
    have hv3 : w3.heap[W.heap.size + 1]? = some (.cells #[.slice vA out.length vc] 22 (0, 0)) := (HG3.out.block _ (by have := HS.out; omega) (fun he => by have := Kd.R_base HO.out _ he.symm; omega)).trans HV.out
    have hx3 : w3.heap[W.heap.size]? = some (.cells #[.slice A0 f0.length c0, .slice A1 f1.length c1, .slice A2 f2.length c2] 39 (0, 0)) := (HG3.out.block _ (by have := HS.out; omega) (fun he => by have := Kd.R_base HO.out _ he.symm; omega)).trans HX.out
    have hltv : W.heap.size + 1 < w3.heap.size := (Array.getElem?_eq_some_iff.1 hv3).1
    have hltx : W.heap.size < w3.heap.size := by omega
    have hsl : (sortK ks out).length = out.length := sortK_len ks out
    have hc3 : Kd.C (Kd.int .i64) w3 vA out.length (sortK ks out) := by have h8 := Kd.R_reads' HS3.out; rw [hsl] at h8; exact h8.2.2
    have hse : sortK ks out = sortK ks rN := by rw [HE.out]
    rw [hse] at hsl hc3
    clear hse
    have HC3 := Aside0.mk hc3
    have HSL := Aside0.mk hsl
    have HB3 := Aside0.mk hb3
    have HVX := Aside0.mk hv3
    have hcx : w3.cell? ⟨W.heap.size, 0, none⟩ = some (.slice A0 f0.length c0) := (blk_cell hx3 0).trans rfl
    have hcv : w3.cell? ⟨W.heap.size + 1, 0, none⟩ = some (.slice vA out.length vc) := (blk_cell hv3 0).trans rfl
    have HCX := Aside0.mk hcv
    clear hv3 hx3 hb3 hsl hc3 hlt3 hv2
    have HE0 : Aside0 (Kd.R (Kd.int .i64) 3 (w3.alloc (Obj.cells #[] 3)).drew w3.heap.size (fun _ => True) (.slice (some ⟨w3.heap.size, 0, none⟩) 0 0) []) := ⟨Kd.R_drew (Kd.R_of_own (h1 := fun _ => rfl) (by simpa [encs] using World.ownsRow_lit (base := w3.heap.size) (e := 3) (size := 1) w3 #[] 0 (Nat.le_refl _) (by decide) (by rfl)) (fun _ _ => trivial))⟩
    have HEb : Aside0 (Below w3.heap.size w3 (w3.alloc (Obj.cells #[] 3)).drew) := ⟨pw_below_drewN (below_alloc (Below.refl _ _) _) 1⟩
    have HE1 : Aside0 (Kd.C (Kd.int .i64) (w3.alloc (Obj.cells #[] 3)).drew A0 f0.length f0) := ⟨Kd.C_below (Kd.C_below HR0.out HB3.out) HEb.out⟩
    go_wp2
    go_region_law (first
     | ((refine Kd.R_append_rows_step (Kd.int .i64) (Rr := fun x cs => cs = [.int .i64 x]) (w0 := w3) w3.heap.size rfl (.tmp 35) (.tmp 37) 22 3 (.int .i64 0) 8 rfl Try.underlying22 info3 rfl (by decide) (by omega) (.slice (some ⟨w3.heap.size, 0, none⟩) 0 0) [] f0 A0 f0.length c0 (fun _ => True) (fun _ => False) rfl rfl HE0.out HE1.out (fun _ _ h => h) (fun _ h => h.elim) (fun _ _ => trivial) HEb.out HEb.out.size (by simp; omega) ?_; intro v38 w38 ho38 hb38 hg38 hat38; simp only [List.nil_append] at ho38; obtain ⟨A38, c38, rfl⟩ := Kd.R_slice ho38; have hx38 := (hb38.cell (p := ⟨W.heap.size + 1, 0, none⟩) hltv).trans hcv; have HO38 := Aside0.mk ho38; have HB38 := Aside0.mk hb38; clear ho38 hb38 hg38 hat38))
     | ((refine Kd.R_append_rows_step (Kd.int .i64) (Rr := fun x cs => cs = [.int .i64 x]) (w0 := w3) w3.heap.size rfl (.tmp 38) (.tmp 39) 22 3 (.int .i64 0) 8 rfl Try.underlying22 info3 rfl (by decide) (by omega) (.slice A38 f0.length c38) f0 (sortK ks rN) vA out.length vc (fun _ => True) (fun _ => False) rfl rfl HO38.out (Kd.C_below HC3.out HB38.out) (fun _ _ h => h) (fun _ h => h.elim) (fun _ _ => trivial) HB38.out HB38.out.size (by omega) ?_; intro v40 w40 ho40 hb40 hg40 hat40; obtain ⟨A40, c40, rfl⟩ := Kd.R_slice ho40; simp only [List.length_append] at ho40; have HO40 := Aside0.mk (Kd.R_reads' ho40); have HB40 := Aside0.mk hb40; clear ho40 hb40 hg40 hat40)))
    all_goals
     go_wp2
     go_ret2
     exact ⟨_, rfl, ⟨⟨A40, f0.length + (sortK ks rN).length, c40⟩, rfl, HO40.out.1, HO40.out.2.1, by rw [HO40.out.1]; exact HO40.out.2.2⟩, HB3.out.trans (HB40.out.mono HB3.out.size)⟩

def sequence_Free.f (k : Nat) (l0 l1 l2 : List Int) (l3 : List ByteArray) : Option (List Int × Bool) :=
 (sequence_Merge.f k l0 l1 l2).bind fun m => if m.2 = true then some (m.1, true) else
  (joinF k (othS l0 l3) l0 l1 l2).bind fun d => if d.1.length ≤ 2000000000 then some (keptN (onceS d.1) (sortI (keptS l0 l1 l2)) (onceS d.1), false) else none
theorem sequence_Free.mono : ∀ a0 a1 a2 a3 k, LeO (sequence_Free.f k a0 a1 a2 a3) (sequence_Free.f (k + 1) a0 a1 a2 a3) := fun _ _ _ _ _ => LeO.bind (sequence_Merge.mono _ _ _ _) fun _ => LeO.ite (LeO.refl _) (LeO.bind (joinF.mono _ _ _ _ _) fun _ => LeO.refl _)
theorem keptS_len (a b c : List Int) : (keptS a b c).length ≤ a.length + (b.length + c.length) := by
 have A : ∀ (l out : List Int), (keptA b c l out).length ≤ out.length + l.length := by
  intro l
  induction l with
  | nil => intro out; simp [keptA]
  | cons x r ih =>
   intro out
   rw [keptA]
   by_cases hx : x ∈ b ∧ x ∈ c
   ·rw [if_pos hx]
    have := ih (out ++ [x])
    simp at this ⊢
    omega
   ·rw [if_neg hx]
    have := ih out
    simp
    omega
 have h1 := A (onceS a) []
 have h2 := onceL_len a []
 have h3 := keptN_len a (onceS (b ++ c)) []
 have h4 := onceL_len (b ++ c) []
 change (onceS a).length ≤ _ at h2
 change (onceS (b ++ c)).length ≤ _ at h4
 simp only [List.length_nil, Nat.zero_add, List.length_append] at *
 unfold keptS
 rw [List.length_append, sortI_len]
 omega
theorem enters_free1 : ∀ args w, (callFunc 27 args).run Try.prog w = .ok (.enter 27 args) w := fun args w => enters_ Try.func27 (by kernel_rfl) rfl args w
/-- The second join. -/
theorem free_join {k : Nat} {A0 A1 A2 A3 : Option Addr} {c0 c1 c2 c3 : Nat} {l0 l1 l2 : List Int} {l3 : List ByteArray} {jo : List Int} {jb : Bool} {w w2 : World} {b1 : Nat} (hj : joinF k (othS l0 l3) l0 l1 l2 = some (jo, jb))
  (hr0 : Kd.C (Kd.int .i64) w A0 l0.length l0) (hc0 : l0.length ≤ c0) (hr1 : Kd.C (Kd.int .i64) w A1 l1.length l1) (hc1 : l1.length ≤ c1) (hr2 : Kd.C (Kd.int .i64) w A2 l2.length l2) (hc2 : l2.length ≤ c2) (hr3 : Kd.C Kd.string w A3 l3.length l3)
  (hb : Below w.heap.size w w2) (hm : MapAt intE w2 b1 (setM l0)) (hk : w2.heap[w.heap.size]? = some (.cells #[.slice A3 l3.length c3] 23 (0, 0))) :
  Calls Try.prog 23 #[.slice A0 l0.length c0, .slice A1 l1.length c1, .slice A2 l2.length c2, .func (.func 27) #[] #[.pointer (some ⟨w2.heap.size, 0, none⟩), .pointer (some ⟨w.heap.size, 0, none⟩)]] (w2.alloc (Obj.cells #[.map (some b1)] 41)) fun e w' => ∃ v0_ : Value, e = .returned (.tuple #[v0_, .bool jb]) ∧ Kd.R (Kd.int .i64) 3 w' (w2.alloc (Obj.cells #[.map (some b1)] 41)).heap.size (fun _ => True) v0_ jo ∧ Below (w2.alloc (Obj.cells #[.map (some b1)] 41)).heap.size (w2.alloc (Obj.cells #[.map (some b1)] 41)) w' := by
 have hba : Below w2.heap.size w2 (w2.alloc (Obj.cells #[.map (some b1)] 41)) := below_alloc (Below.refl _ _) _
 have hbb := hb.trans (hba.mono hb.size)
 refine sequence_join_calls k (othS l0 l3) 27 _ enters_free1 A0 c0 l0 A1 c1 l1 A2 c2 l2 jo jb _ (Kd.C_below hr0 hbb) hc0 (Kd.C_below hr1 hbb) hc1 (Kd.C_below hr2 hbb) hc2 ?_ hj
 exact free1_fn l0 l3 _ w2.heap.size b1 w.heap.size A3 c3 ((blk_cell (heap_alloc_new w2 _) 0).trans rfl) (hm.below hba) ((blk_cell (blk_below hk hba) 0).trans rfl) (Kd.C_below hr3 hbb)
set_option maxHeartbeats 16000000 in
set_option maxRecDepth 100000 in
theorem sequence_Free.calls (k : Nat) (A0 : Option Addr) (c0 : Nat) (l0 : List Int) (A1 : Option Addr) (c1 : Nat) (l1 : List Int) (A2 : Option Addr) (c2 : Nat) (l2 : List Int) (A3 : Option Addr) (c3 : Nat) (l3 : List ByteArray) (r1 : List Int) (r2 : Bool) (w : World) (hr0 : Kd.C (Kd.int .i64) w A0 l0.length l0) (hc0 : l0.length ≤ c0) (hr1 : Kd.C (Kd.int .i64) w A1 l1.length l1) (hc1 : l1.length ≤ c1) (hr2 : Kd.C (Kd.int .i64) w A2 l2.length l2) (hc2 : l2.length ≤ c2) (hr3 : Kd.C Kd.string w A3 l3.length l3) (hc3 : l3.length ≤ c3) (h : sequence_Free.f k l0 l1 l2 l3 = some (r1, r2)) :
  Calls Try.prog 14 #[.slice A0 l0.length c0, .slice A1 l1.length c1, .slice A2 l2.length c2, .slice A3 l3.length c3] w fun e w' => ∃ v0_ : Value, e = .returned (.tuple #[v0_, .bool r2]) ∧ Kd.R (Kd.int .i64) 3 w' w.heap.size (fun _ => True) v0_ r1 ∧ Below w.heap.size w w' := by
 have HR0 := Aside0.mk hr0
 have HC0 := Aside0.mk hc0
 have HR1 := Aside0.mk hr1
 have HC1 := Aside0.mk hc1
 have HR2 := Aside0.mk hr2
 have HC2 := Aside0.mk hc2
 have HR3 := Aside0.mk hr3
 have HC3 := Aside0.mk hc3
 clear hr0 hc0 hr1 hc1 hr2 hc2 hr3 hc3
 unfold sequence_Free.f at h
 obtain ⟨⟨m1, ok⟩, hm, h⟩ := Option.bind_eq_some_iff.1 h
 have HMG := Aside0.mk hm
 dsimp only at h
 -- the world behind the box
 obtain ⟨wx, hwx⟩ : ∃ wx : World, wx = w.alloc (Obj.cells #[.slice A3 l3.length c3] 23) := ⟨_, rfl⟩
 have hbx : Below w.heap.size w wx := by rw [hwx]; exact below_alloc (Below.refl _ _) _
 have hkx : wx.heap[w.heap.size]? = some (.cells #[.slice A3 l3.length c3] 23 (0, 0)) := by rw [hwx]; exact heap_alloc_new _ _
 have HBX := Aside0.mk hbx
 have HKX := Aside0.mk hkx
 have HJ := sequence_Merge.calls k A0 c0 l0 A1 c1 l1 A2 c2 l2 m1 ok wx (Kd.C_below HR0.out hbx) HC0.out (Kd.C_below HR1.out hbx) HC1.out (Kd.C_below HR2.out hbx) HC2.out hm
 rw [hwx] at HJ
 have HJ := Aside0.mk HJ
 rw [hwx] at HBX HKX
 clear hm hwx hbx hkx wx
 cases ok with
 | true =>
  rw [if_pos rfl] at h
  injection h with h
  injection h with e1 e2
  subst e1 e2
  go_enter Try.func14, Try.ntmps14
  go_wp2_with (first | (go_at_call 13; ((with_reducible refine HJ.out.mono ?_); rintro e w1 ⟨v1, rfl, hr1, hb1⟩; have HRr := Aside0.mk hr1; have HB1 := Aside0.mk (HBX.out.trans (hb1.mono HBX.out.size)); clear hr1 hb1)))
  go_ret2
  exact ⟨_, rfl, Kd.R_lower HRr.out HBX.out.size, HB1.out⟩
 | false =>
  rw [if_neg (by simp)] at h
  obtain ⟨⟨jo, jb⟩, hj, h⟩ := Option.bind_eq_some_iff.1 h
  dsimp only at h
  obtain ⟨hs0, hs1, hs2⟩ := join_small hj
  have HJN := Aside0.mk hj
  have hol : jo.length ≤ 2000000000 := by
   apply Classical.byContradiction
   intro c
   rw [if_neg c] at h
   cases h
  rw [if_pos hol] at h
  injection h with h
  injection h with e1 e2
  subst e2
  have FK := Aside0.mk (show sequence_Kept.f l0 l1 l2 = some (keptS l0 l1 l2) by rw [sequence_Kept.f, if_pos ⟨hs0, hs1, hs2⟩])
  have hkl := keptS_len l0 l1 l2
  obtain ⟨kp, hkp⟩ : ∃ kp, kp = keptS l0 l1 l2 := ⟨_, rfl⟩
  rw [← hkp] at e1 FK hkl
  clear hkp
  have FO := Aside0.mk (show sequence_once.f jo = some (onceS jo) by rw [sequence_once.f, if_pos (by omega)])
  have hool := onceL_len jo []
  change (onceS jo).length ≤ _ at hool
  simp only [List.length_nil, Nat.zero_add] at hool
  obtain ⟨oo, hoo⟩ : ∃ o, o = onceS jo := ⟨_, rfl⟩
  rw [← hoo] at e1 FO hool
  clear hoo hj
  have HE := Aside0.mk e1
  clear e1
  go_enter Try.func14, Try.ntmps14
  go_wp2_with (first
   | (go_at_call 13; ((with_reducible refine HJ.out.mono ?_); rintro e w1 ⟨v1, rfl, hr1, hb1⟩; have HB1 := Aside0.mk (HBX.out.trans (hb1.mono HBX.out.size)); have HK1 := Aside0.mk (blk_below HKX.out hb1); have HR01 := Aside0.mk (Kd.C_below HR0.out HB1.out); clear hr1 hb1))
   | (go_at_call 26; ((with_reducible refine (sequence_members.calls A0 c0 l0 _ HR01.out).mono ?_); rintro e w2 ⟨rfl, hm2, hb2⟩; have HM2 := Aside0.mk hm2; have HB2 := Aside0.mk (HB1.out.trans (hb2.mono HB1.out.size)); have HK2 := Aside0.mk (blk_below HK1.out hb2); have HJ2 := Aside0.mk (free_join HJN.out HR0.out HC0.out HR1.out HC1.out HR2.out HC2.out HR3.out HB2.out HM2.out HK2.out); clear hm2 hb2))
   | (go_at_call 23; ((with_reducible refine HJ2.out.mono ?_); rintro e w3 ⟨v3, rfl, hr3, hb3⟩; obtain ⟨A33, c33, rfl⟩ := Kd.R_slice hr3; have HJC := Aside0.mk (Kd.R_reads' hr3); have HB3 := Aside0.mk (HB2.out.trans (((below_alloc (Below.refl w2.heap.size w2) _).trans (hb3.mono (by simp))).mono HB2.out.size)); clear hr3 hb3))
   | (go_at_call 25; ((with_reducible refine (sequence_once.calls A33 c33 jo oo _ HJC.out.2.2 HJC.out.2.1 FO.out).mono ?_); rintro e w4 ⟨v4, rfl, hr4, hb4⟩; obtain ⟨A4, c4, rfl⟩ := Kd.R_slice hr4; have HO4 := Aside0.mk hr4; have HO4c := Aside0.mk (Kd.R_reads' hr4).2.2; have HB4 := Aside0.mk (HB3.out.trans (hb4.mono HB3.out.size)); have HZ4 := Aside0.mk hb4.size; clear hr4 hb4))
   | (go_at_call 26; ((with_reducible refine (sequence_members.calls A4 c4 oo _ HO4c.out).mono ?_); rintro e w5 ⟨rfl, hm5, hb5⟩; have HM5 := Aside0.mk hm5; have HO5 := Aside0.mk (Kd.R_below HO4.out hb5); have HB5 := Aside0.mk (HB4.out.trans (hb5.mono HB4.out.size)); have HR05 := Aside0.mk (Kd.C_below HR0.out HB5.out); have HR15 := Aside0.mk (Kd.C_below HR1.out HB5.out); have HR25 := Aside0.mk (Kd.C_below HR2.out HB5.out); have HZ5 := Aside0.mk hb5.size; have HM5s : Aside0 (w4.heap.size < w5.heap.size) := ⟨HM5.out.lt⟩; clear hm5 hb5))
   | (go_at_call 20; ((with_reducible refine (sequence_Kept.calls A0 c0 l0 A1 c1 l1 A2 c2 l2 kp _ HR05.out HC0.out HR15.out HC1.out HR25.out HC2.out FK.out).mono ?_); rintro e w6 ⟨v6, rfl, hr6, hb6⟩; obtain ⟨A6, c6, rfl⟩ := Kd.R_slice hr6; have HO6 := Aside0.mk hr6; have HB6 := Aside0.mk (HB5.out.trans (hb6.mono HB5.out.size)); have HB56 := Aside0.mk hb6; clear hr6 hb6))
   | (go_at_call 31; ((with_reducible refine (sort_ints_own w5.heap.size (fun _ => True) _ kp _ HO6.out (by omega)).mono ?_); rintro e w7 ⟨rfl, hso, hsg⟩; have HB57 := Aside0.mk (HB56.out.grown hsg HB56.out.size (fun j hj => Kd.R_base HO6.out j hj)); have HA7 := Aside0.mk hso; clear hso hsg)))
  have hsl : (sortI kp).length = kp.length := sortI_len kp
  obtain ⟨al, hal⟩ : ∃ al, al = sortI kp := ⟨_, rfl⟩
  rw [← hal] at hsl
  have HA8 := HA7.out
  have HE8 := HE.out
  rw [← hal] at HA8 HE8
  have HRN := Aside0.mk HE8
  have HSL := Aside0.mk hsl
  have HA := Aside0.mk (Kd.R_mono (Kd.R_bound HA8) (ok' := fun k => w5.heap.size ≤ k ∧ k < w7.heap.size) (fun k hk => ⟨hk.2.1, hk.2.2.1⟩))
  have HO := Aside0.mk (Kd.R_mono (Kd.R_below (Kd.R_bound HO5.out) HB57.out) (ok' := fun k => k < w5.heap.size ∨ w7.heap.size ≤ k) (fun k hk => .inl hk.2.2.1))
  have HM7 := Aside0.mk (HM5.out.below HB57.out)
  have HB7 := Aside0.mk (HB5.out.trans (HB57.out.mono HB5.out.size))
  have hw3 : w3.heap.size ≤ w7.heap.size := by have := HZ4.out; have := HM5s.out; have := HB57.out.size; omega
  have HW3 := Aside0.mk hw3
  clear HA8 HE8 hal hsl hw3 HE
  go_loopg [13, 50] kp.length (fun gk v13 v50 w' => ∃ (kk : Nat) (out : List Int), v50 = .int .i64 kk ∧ kk + gk = kp.length ∧ out.length ≤ oo.length + kk ∧ Aside0 (keptN oo (al.drop kk) out = r1) ∧ Aside0 (Kd.R (Kd.int .i64) 3 w' w3.heap.size (fun k => k < w5.heap.size ∨ w7.heap.size ≤ k) v13 out) ∧ Aside0 (Kd.R (Kd.int .i64) 3 w' w5.heap.size (fun k => w5.heap.size ≤ k ∧ k < w7.heap.size) (.slice A6 kp.length c6) al) ∧ Aside0 (MapAt intE w' w4.heap.size (setM oo)) ∧ Aside0 (Below w.heap.size w w') ∧ Aside0 (w7.heap.size ≤ w'.heap.size))
  case atStart =>
   refine ⟨0, oo, rfl, by omega, by omega, ⟨?_⟩, ⟨?_⟩, ⟨?_⟩, ⟨?_⟩, ⟨?_⟩, ⟨?_⟩⟩
   ·exact HRN.out
   ·exact HO.out
   ·exact HA.out
   ·exact HM7.out
   ·exact HB7.out
   ·exact Nat.le_refl _
  case round =>
   obtain ⟨kk, out, rfl, hk2, hout2, HL, HOr, HAr, HMr, HBr, HSr⟩ := hrel
   obtain ⟨go2, rfl⟩ : ∃ go, go = gk := ⟨gk, rfl⟩
   have HK := Aside0.mk hk2
   cases go2 with
   | succ g =>
    have h1 : decide ((kk : Int) < (kp.length : Int)) = true := decide_eq_true (by omega)
    have h2 : decide (kk < kp.length) = true := decide_eq_true (by omega)
    have p12 : 0 ≤ (kk : Int) := by omega
    have q12 : (kk : Int) < (kp.length : Int) := by omega
    have hcal : Kd.C (Kd.int .i64) wr A6 kp.length al := by have h8 := Kd.R_reads' HAr.out; rw [HSL.out] at h8; exact h8.2.2
    obtain ⟨ad, e, hx⟩ := Kd.at_int hcal (kk : Int) p12 q12
    cases e
    rw [Int.toNat_natCast] at hx
    have hk9 : kk < al.length := by rw [HSL.out]; omega
    have hd : al.drop kk = rd al (kk : Int) :: al.drop (kk + 1) := by
     rw [List.drop_eq_getElem_cons hk9]
     unfold rd
     simp [List.getD_eq_getElem?_getD, List.getElem?_eq_getElem hk9]
    obtain ⟨x, hxe⟩ : ∃ x, x = rd al (kk : Int) := ⟨_, rfl⟩
    rw [← hxe] at hx hd
    have HL4 := Aside0.mk (show keptN oo (al.drop (kk + 1)) (if x ∈ oo then out else out ++ [x]) = r1 by have := HL.out; rw [hd, keptN] at this; exact this)
    clear hd hxe HL hk2 hcal hk9
    have HG1 := Aside0.mk (setM_get oo x)
    by_cases hin1 : x ∈ oo
    ·rw [if_pos hin1] at HL4
     rw [decide_eq_true hin1] at HG1
     clear hin1
     go_wp2_with (first | (with_reducible refine wpList_lookup (z := .bool false) rfl (.tmp 54) _ rfl (KeyOk.int Try.underlying3) Try.underlying41 (by kernel_rfl) rfl HMr.out x rfl ?_; rw [HG1.out]))
     go_roundg g
     case measure => omega
     case rel => exact ⟨kk + 1, out, by go_num, by have := HK.out; omega, by omega, HL4, HOr, HAr, HMr, HBr, HSr⟩
    ·rw [if_neg hin1] at HL4
     rw [decide_eq_false hin1] at HG1
     clear hin1
     obtain ⟨Ao, co, eo⟩ := Kd.R_slice HOr.out
     subst eo
     have hb44 : out.length < 17592186044416 := by have := HK.out; omega
     go_wp2_with (first | (with_reducible refine wpList_lookup (z := .bool false) rfl (.tmp 54) _ rfl (KeyOk.int Try.underlying3) Try.underlying41 (by kernel_rfl) rfl HMr.out x rfl ?_; rw [HG1.out]) | ((with_reducible refine gate_builtin (b := .append) (xs := #[.tmp 58, .tmp 60]) rfl ?_); at_builtin; (refine Kd.R_append (Kd.int .i64) (w0 := wr) w3.heap.size rfl (.tmp 58) (.tmp 60) 22 3 (.int .i64 0) 8 rfl Try.underlying22 info3 rfl (by decide) (by omega) (.slice Ao out.length co) out x [.int .i64 x] (fun k => k < w5.heap.size ∨ w7.heap.size ≤ k) (fun _ => False) rfl rfl ?aP (fun _ hk => hk.elim) ?aF ?aO ?aB ?aS ?aL ?_; (case aP => exact rfl); (case aF => exact (fun k hk => .inr (Nat.le_trans HSr.out hk))); (case aO => exact HOr.out); (case aB => exact (Below.refl _ _)); (case aS => exact (Nat.le_trans HW3.out HSr.out)); (case aL => omega); intro v9 w9 ho9 hb9 hg9 hat9; have HO9 := Aside0.mk ho9; have HG9 := Aside0.mk hg9; have HM9 := Aside0.mk (MapAt.row HMr.out HOr.out hg9); clear ho9 hb9 hg9 hat9)))
     go_roundg g
     case measure => omega
     case rel =>
      refine ⟨kk + 1, out ++ [x], by go_num, by have := HK.out; omega, by simp; omega, HL4, HO9, ⟨?_⟩, HM9, ⟨?_⟩, ⟨?_⟩⟩
      ·exact Kd.R_grown HAr.out HG9.out (fun k hk he => by
        have := HOr.out.1 k he.symm
        omega)
      ·exact HBr.out.grown HG9.out HBr.out.size (fun j hj => by
        have := Kd.R_base HOr.out j hj
        have := HB3.out.size
        omega)
      ·have := HG9.out.size
       have := HSr.out
       omega
   | zero =>
    have h1 : decide ((kk : Int) < (kp.length : Int)) = false := decide_eq_false (by omega)
    have h2 : decide (kk < kp.length) = false := decide_eq_false (by omega)
    have HE := Aside0.mk (show out = r1 by have := HL.out; rw [List.drop_of_length_le (by rw [HSL.out]; omega), keptN] at this; exact this)
    clear hk2 HL
    go_wp2
    go_ret2
    exact ⟨_, rfl, Kd.R_lower (Kd.R_mono (HE.out ▸ HOr.out) (fun _ _ => trivial)) HB3.out.size, HBr.out⟩

end Go.Proofs.Ytdbgdkbpamekpaa.Q
