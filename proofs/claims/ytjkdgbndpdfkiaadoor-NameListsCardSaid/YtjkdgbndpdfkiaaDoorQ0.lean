-- Written by a program of this session (mk.py) out of the translation; Lean checks it.
import Derived.Test.YtjkdgbndpdfkiaaDoorProg
import Derived.Below
import Derived.Deep.Draws
import Derived.Deep.AppendLies
import Derived.Maps.AppendAt
import Derived.OwnWalk
import Derived.Laws.BytesArg
import Derived.Laws.MakeOwn
import Derived.Laws.OwnMore
import Derived.Deep.OwnRows
import Derived.Tactics
import Derived.Lib.ConvBytes
import Derived.Laws.Slices
import Derived.WalkKit
import Derived.KernelRfl
import Derived.RowKit3
import Derived.Deep.LoopGhost
import Derived.Deep.QuietTactic
import Derived.BigQuiet
import Derived.WideLaws
import Derived.Deep.DeepCutAuto
import Derived.Deep.CutBlock
import Derived.Deep.RegionHeld3
import Derived.Laws.Rows
import Derived.Lib.AppendStr
import Derived.ArgAppend
import Derived.Laws.IdiomCopy
import Derived.OrdersHeld
import Derived.Laws.BitsLemmas
import Derived.RowKit
import Derived.Lib.OthersKept
import Derived.Sort.OwnSorted
import Derived.Maps.AppendAt
import Derived.Test.YtjkdgbndpdfkiaaDoorShelf
import Derived.Test.YtjkdgbndpdfkiaaDoorWWords
import Derived.Test.YtjkdgbndpdfkiaaDoorWLast
import Derived.Test.YtjkdgbndpdfkiaaDoorWTab
import Derived.Test.YtjkdgbndpdfkiaaDoorWFour
import Derived.Test.YtjkdgbndpdfkiaaDoorWQPut
import Derived.Test.YtjkdgbndpdfkiaaDoorWApart
import Derived.Test.YtjkdgbndpdfkiaaDoorWArr
import Derived.Test.YtjkdgbndpdfkiaaDoorWZeros
import Derived.Test.YtjkdgbndpdfkiaaDoorWFoot
import Derived.Test.YtjkdgbndpdfkiaaDoorWKept
import Derived.Test.YtjkdgbndpdfkiaaDoorWShare
import Derived.Test.YtjkdgbndpdfkiaaDoorWN
import Derived.Test.YtjkdgbndpdfkiaaDoorWFootNe
import Derived.Test.YtjkdgbndpdfkiaaDoorWAt
import Derived.Test.YtjkdgbndpdfkiaaDoorWEqStruct
import Derived.Test.YtjkdgbndpdfkiaaDoorWRepsOne
import Derived.Test.YtjkdgbndpdfkiaaDoorWInv
import Derived.Test.YtjkdgbndpdfkiaaDoorWInvWords
import Derived.Test.YtjkdgbndpdfkiaaDoorWGuard
import Derived.Test.YtjkdgbndpdfkiaaDoorWNEv
import Derived.Test.YtjkdgbndpdfkiaaDoorWMore
namespace Go.Proofs.YtjkdgbndpdfkiaaDoor.Q
open Go.RowKit Go.Proofs.YtjkdgbndpdfkiaaDoorW.PrintWords Go.Proofs.YtjkdgbndpdfkiaaDoorW.PrintLast Go.Proofs.YtjkdgbndpdfkiaaDoorW.PrintMore
attribute [local go_sem] max2_int min2_int max_two min_two max_three min_three max_four min_four   -- for this text's walks alone
set_option linter.unusedVariables false
set_option linter.unusedSimpArgs false



def errW : Option Int → Value
  | none => .nilIface
  | some c => .iface 0 (.int .i64 c)
theorem errW_none : errW none = .nilIface := rfl
theorem errW_some (c : Int) : errW (some c) = .iface 0 (.int .i64 c) := rfl

theorem info5 : (Tryd.prog.info? 5).map (fun i => (i.zero, i.size, i.bytes)) = some (some (.int .u8 0), 1, 1) := by kernel_rfl
theorem info9 : (Tryd.prog.info? 9).map (fun i => (i.zero, i.size, i.bytes)) = some (some (.string ⟨#[]⟩), 1, 16) := by kernel_rfl
-- the values' own types
def rd_L1 (xs : List (List ByteArray)) (i : Int) : (List ByteArray) := xs.getD i.toNat ([] : List ByteArray)
theorem at_L1 {w : World} {A : Option Addr} {n : Nat} {xs : List (List ByteArray)} (h : Kd.C (Kd.slice 9 Kd.string) w A n xs) (i : Int) (h0 : 0 ≤ i) (h1 : i < n) : ∃ ad A0 c0, A = some ad ∧ w.cell? (ad.add i.toNat) = some (.slice A0 (rd_L1 xs i).length c0) ∧ (rd_L1 xs i).length ≤ c0 ∧ Kd.string.C w A0 (rd_L1 xs i).length (rd_L1 xs i) := by
  obtain ⟨ad, c, e, _, hK, hc0⟩ := Kd.C_get h ([] : List ByteArray) i h0 h1
  have hc : ∀ j u, c[j]? = some u → w.cell? (ad.add (i.toNat * 1 + j)) = some u := hc0
  obtain ⟨A0, c0, rfl, l0, g0⟩ := hK
  exact ⟨ad, A0, c0, e, by have hq := hc 0 _ rfl; rwa [Nat.mul_one, Nat.add_zero] at hq, l0, g0⟩

theorem bytesLess_turn : ∀ x y : List UInt8, (!(Op.bytesLess x y || x == y)) = Op.bytesLess y x
  | [], [] => rfl
  | [], _ :: _ => rfl
  | _ :: _, [] => rfl
  | a :: x, b :: y => by
    have ih := bytesLess_turn x y
    simp only [Op.bytesLess]
    by_cases h : a = b
    · subst h
      have h1 : (a < a) = False := by simp
      have h2 : (a :: x == a :: y) = (x == y) := by simp
      simp only [h1, decide_false, BEq.rfl, Bool.true_and, Bool.false_or, h2]
      exact ih
    · have h2 : (a == b) = false := beq_eq_false_iff_ne.mpr h
      have h3 : (b == a) = false := beq_eq_false_iff_ne.mpr (Ne.symm h)
      have h4 : (a :: x == b :: y) = false := by rw [List.cons_beq_cons, h2, Bool.false_and]
      simp only [h2, h3, h4, Bool.false_and, Bool.or_false]
      rw [Bool.eq_iff_iff]
      simp only [Bool.not_eq_true', decide_eq_false_iff_not, decide_eq_true_iff]
      have h5 : a.toNat ≠ b.toNat := fun e => h (UInt8.toNat_inj.1 e)
      rw [UInt8.lt_iff_toNat_lt, UInt8.lt_iff_toNat_lt]
      omega
@[go_sem high] theorem binOp_string_gtr' (t : TypeId) (a b : ByteArray) : binOp .gtr t (.string a) (.string b) = pure (.bool (Op.bytesLess b.toList a.toList)) := by
  rw [← bytesLess_turn]
  simp [binOp, Op.stringOp]
@[go_sem high] theorem binOp_string_leq' (t : TypeId) (a b : ByteArray) : binOp .leq t (.string a) (.string b) = pure (.bool (!Op.bytesLess b.toList a.toList)) := by
  rw [← bytesLess_turn, Bool.not_not]
  simp [binOp, Op.stringOp]
@[go_sem high] theorem binOp_string_geq' (t : TypeId) (a b : ByteArray) : binOp .geq t (.string a) (.string b) = pure (.bool (!Op.bytesLess a.toList b.toList)) := by
  simp [binOp, Op.stringOp]

end Go.Proofs.YtjkdgbndpdfkiaaDoor.Q
