/- Read in one contract: proved here by steps through the program's text; no condition but those that stand in each theorem. -/
import Derived.WalkSpells
import Derived.Deep.RegionLaw
import Derived.Lib.OthersKept
import Derived.Test.YtfajgjmhfpabiaaDoorShelf
import Derived.Test.YtfajgjmhfpabiaaDoorQ0
import Derived.Test.YtfajgjmhfpabiaaDoorQ4
import Derived.Test.YtfajgjmhfpabiaaDoorQ5
import Derived.Test.YtfajgjmhfpabiaaDoorSc
import Derived.Test.YtfajgjmhfpabiaaDoorSda
import Derived.Test.YtfajgjmhfpabiaaDoorSdb
import Derived.Test.YtfajgjmhfpabiaaDoorSe
namespace Go.Proofs.YtfajgjmhfpabiaaDoor.Scratch
set_option linter.unusedVariables false
open Go.RowKit Go.Proofs.YtfajgjmhfpabiaaDoorW.PrintWords Go.Proofs.YtfajgjmhfpabiaaDoorW.PrintLast Go.Proofs.YtfajgjmhfpabiaaDoorW.PrintMore Go.Proofs.YtfajgjmhfpabiaaDoor.Q
attribute [local go_sem] max2_int min2_int max_two min_two max_three min_three max_four min_four
def parseS (s : ByteArray) : Int × Int := if (s.size : Int) = 16 then parseL s 16 0 0 else (0, 1)
theorem parseS_eq (s : ByteArray) : digest_Parse.f s = some (parseS s) := by
  unfold digest_Parse.f parseS
  split <;> rfl
theorem parseS_range (s : ByteArray) (k : Int) (h : parseS s = (k, 0)) : 0 ≤ k ∧ k < 2 ^ 64 := by
  unfold parseS at h
  by_cases c : (s.size : Int) = 16
  · rw [if_pos c] at h
    exact (hex_back s k (by omega) h).1
  · rw [if_neg c] at h
    cases h
def nlS (s : ByteArray) : ByteArray × Bool := if 1 ≤ s.size ∧ (s.extract (s.size - 1) s.size).toList = [10] then (s.extract 0 (s.size - 1), true) else (s, false)
theorem nlS_eq (s : ByteArray) (hs : s.size ≤ 1000000) : strings_CutSuffix.f s ⟨#[10]⟩ = some (nlS s) := by
  have e1 : (((⟨#[10]⟩ : ByteArray).size : Nat) : Int) = 1 := rfl
  have e2 : (⟨#[10]⟩ : ByteArray).toList = [10] := by decide +kernel
  unfold strings_CutSuffix.f stringslite_CutSuffix.f stringslite_HasSuffix.f nlS
  rw [e1, e2]
  by_cases c : 1 ≤ s.size
  · have hw : wrap64 ((s.size : Int) - 1) = ((s.size - 1 : Nat) : Int) := by
      unfold wrap64
      omega
    rw [hw, if_pos (by omega), if_pos (by omega), if_pos (by omega), Int.toNat_natCast, Option.bind_some]
    by_cases d : (s.extract (s.size - 1) s.size).toList = [10]
    · rw [if_pos (by rw [d]; rfl), if_pos (by omega), if_pos (by omega), if_pos ⟨c, d⟩]
      rfl
    · rw [if_neg (by simpa using d), if_neg (fun q => d q.2)]
      rfl
  · have n1 : ¬ ((s.size : Int) ≥ 1) := by omega
    rw [if_neg n1, if_neg (show ¬ (1 ≤ s.size ∧ (s.extract (s.size - 1) s.size).toList = [10]) from fun q => c q.1)]
    rfl
theorem nlS_size (s : ByteArray) : (nlS s).1.size ≤ s.size := by
  unfold nlS
  split
  · simp only [ByteArray.size_extract]
    omega
  · exact Nat.le_refl _
def sideS (x : ByteArray) : Int := if (x.toList == [114, 105, 103, 104, 116]) = true then 2 else 1
/-- The decision of a line. -/
def readS (s : ByteArray) : Option S35 :=
  if ((nlS s).2 && (cut32 (nlS s).1).2.2 && (cut32 (cut32 (nlS s).1).2.1).2.2) = true then
    (if (parseS (cut32 (nlS s).1).1).2 = 0 then
      (if faultS (sideS (cut32 (cut32 (nlS s).1).2.1).1) (cut32 (cut32 (cut32 (nlS s).1).2.1).2.1).1 (cut32 (cut32 (cut32 (nlS s).1).2.1).2.1).2.1 = 0 ∧ (lineS (parseS (cut32 (nlS s).1).1).1 (sideS (cut32 (cut32 (nlS s).1).2.1).1) (cut32 (cut32 (cut32 (nlS s).1).2.1).2.1).1 (cut32 (cut32 (cut32 (nlS s).1).2.1).2.1).2.1).toList = s.toList then
        some ⟨(parseS (cut32 (nlS s).1).1).1, sideS (cut32 (cut32 (nlS s).1).2.1).1, (cut32 (cut32 (cut32 (nlS s).1).2.1).2.1).1, (cut32 (cut32 (cut32 (nlS s).1).2.1).2.1).2.1⟩ else none)
    else none)
  else none
theorem line_is (a0 a1 : Int) (a2 a3 : ByteArray) (h0 : 0 ≤ a0) (h1 : a0 < 2 ^ 64) (h2 : a2.size ≤ 1000000) (h3 : a3.size ≤ 1000000) : decide_line.f a0 a1 a2 a3 = some (lineS a0 a1 a2 a3) := if_pos ⟨h0, h1, h2, h3⟩
theorem read_calls (s : ByteArray) (hs : s.size ≤ 1000000) (w : World) (hG : Glob w) : Calls Tryd.prog 30 #[.string s] w fun e w' => (∃ d, e = .returned (.tuple #[decV d, .bool (readS s).isSome]) ∧ ∀ d', readS s = some d' → d' = d) ∧ Below w.heap.size w w' := by
  have hb := nlS_eq s hs
  have z1 := nlS_size s
  unfold readS
  obtain ⟨b1, b2, e1⟩ : ∃ b1 b2, nlS s = (b1, b2) := ⟨_, _, rfl⟩
  rw [e1] at hb z1 ⊢
  dsimp only at z1 ⊢
  have z2 := cut32_size b1
  obtain ⟨h1, h2, h3, e2⟩ : ∃ h1 h2 h3, cut32 b1 = (h1, h2, h3) := ⟨_, _, _, rfl⟩
  rw [e2] at z2 ⊢
  dsimp only at z2 ⊢
  have z3 := cut32_size h2
  obtain ⟨x1, x2, x3, e3⟩ : ∃ x1 x2 x3, cut32 h2 = (x1, x2, x3) := ⟨_, _, _, rfl⟩
  rw [e3] at z3 ⊢
  dsimp only at z3 ⊢
  have z4 := cut32_size x2
  obtain ⟨y1, y2, y3, e4⟩ : ∃ y1 y2 y3, cut32 x2 = (y1, y2, y3) := ⟨_, _, _, rfl⟩
  rw [e4] at z4 ⊢
  dsimp only at z4 ⊢
  by_cases hg : (b2 && h3 && x3) = true
  · have hb2 : b2 = true := by revert hg; cases b2 <;> simp
    have hh3 : h3 = true := by revert hg; cases h3 <;> simp
    have hx3 : x3 = true := by revert hg; cases x3 <;> simp
    subst hb2 hh3 hx3
    rw [if_pos (show (true && true && true) = true from rfl)]
    have hp := parseS_eq h1
    obtain ⟨key, ec, e5⟩ : ∃ key ec, parseS h1 = (key, ec) := ⟨_, _, rfl⟩
    have hkr := parseS_range h1 key
    rw [e5] at hp hkr ⊢
    dsimp only
    by_cases hec : ec = 0
    · subst hec
      obtain ⟨k0, k1⟩ := hkr rfl
      rw [if_pos (show (0 : Int) = 0 from rfl)]
      unfold sideS
      by_cases hx : (x1.toList == [114, 105, 103, 104, 116]) = true
      · rw [if_pos hx]
        have hf := fault_is key 2 y1 y2
        by_cases h0 : faultS 2 y1 y2 = 0
        · rw [h0] at hf
          refine (readCRO s b1 h1 h2 x1 x2 y1 y2 y3 hs hb e2 e3 e4 (by omega) (by omega) (by omega) key hp hx 1000 hf (lineS key 2 y1 y2) (line_is key 2 y1 y2 k0 k1 (by omega) (by omega)) _ rfl w hG).mono fun e w' q => ⟨⟨⟨key, 2, y1, y2⟩, q.1.trans ?_, fun d' hd' => ?_⟩, q.2⟩
          · by_cases hl : (lineS key 2 y1 y2).toList = s.toList
            · rw [if_pos ⟨h0, hl⟩, hl, beq_self_eq_true]
              rfl
            · rw [if_neg (fun q => hl q.2), beq_eq_false_iff_ne.2 hl]
              rfl
          · split at hd'
            · exact (Option.some.inj hd').symm
            · cases hd'
        · rw [if_neg (fun q => h0 q.1)]
          exact (readCRF s b1 h1 h2 x1 x2 y1 y2 y3 hs hb e2 e3 e4 (by omega) (by omega) (by omega) key hp hx 1000 _ hf h0 w hG).mono fun e w' q => ⟨⟨_, q.1, fun d' hd' => by cases hd'⟩, q.2⟩
      · rw [if_neg hx]
        have hx' := Bool.eq_false_iff.2 hx
        have hf := fault_is key 1 y1 y2
        by_cases h0 : faultS 1 y1 y2 = 0
        · rw [h0] at hf
          refine (readCLO s b1 h1 h2 x1 x2 y1 y2 y3 hs hb e2 e3 e4 (by omega) (by omega) (by omega) key hp hx' 1000 hf (lineS key 1 y1 y2) (line_is key 1 y1 y2 k0 k1 (by omega) (by omega)) _ rfl w hG).mono fun e w' q => ⟨⟨⟨key, 1, y1, y2⟩, q.1.trans ?_, fun d' hd' => ?_⟩, q.2⟩
          · by_cases hl : (lineS key 1 y1 y2).toList = s.toList
            · rw [if_pos ⟨h0, hl⟩, hl, beq_self_eq_true]
              rfl
            · rw [if_neg (fun q => hl q.2), beq_eq_false_iff_ne.2 hl]
              rfl
          · split at hd'
            · exact (Option.some.inj hd').symm
            · cases hd'
        · rw [if_neg (fun q => h0 q.1)]
          exact (readCLF s b1 h1 h2 x1 x2 y1 y2 y3 hs hb e2 e3 e4 (by omega) (by omega) (by omega) key hp hx' 1000 _ hf h0 w hG).mono fun e w' q => ⟨⟨_, q.1, fun d' hd' => by cases hd'⟩, q.2⟩
    · rw [if_neg hec]
      exact (readB s b1 h1 h2 x1 x2 hs hb e2 e3 (by omega) (by omega) key ec hp hec w hG).mono fun e w' q => ⟨⟨_, q.1, fun d' hd' => by cases hd'⟩, q.2⟩
  · rw [if_neg hg]
    exact (readA s b1 h1 h2 x1 x2 b2 h3 x3 hs hb e2 e3 (by omega) (by omega) (Bool.eq_false_iff.2 hg) w).mono fun e w' q => ⟨⟨_, q.1, fun d' hd' => by cases hd'⟩, q.2⟩

end Go.Proofs.YtfajgjmhfpabiaaDoor.Scratch
