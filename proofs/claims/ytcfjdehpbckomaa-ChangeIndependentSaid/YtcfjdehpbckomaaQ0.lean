
import Derived.Test.YtcfjdehpbckomaaSq
import Derived.Test.YtcfjdehpbckomaaProg
import Derived.Below
import Derived.Deep.Draws
import Derived.Deep.AppendLies
import Derived.Maps.AppendAt
import Derived.OwnWalk
import Derived.Laws.BytesArg
import Derived.Laws.MakeOwn
import Derived.Laws.OwnMore
import Derived.Deep.OwnRows
import Derived.Tactics
import Derived.Lib.ConvBytes
import Derived.Laws.Slices
import Derived.WalkKit
import Derived.KernelRfl
import Derived.RowKit3
import Derived.Deep.LoopGhost
import Derived.Deep.QuietTactic
import Derived.BigQuiet
import Derived.WideLaws
import Derived.Deep.DeepCutAuto
import Derived.Deep.CutBlock
import Derived.Deep.RegionHeld3
import Derived.Laws.Rows
import Derived.Lib.AppendStr
import Derived.ArgAppend
import Derived.Laws.IdiomCopy
import Derived.OrdersHeld
import Derived.Laws.BitsLemmas
import Derived.RowKit
import Derived.Sort.OwnSorted
import Derived.WalkSpells
import Derived.Deep.RegionLaw
import Derived.Deep.RegionHeld3
import Derived.Lib.OthersKept
import Derived.Maps.AppendAt
import Derived.StillTailTactics
import Derived.Test.YtcfjdehpbckomaaShelf
import Derived.Test.YtcfjdehpbckomaaIter
import Derived.Test.YtcfjdehpbckomaaWWords
import Derived.Test.YtcfjdehpbckomaaWLast
import Derived.Test.YtcfjdehpbckomaaWTab
import Derived.Test.YtcfjdehpbckomaaWFour
import Derived.Test.YtcfjdehpbckomaaWQPut
import Derived.Test.YtcfjdehpbckomaaWApart
import Derived.Test.YtcfjdehpbckomaaWArr
import Derived.Test.YtcfjdehpbckomaaWZeros
import Derived.Test.YtcfjdehpbckomaaWFoot
import Derived.Test.YtcfjdehpbckomaaWKept
import Derived.Test.YtcfjdehpbckomaaWShare
import Derived.Test.YtcfjdehpbckomaaWN
import Derived.Test.YtcfjdehpbckomaaWFootNe
import Derived.Test.YtcfjdehpbckomaaWAt
import Derived.Test.YtcfjdehpbckomaaWEqStruct
import Derived.Test.YtcfjdehpbckomaaWRepsOne
import Derived.Test.YtcfjdehpbckomaaWInv
import Derived.Test.YtcfjdehpbckomaaWInvWords
import Derived.Test.YtcfjdehpbckomaaWGuard
import Derived.Test.YtcfjdehpbckomaaWNEv
import Derived.Test.YtcfjdehpbckomaaWMore
namespace Go.Proofs.Ytcfjdehpbckomaa.Q
open Go.RowKit Go.Proofs.YtcfjdehpbckomaaW.dS Go.Proofs.YtcfjdehpbckomaaW.jm Go.Proofs.YtcfjdehpbckomaaW.mm
attribute [local go_sem] mU na nt mX m6 nu mP mW
set_option linter.unusedVariables false
set_option linter.unusedSimpArgs false
def YZ : Option Int → Value
 | none => .nilIface
 | some c => .iface 0 (.int .i64 c)
theorem bY : YZ none = .nilIface := rfl
theorem bX (c : Int) : YZ (some c) = .iface 0 (.int .i64 c) := rfl
theorem DQ : (Try.prog.info? 3).map (fun i => (i.zero, i.size, i.bytes)) = some (some (.int .i64 0), 1, 8) := by kernel_rfl
theorem aj1 : (Try.prog.info? 9).map (fun i => (i.zero, i.size, i.bytes)) = some (some (.string ⟨#[]⟩), 1, 16) := by kernel_rfl
theorem aoL : (Try.prog.info? 25).map (fun i => (i.zero, i.size, i.bytes)) = some (some (.agg #[(.int .i64 0), (.string ⟨#[]⟩), (.slice none 0 0), (.slice none 0 0)]), 4, 72) := by kernel_rfl
theorem kg : (Try.prog.info? 48).map (fun i => (i.zero, i.size, i.bytes)) = some (some (.agg #[(.int .i64 0), (.int .i64 0)]), 2, 16) := by kernel_rfl
theorem amX : (Try.prog.info? 70).map (fun i => (i.zero, i.size, i.bytes)) = some (some (.agg #[(.int .i64 0), (.int .i64 0), (.string ⟨#[]⟩), (.slice none 0 0), (.slice none 0 0)]), 5, 80) := by kernel_rfl
def Kf (xs : List (List ByteArray)) (i : Int) : (List ByteArray) := xs.getD i.toNat ([] : List ByteArray)
theorem av0 {w : World} {A : Option Addr} {n : Nat} {xs : List (List ByteArray)} (h : Kd.C (Kd.slice 9 Kd.string) w A n xs) (i : Int) (h0 : 0 ≤ i) (h1 : i < n) : ∃ ad A0 c0, A = some ad ∧ w.cell? (ad.add i.toNat) = some (.slice A0 (Kf xs i).length c0) ∧ (Kf xs i).length ≤ c0 ∧ Kd.string.C w A0 (Kf xs i).length (Kf xs i) := by
 obtain ⟨ad, c, e, _, hK, hc0⟩ := Kd.rT h ([] : List ByteArray) i h0 h1
 have hc : ∀ j u, c[j]? = some u → w.cell? (ad.add (i.toNat * 1 + j)) = some u := hc0
 obtain ⟨A0, c0, rfl, l0, g0⟩ := hK
 exact ⟨ad, A0, c0, e, by have hq := hc 0 _ rfl; rwa [Nat.mul_one, Nat.add_zero] at hq, l0, g0⟩
/-! #### struct type 25, nested in itself -/
structure aX where
 f0 : Int
 f1 : ByteArray
 f2 : (List ByteArray)
 f3 : (List aX)
def z25 : aX := ⟨(0 : Int), (⟨#[]⟩ : ByteArray), ([] : List ByteArray), ([] : List aX)⟩
def Js (d : Kd aX) : Kd aX := Kd.r6 (Kd.pair (Kd.int .i64) (Kd.pair Kd.string (Kd.pair (Kd.slice 9 Kd.string) (Kd.slice 25 d)))) (fun x : aX => (x.f0, x.f1, x.f2, x.f3))
theorem I2 : Kd.mN Js := Kd.adQ _ (Kd.LF (Kd.Lj _) (Kd.LF (Kd.Lj _) (Kd.LF (Kd.Lj _) (Kd.aa_ 25 Kd.ag7))))
theorem abe : Kd.Sub Js [9, 25] := Kd.aia _ (Kd.LZ (Kd.sub_const _ (by decide)) (Kd.LZ (Kd.sub_const _ (by decide)) (Kd.LZ (Kd.sub_const _ (by decide)) (Kd.aau 25 (by decide) Kd.aaF))))
theorem RV : ∀ n, (Kd.upto Js 4 [9, 25] n).sz = 4 := Kd.ab5 (fun _ => rfl)
def k25 : Kd aX := Kd.fix Js 4 [9, 25] RV (Kd.VV abe)
theorem GA : Kd.Heap k25 := Kd.aiY (fun _ h_ => Kd.H5 _ (Kd.r5 (Kd.sq .i64) (Kd.r5 Kd.uq (Kd.r5 (Kd.yJ 9 Kd.uq) (Kd.yJ 25 h_)))))
theorem ym {w : World} {x : aX} {cs : List Value} (h : k25.K w x cs) : ∃ A2 c2 A3 c3, cs = [.int .i64 x.f0, .string x.f1, .slice A2 x.f2.length c2, .slice A3 x.f3.length c3] ∧ x.f2.length ≤ c2 ∧ Kd.string.C w A2 x.f2.length x.f2 ∧ x.f3.length ≤ c3 ∧ k25.C w A3 x.f3.length x.f3 := by
 obtain ⟨n, h⟩ := h
 cases n with
 | zero => exact h.elim
 | succ n =>
  obtain ⟨_, _, rfl, rfl, ⟨_, _, rfl, rfl, ⟨_, _, rfl, ⟨A2, c2, rfl, l2, g2⟩, ⟨A3, c3, rfl, l3, g3⟩⟩⟩⟩ := h
  exact ⟨A2, c2, A3, c3, rfl, l2, g2, l3, Kd.ahr g3⟩
theorem aqc {w : World} {base : Nat} {ok : Nat → Prop} {x : aX} {cs : List Value} (h : k25.M w base ok x cs) : ∃ v2 v3, cs = [.int .i64 x.f0, .string x.f1, v2, v3] ∧ Kd.string.R 9 w base ok v2 x.f2 ∧ k25.R 25 w base ok v3 x.f3 := by
 obtain ⟨n, h⟩ := h
 cases n with
 | zero => exact h.elim
 | succ n =>
  obtain ⟨_, _, rfl, rfl, ⟨_, _, rfl, rfl, ⟨_, _, rfl, ⟨v2, rfl, g2⟩, ⟨v3, rfl, g3⟩⟩⟩⟩ := h
  exact ⟨v2, v3, rfl, g2, Kd.adB g3⟩
theorem ah2 (w : World) (x : aX) {A2 : Option Addr} {c2 : Nat} (l2 : x.f2.length ≤ c2) (g2 : Kd.string.C w A2 x.f2.length x.f2) {A3 : Option Addr} {c3 : Nat} (l3 : x.f3.length ≤ c3) (g3 : k25.C w A3 x.f3.length x.f3) : k25.K w x [.int .i64 x.f0, .string x.f1, .slice A2 x.f2.length c2, .slice A3 x.f3.length c3] := by
 obtain ⟨n3, q3⟩ := Kd.acT I2 g3
 have r3 := Kd.acu I2 RV (show n3 ≤ n3 by omega) q3
 exact ⟨n3 + 1, ⟨[.int .i64 x.f0], [.string x.f1, .slice A2 x.f2.length c2, .slice A3 x.f3.length c3], rfl, rfl, ⟨[.string x.f1], [.slice A2 x.f2.length c2, .slice A3 x.f3.length c3], rfl, rfl, ⟨[.slice A2 x.f2.length c2], [.slice A3 x.f3.length c3], rfl, ⟨A2, c2, rfl, l2, g2⟩, ⟨A3, c3, rfl, l3, r3⟩⟩⟩⟩⟩
theorem ahC (w : World) (base : Nat) (ok : Nat → Prop) (x : aX) {v2 : Value} (g2 : Kd.string.R 9 w base ok v2 x.f2) {v3 : Value} (g3 : k25.R 25 w base ok v3 x.f3) : k25.M w base ok x [.int .i64 x.f0, .string x.f1, v2, v3] := by
 obtain ⟨n3, q3⟩ := Kd.akw I2 g3
 have r3 := Kd.adi I2 RV (show n3 ≤ n3 by omega) q3
 exact ⟨n3 + 1, ⟨[.int .i64 x.f0], [.string x.f1, v2, v3], rfl, rfl, ⟨[.string x.f1], [v2, v3], rfl, rfl, ⟨[v2], [v3], rfl, ⟨v2, rfl, g2⟩, ⟨v3, rfl, r3⟩⟩⟩⟩⟩
theorem Zp {W : World} {ok : Nat → Prop} {x : aX} {cs : List Value} (h : Kd.FK k25 W ok x cs) : ∃ A2 c2 A3 c3, cs = [.int .i64 x.f0, .string x.f1, .slice A2 x.f2.length c2, .slice A3 x.f3.length c3] ∧ x.f2.length ≤ c2 ∧ Kd.F Kd.string W ok A2 x.f2.length x.f2 ∧ x.f3.length ≤ c3 ∧ Kd.F k25 W ok A3 x.f3.length x.f3 := by
 obtain ⟨A2, c2, A3, c3, rfl, l2, _, l3, _⟩ := ym (Kd.vX h)
 exact ⟨A2, c2, A3, c3, rfl, l2, (fun W' hW => by obtain ⟨Bb, Bo, uA, uD, he, J6, Bh, DL, uv⟩ := ym (h W' hW); injection (Option.some.inj (show some (Value.slice A2 x.f2.length c2) = some (Value.slice Bb x.f2.length Bo) from congrArg (fun l => l[2]?) he)) with nB _ _; rw [nB]; exact Bh), l3, (fun W' hW => by obtain ⟨Bb, Bo, uA, uD, he, J6, Bh, DL, uv⟩ := ym (h W' hW); injection (Option.some.inj (show some (Value.slice A3 x.f3.length c3) = some (Value.slice uA x.f3.length uD) from congrArg (fun l => l[3]?) he)) with nB _ _; rw [nB]; exact uv)⟩
theorem aol (W : World) (ok : Nat → Prop) (x : aX) {A2 : Option Addr} {c2 : Nat} (l2 : x.f2.length ≤ c2) (g2 : Kd.F Kd.string W ok A2 x.f2.length x.f2) {A3 : Option Addr} {c3 : Nat} (l3 : x.f3.length ≤ c3) (g3 : Kd.F k25 W ok A3 x.f3.length x.f3) : Kd.FK k25 W ok x [.int .i64 x.f0, .string x.f1, .slice A2 x.f2.length c2, .slice A3 x.f3.length c3] := fun W2 hW => ah2 W2 x l2 (g2 W2 hW) l3 (g3 W2 hW)
def dp (xs : List aX) (i : Int) : aX := xs.getD i.toNat z25
theorem FT {w : World} {A : Option Addr} {n : Nat} {xs : List aX} (h : Kd.C k25 w A n xs) (i : Int) (h0 : 0 ≤ i) (h1 : i < n) : ∃ ad A2 c2 A3 c3, A = some ad ∧ w.cell? (ad.add (i.toNat * 4)) = some (.int .i64 (dp xs i).f0) ∧ w.cell? ⟨(ad.add (i.toNat * 4)).block, (ad.add (i.toNat * 4)).off + 1, none⟩ = some (.string (dp xs i).f1) ∧ w.cell? ⟨(ad.add (i.toNat * 4)).block, (ad.add (i.toNat * 4)).off + 2, none⟩ = some (.slice A2 (dp xs i).f2.length c2) ∧ w.cell? ⟨(ad.add (i.toNat * 4)).block, (ad.add (i.toNat * 4)).off + 3, none⟩ = some (.slice A3 (dp xs i).f3.length c3) ∧ (dp xs i).f2.length ≤ c2 ∧ Kd.string.C w A2 (dp xs i).f2.length (dp xs i).f2 ∧ (dp xs i).f3.length ≤ c3 ∧ k25.C w A3 (dp xs i).f3.length (dp xs i).f3 := by
 obtain ⟨ad, c, e, _, hK, hc0⟩ := Kd.rT h z25 i h0 h1
 have hc : ∀ j u, c[j]? = some u → w.cell? (ad.add (i.toNat * 4 + j)) = some u := hc0
 obtain ⟨A2, c2, A3, c3, rfl, l2, g2, l3, g3⟩ := ym hK
 exact ⟨ad, A2, c2, A3, c3, e, hc 0 _ rfl, by rw [← ea _ _ 1 (by omega)]; exact hc 1 _ rfl, by rw [← ea _ _ 2 (by omega)]; exact hc 2 _ rfl, by rw [← ea _ _ 3 (by omega)]; exact hc 3 _ rfl, l2, g2, l3, g3⟩
def ux (xs : List (List Int)) (i : Int) : (List Int) := xs.getD i.toNat ([] : List Int)
theorem Yr {w : World} {A : Option Addr} {n : Nat} {xs : List (List Int)} (h : Kd.C (Kd.slice 3 (Kd.int .i64)) w A n xs) (i : Int) (h0 : 0 ≤ i) (h1 : i < n) : ∃ ad A0 c0, A = some ad ∧ w.cell? (ad.add i.toNat) = some (.slice A0 (ux xs i).length c0) ∧ (ux xs i).length ≤ c0 ∧ (Kd.int .i64).C w A0 (ux xs i).length (ux xs i) := by
 obtain ⟨ad, c, e, _, hK, hc0⟩ := Kd.rT h ([] : List Int) i h0 h1
 have hc : ∀ j u, c[j]? = some u → w.cell? (ad.add (i.toNat * 1 + j)) = some u := hc0
 obtain ⟨A0, c0, rfl, l0, g0⟩ := hK
 exact ⟨ad, A0, c0, e, by have hq := hc 0 _ rfl; rwa [Nat.mul_one, Nat.add_zero] at hq, l0, g0⟩
structure bC where
 f0 : Int
 f1 : Int
 f2 : ByteArray
 f3 : (List ByteArray)
 f4 : (List Int)
def z70 : bC := ⟨(0 : Int), (0 : Int), (⟨#[]⟩ : ByteArray), ([] : List ByteArray), ([] : List Int)⟩
def fc : Kd bC := Kd.r6 (Kd.pair (Kd.int .i64) (Kd.pair (Kd.int .i64) (Kd.pair Kd.string (Kd.pair (Kd.slice 9 Kd.string) (Kd.slice 3 (Kd.int .i64)))))) (fun x : bC => (x.f0, x.f1, x.f2, x.f3, x.f4))
theorem awd : Kd.Heap fc := Kd.H5 _ (Kd.r5 (Kd.sq .i64) (Kd.r5 (Kd.sq .i64) (Kd.r5 Kd.uq (Kd.r5 (Kd.yJ 9 Kd.uq) (Kd.yJ 3 (Kd.sq .i64))))))
theorem yd {w : World} {x : bC} {cs : List Value} (h : fc.K w x cs) : ∃ A3 c3 A4 c4, cs = [.int .i64 x.f0, .int .i64 x.f1, .string x.f2, .slice A3 x.f3.length c3, .slice A4 x.f4.length c4] ∧ x.f3.length ≤ c3 ∧ Kd.string.C w A3 x.f3.length x.f3 ∧ x.f4.length ≤ c4 ∧ (Kd.int .i64).C w A4 x.f4.length x.f4 := by
 obtain ⟨_, _, rfl, rfl, ⟨_, _, rfl, rfl, ⟨_, _, rfl, rfl, ⟨_, _, rfl, ⟨A3, c3, rfl, l3, g3⟩, ⟨A4, c4, rfl, l4, g4⟩⟩⟩⟩⟩ := h
 exact ⟨A3, c3, A4, c4, rfl, l3, g3, l4, g4⟩
theorem ael {w : World} {base : Nat} {ok : Nat → Prop} {x : bC} {cs : List Value} (h : fc.M w base ok x cs) : ∃ v3 v4, cs = [.int .i64 x.f0, .int .i64 x.f1, .string x.f2, v3, v4] ∧ Kd.string.R 9 w base ok v3 x.f3 ∧ (Kd.int .i64).R 3 w base ok v4 x.f4 := by
 obtain ⟨_, _, rfl, rfl, ⟨_, _, rfl, rfl, ⟨_, _, rfl, rfl, ⟨_, _, rfl, ⟨v3, rfl, g3⟩, ⟨v4, rfl, g4⟩⟩⟩⟩⟩ := h
 exact ⟨v3, v4, rfl, g3, g4⟩
theorem af9 (w : World) (x : bC) {A3 : Option Addr} {c3 : Nat} (l3 : x.f3.length ≤ c3) (g3 : Kd.string.C w A3 x.f3.length x.f3) {A4 : Option Addr} {c4 : Nat} (l4 : x.f4.length ≤ c4) (g4 : (Kd.int .i64).C w A4 x.f4.length x.f4) : fc.K w x [.int .i64 x.f0, .int .i64 x.f1, .string x.f2, .slice A3 x.f3.length c3, .slice A4 x.f4.length c4] := ⟨[.int .i64 x.f0], [.int .i64 x.f1, .string x.f2, .slice A3 x.f3.length c3, .slice A4 x.f4.length c4], rfl, rfl, ⟨[.int .i64 x.f1], [.string x.f2, .slice A3 x.f3.length c3, .slice A4 x.f4.length c4], rfl, rfl, ⟨[.string x.f2], [.slice A3 x.f3.length c3, .slice A4 x.f4.length c4], rfl, rfl, ⟨[.slice A3 x.f3.length c3], [.slice A4 x.f4.length c4], rfl, ⟨A3, c3, rfl, l3, g3⟩, ⟨A4, c4, rfl, l4, g4⟩⟩⟩⟩⟩
theorem Wk (w : World) (base : Nat) (ok : Nat → Prop) (x : bC) {v3 : Value} (g3 : Kd.string.R 9 w base ok v3 x.f3) {v4 : Value} (g4 : (Kd.int .i64).R 3 w base ok v4 x.f4) : fc.M w base ok x [.int .i64 x.f0, .int .i64 x.f1, .string x.f2, v3, v4] := ⟨[.int .i64 x.f0], [.int .i64 x.f1, .string x.f2, v3, v4], rfl, rfl, ⟨[.int .i64 x.f1], [.string x.f2, v3, v4], rfl, rfl, ⟨[.string x.f2], [v3, v4], rfl, rfl, ⟨[v3], [v4], rfl, ⟨v3, rfl, g3⟩, ⟨v4, rfl, g4⟩⟩⟩⟩⟩
theorem lX {W : World} {ok : Nat → Prop} {x : bC} {cs : List Value} (h : Kd.FK fc W ok x cs) : ∃ A3 c3 A4 c4, cs = [.int .i64 x.f0, .int .i64 x.f1, .string x.f2, .slice A3 x.f3.length c3, .slice A4 x.f4.length c4] ∧ x.f3.length ≤ c3 ∧ Kd.F Kd.string W ok A3 x.f3.length x.f3 ∧ x.f4.length ≤ c4 ∧ Kd.F (Kd.int .i64) W ok A4 x.f4.length x.f4 := by
 obtain ⟨A3, c3, A4, c4, rfl, l3, _, l4, _⟩ := yd (Kd.vX h)
 exact ⟨A3, c3, A4, c4, rfl, l3, (fun W' hW => by obtain ⟨uA, uD, Hc, EJ, he, DL, uv, NR, FG⟩ := yd (h W' hW); injection (Option.some.inj (show some (Value.slice A3 x.f3.length c3) = some (Value.slice uA x.f3.length uD) from congrArg (fun l => l[3]?) he)) with nB _ _; rw [nB]; exact uv), l4, (fun W' hW => by obtain ⟨uA, uD, Hc, EJ, he, DL, uv, NR, FG⟩ := yd (h W' hW); injection (Option.some.inj (show some (Value.slice A4 x.f4.length c4) = some (Value.slice Hc x.f4.length EJ) from congrArg (fun l => l[4]?) he)) with nB _ _; rw [nB]; exact FG)⟩
theorem aiB (W : World) (ok : Nat → Prop) (x : bC) {A3 : Option Addr} {c3 : Nat} (l3 : x.f3.length ≤ c3) (g3 : Kd.F Kd.string W ok A3 x.f3.length x.f3) {A4 : Option Addr} {c4 : Nat} (l4 : x.f4.length ≤ c4) (g4 : Kd.F (Kd.int .i64) W ok A4 x.f4.length x.f4) : Kd.FK fc W ok x [.int .i64 x.f0, .int .i64 x.f1, .string x.f2, .slice A3 x.f3.length c3, .slice A4 x.f4.length c4] := fun W2 hW => af9 W2 x l3 (g3 W2 hW) l4 (g4 W2 hW)
def aD (xs : List bC) (i : Int) : bC := xs.getD i.toNat z70
theorem gv {w : World} {A : Option Addr} {n : Nat} {xs : List bC} (h : Kd.C fc w A n xs) (i : Int) (h0 : 0 ≤ i) (h1 : i < n) : ∃ ad A3 c3 A4 c4, A = some ad ∧ w.cell? (ad.add (i.toNat * 5)) = some (.int .i64 (aD xs i).f0) ∧ w.cell? ⟨(ad.add (i.toNat * 5)).block, (ad.add (i.toNat * 5)).off + 1, none⟩ = some (.int .i64 (aD xs i).f1) ∧ w.cell? ⟨(ad.add (i.toNat * 5)).block, (ad.add (i.toNat * 5)).off + 2, none⟩ = some (.string (aD xs i).f2) ∧ w.cell? ⟨(ad.add (i.toNat * 5)).block, (ad.add (i.toNat * 5)).off + 3, none⟩ = some (.slice A3 (aD xs i).f3.length c3) ∧ w.cell? ⟨(ad.add (i.toNat * 5)).block, (ad.add (i.toNat * 5)).off + 4, none⟩ = some (.slice A4 (aD xs i).f4.length c4) ∧ (aD xs i).f3.length ≤ c3 ∧ Kd.string.C w A3 (aD xs i).f3.length (aD xs i).f3 ∧ (aD xs i).f4.length ≤ c4 ∧ (Kd.int .i64).C w A4 (aD xs i).f4.length (aD xs i).f4 := by
 obtain ⟨ad, c, e, _, hK, hc0⟩ := Kd.rT h z70 i h0 h1
 have hc : ∀ j u, c[j]? = some u → w.cell? (ad.add (i.toNat * 5 + j)) = some u := hc0
 obtain ⟨A3, c3, A4, c4, rfl, l3, g3, l4, g4⟩ := yd hK
 exact ⟨ad, A3, c3, A4, c4, e, hc 0 _ rfl, by rw [← ea _ _ 1 (by omega)]; exact hc 1 _ rfl, by rw [← ea _ _ 2 (by omega)]; exact hc 2 _ rfl, by rw [← ea _ _ 3 (by omega)]; exact hc 3 _ rfl, by rw [← ea _ _ 4 (by omega)]; exact hc 4 _ rfl, l3, g3, l4, g4⟩
def Im (xs : List (List bC)) (i : Int) : (List bC) := xs.getD i.toNat ([] : List bC)
theorem anE {w : World} {A : Option Addr} {n : Nat} {xs : List (List bC)} (h : Kd.C (Kd.slice 70 fc) w A n xs) (i : Int) (h0 : 0 ≤ i) (h1 : i < n) : ∃ ad A0 c0, A = some ad ∧ w.cell? (ad.add i.toNat) = some (.slice A0 (Im xs i).length c0) ∧ (Im xs i).length ≤ c0 ∧ fc.C w A0 (Im xs i).length (Im xs i) := by
 obtain ⟨ad, c, e, _, hK, hc0⟩ := Kd.rT h ([] : List bC) i h0 h1
 have hc : ∀ j u, c[j]? = some u → w.cell? (ad.add (i.toNat * 1 + j)) = some u := hc0
 obtain ⟨A0, c0, rfl, l0, g0⟩ := hK
 exact ⟨ad, A0, c0, e, by have hq := hc 0 _ rfl; rwa [Nat.mul_one, Nat.add_zero] at hq, l0, g0⟩
structure aw where
 f0 : Int
 f1 : Int
def pq : aw := ⟨(0 : Int), (0 : Int)⟩
def dT : Kd aw := Kd.r6 (Kd.pair (Kd.int .i64) (Kd.int .i64)) (fun x : aw => (x.f0, x.f1))
theorem av7 : Kd.Heap dT := Kd.H5 _ (Kd.r5 (Kd.sq .i64) (Kd.sq .i64))
theorem ah6 {w : World} {x : aw} {cs : List Value} (h : dT.K w x cs) : cs = [.int .i64 x.f0, .int .i64 x.f1] := by
 obtain ⟨_, _, rfl, rfl, rfl⟩ := h
 exact rfl
theorem aw8 {w : World} {base : Nat} {ok : Nat → Prop} {x : aw} {cs : List Value} (h : dT.M w base ok x cs) : cs = [.int .i64 x.f0, .int .i64 x.f1] := by
 obtain ⟨_, _, rfl, rfl, rfl⟩ := h
 exact rfl
theorem agm (w : World) (x : aw)  : dT.K w x [.int .i64 x.f0, .int .i64 x.f1] := ⟨[.int .i64 x.f0], [.int .i64 x.f1], rfl, rfl, rfl⟩
theorem i5 (w : World) (base : Nat) (ok : Nat → Prop) (x : aw)  : dT.M w base ok x [.int .i64 x.f0, .int .i64 x.f1] := ⟨[.int .i64 x.f0], [.int .i64 x.f1], rfl, rfl, rfl⟩
theorem aw3 (W : World) (ok : Nat → Prop) (x : aw) : Kd.FK dT W ok x [.int .i64 x.f0, .int .i64 x.f1] := fun W2 _ => agm W2 x
def aq (xs : List aw) (i : Int) : aw := xs.getD i.toNat pq
theorem iZ {w : World} {A : Option Addr} {n : Nat} {xs : List aw} (h : Kd.C dT w A n xs) (i : Int) (h0 : 0 ≤ i) (h1 : i < n) : ∃ ad , A = some ad ∧ w.cell? (ad.add (i.toNat * 2)) = some (.int .i64 (aq xs i).f0) ∧ w.cell? ⟨(ad.add (i.toNat * 2)).block, (ad.add (i.toNat * 2)).off + 1, none⟩ = some (.int .i64 (aq xs i).f1) := by
 obtain ⟨ad, c, e, _, hK, hc0⟩ := Kd.rT h pq i h0 h1
 have hc : ∀ j u, c[j]? = some u → w.cell? (ad.add (i.toNat * 2 + j)) = some u := hc0
 obtain rfl := ah6 hK
 exact ⟨ad, e, hc 0 _ rfl, by rw [← ea _ _ 1 (by omega)]; exact hc 1 _ rfl⟩
def Hp (xs : List (List aw)) (i : Int) : (List aw) := xs.getD i.toNat ([] : List aw)
theorem aq7 {w : World} {A : Option Addr} {n : Nat} {xs : List (List aw)} (h : Kd.C (Kd.slice 48 dT) w A n xs) (i : Int) (h0 : 0 ≤ i) (h1 : i < n) : ∃ ad A0 c0, A = some ad ∧ w.cell? (ad.add i.toNat) = some (.slice A0 (Hp xs i).length c0) ∧ (Hp xs i).length ≤ c0 ∧ dT.C w A0 (Hp xs i).length (Hp xs i) := by
 obtain ⟨ad, c, e, _, hK, hc0⟩ := Kd.rT h ([] : List aw) i h0 h1
 have hc : ∀ j u, c[j]? = some u → w.cell? (ad.add (i.toNat * 1 + j)) = some u := hc0
 obtain ⟨A0, c0, rfl, l0, g0⟩ := hK
 exact ⟨ad, A0, c0, e, by have hq := hc 0 _ rfl; rwa [Nat.mul_one, Nat.add_zero] at hq, l0, g0⟩
structure pr where
 f0 : (List Int)
 f1 : (List Int)
 f2 : (List Int)
 f3 : Int
def z40 : pr := ⟨([] : List Int), ([] : List Int), ([] : List Int), (0 : Int)⟩
def ud : Kd pr := Kd.r6 (Kd.pair (Kd.slice 3 (Kd.int .i64)) (Kd.pair (Kd.slice 3 (Kd.int .i64)) (Kd.pair (Kd.slice 3 (Kd.int .i64)) (Kd.int .i64)))) (fun x : pr => (x.f0, x.f1, x.f2, x.f3))
theorem auy : Kd.Heap ud := Kd.H5 _ (Kd.r5 (Kd.yJ 3 (Kd.sq .i64)) (Kd.r5 (Kd.yJ 3 (Kd.sq .i64)) (Kd.r5 (Kd.yJ 3 (Kd.sq .i64)) (Kd.sq .i64))))
theorem At {w : World} {x : pr} {cs : List Value} (h : ud.K w x cs) : ∃ A0 c0 A1 c1 A2 c2, cs = [.slice A0 x.f0.length c0, .slice A1 x.f1.length c1, .slice A2 x.f2.length c2, .int .i64 x.f3] ∧ x.f0.length ≤ c0 ∧ (Kd.int .i64).C w A0 x.f0.length x.f0 ∧ x.f1.length ≤ c1 ∧ (Kd.int .i64).C w A1 x.f1.length x.f1 ∧ x.f2.length ≤ c2 ∧ (Kd.int .i64).C w A2 x.f2.length x.f2 := by
 obtain ⟨_, _, rfl, ⟨A0, c0, rfl, l0, g0⟩, ⟨_, _, rfl, ⟨A1, c1, rfl, l1, g1⟩, ⟨_, _, rfl, ⟨A2, c2, rfl, l2, g2⟩, rfl⟩⟩⟩ := h
 exact ⟨A0, c0, A1, c1, A2, c2, rfl, l0, g0, l1, g1, l2, g2⟩
theorem au4 {w : World} {base : Nat} {ok : Nat → Prop} {x : pr} {cs : List Value} (h : ud.M w base ok x cs) : ∃ v0 v1 v2, cs = [v0, v1, v2, .int .i64 x.f3] ∧ (Kd.int .i64).R 3 w base ok v0 x.f0 ∧ (Kd.int .i64).R 3 w base ok v1 x.f1 ∧ (Kd.int .i64).R 3 w base ok v2 x.f2 := by
 obtain ⟨_, _, rfl, ⟨v0, rfl, g0⟩, ⟨_, _, rfl, ⟨v1, rfl, g1⟩, ⟨_, _, rfl, ⟨v2, rfl, g2⟩, rfl⟩⟩⟩ := h
 exact ⟨v0, v1, v2, rfl, g0, g1, g2⟩
theorem ad3 (w : World) (x : pr) {A0 : Option Addr} {c0 : Nat} (l0 : x.f0.length ≤ c0) (g0 : (Kd.int .i64).C w A0 x.f0.length x.f0) {A1 : Option Addr} {c1 : Nat} (l1 : x.f1.length ≤ c1) (g1 : (Kd.int .i64).C w A1 x.f1.length x.f1) {A2 : Option Addr} {c2 : Nat} (l2 : x.f2.length ≤ c2) (g2 : (Kd.int .i64).C w A2 x.f2.length x.f2) : ud.K w x [.slice A0 x.f0.length c0, .slice A1 x.f1.length c1, .slice A2 x.f2.length c2, .int .i64 x.f3] := ⟨[.slice A0 x.f0.length c0], [.slice A1 x.f1.length c1, .slice A2 x.f2.length c2, .int .i64 x.f3], rfl, ⟨A0, c0, rfl, l0, g0⟩, ⟨[.slice A1 x.f1.length c1], [.slice A2 x.f2.length c2, .int .i64 x.f3], rfl, ⟨A1, c1, rfl, l1, g1⟩, ⟨[.slice A2 x.f2.length c2], [.int .i64 x.f3], rfl, ⟨A2, c2, rfl, l2, g2⟩, rfl⟩⟩⟩
theorem aou (w : World) (base : Nat) (ok : Nat → Prop) (x : pr) {v0 : Value} (g0 : (Kd.int .i64).R 3 w base ok v0 x.f0) {v1 : Value} (g1 : (Kd.int .i64).R 3 w base ok v1 x.f1) {v2 : Value} (g2 : (Kd.int .i64).R 3 w base ok v2 x.f2) : ud.M w base ok x [v0, v1, v2, .int .i64 x.f3] := ⟨[v0], [v1, v2, .int .i64 x.f3], rfl, ⟨v0, rfl, g0⟩, ⟨[v1], [v2, .int .i64 x.f3], rfl, ⟨v1, rfl, g1⟩, ⟨[v2], [.int .i64 x.f3], rfl, ⟨v2, rfl, g2⟩, rfl⟩⟩⟩
theorem apc {W : World} {ok : Nat → Prop} {x : pr} {cs : List Value} (h : Kd.FK ud W ok x cs) : ∃ A0 c0 A1 c1 A2 c2, cs = [.slice A0 x.f0.length c0, .slice A1 x.f1.length c1, .slice A2 x.f2.length c2, .int .i64 x.f3] ∧ x.f0.length ≤ c0 ∧ Kd.F (Kd.int .i64) W ok A0 x.f0.length x.f0 ∧ x.f1.length ≤ c1 ∧ Kd.F (Kd.int .i64) W ok A1 x.f1.length x.f1 ∧ x.f2.length ≤ c2 ∧ Kd.F (Kd.int .i64) W ok A2 x.f2.length x.f2 := by
 obtain ⟨A0, c0, A1, c1, A2, c2, rfl, l0, _, l1, _, l2, _⟩ := At (Kd.vX h)
 exact ⟨A0, c0, A1, c1, A2, c2, rfl, l0, (fun W' hW => by obtain ⟨PT, Pi, MD, Qn, Bb, Bo, he, Xq, Nz, X9, OB, J6, Bh⟩ := At (h W' hW); injection (Option.some.inj (show some (Value.slice A0 x.f0.length c0) = some (Value.slice PT x.f0.length Pi) from congrArg (fun l => l[0]?) he)) with nB _ _; rw [nB]; exact Nz), l1, (fun W' hW => by obtain ⟨PT, Pi, MD, Qn, Bb, Bo, he, Xq, Nz, X9, OB, J6, Bh⟩ := At (h W' hW); injection (Option.some.inj (show some (Value.slice A1 x.f1.length c1) = some (Value.slice MD x.f1.length Qn) from congrArg (fun l => l[1]?) he)) with nB _ _; rw [nB]; exact OB), l2, (fun W' hW => by obtain ⟨PT, Pi, MD, Qn, Bb, Bo, he, Xq, Nz, X9, OB, J6, Bh⟩ := At (h W' hW); injection (Option.some.inj (show some (Value.slice A2 x.f2.length c2) = some (Value.slice Bb x.f2.length Bo) from congrArg (fun l => l[2]?) he)) with nB _ _; rw [nB]; exact Bh)⟩
theorem aug (W : World) (ok : Nat → Prop) (x : pr) {A0 : Option Addr} {c0 : Nat} (l0 : x.f0.length ≤ c0) (g0 : Kd.F (Kd.int .i64) W ok A0 x.f0.length x.f0) {A1 : Option Addr} {c1 : Nat} (l1 : x.f1.length ≤ c1) (g1 : Kd.F (Kd.int .i64) W ok A1 x.f1.length x.f1) {A2 : Option Addr} {c2 : Nat} (l2 : x.f2.length ≤ c2) (g2 : Kd.F (Kd.int .i64) W ok A2 x.f2.length x.f2) : Kd.FK ud W ok x [.slice A0 x.f0.length c0, .slice A1 x.f1.length c1, .slice A2 x.f2.length c2, .int .i64 x.f3] := fun W2 hW => ad3 W2 x l0 (g0 W2 hW) l1 (g1 W2 hW) l2 (g2 W2 hW)
def pO (xs : List pr) (i : Int) : pr := xs.getD i.toNat z40
theorem awI {w : World} {A : Option Addr} {n : Nat} {xs : List pr} (h : Kd.C ud w A n xs) (i : Int) (h0 : 0 ≤ i) (h1 : i < n) : ∃ ad A0 c0 A1 c1 A2 c2, A = some ad ∧ w.cell? (ad.add (i.toNat * 4)) = some (.slice A0 (pO xs i).f0.length c0) ∧ w.cell? ⟨(ad.add (i.toNat * 4)).block, (ad.add (i.toNat * 4)).off + 1, none⟩ = some (.slice A1 (pO xs i).f1.length c1) ∧ w.cell? ⟨(ad.add (i.toNat * 4)).block, (ad.add (i.toNat * 4)).off + 2, none⟩ = some (.slice A2 (pO xs i).f2.length c2) ∧ w.cell? ⟨(ad.add (i.toNat * 4)).block, (ad.add (i.toNat * 4)).off + 3, none⟩ = some (.int .i64 (pO xs i).f3) ∧ (pO xs i).f0.length ≤ c0 ∧ (Kd.int .i64).C w A0 (pO xs i).f0.length (pO xs i).f0 ∧ (pO xs i).f1.length ≤ c1 ∧ (Kd.int .i64).C w A1 (pO xs i).f1.length (pO xs i).f1 ∧ (pO xs i).f2.length ≤ c2 ∧ (Kd.int .i64).C w A2 (pO xs i).f2.length (pO xs i).f2 := by
 obtain ⟨ad, c, e, _, hK, hc0⟩ := Kd.rT h z40 i h0 h1
 have hc : ∀ j u, c[j]? = some u → w.cell? (ad.add (i.toNat * 4 + j)) = some u := hc0
 obtain ⟨A0, c0, A1, c1, A2, c2, rfl, l0, g0, l1, g1, l2, g2⟩ := At hK
 exact ⟨ad, A0, c0, A1, c1, A2, c2, e, hc 0 _ rfl, by rw [← ea _ _ 1 (by omega)]; exact hc 1 _ rfl, by rw [← ea _ _ 2 (by omega)]; exact hc 2 _ rfl, by rw [← ea _ _ 3 (by omega)]; exact hc 3 _ rfl, l0, g0, l1, g1, l2, g2⟩
theorem RQ : ∀ x y : List UInt8, (!(Op.bytesLess x y || x == y)) = Op.bytesLess y x
 | [], [] => rfl
 | [], _ :: _ => rfl
 | _ :: _, [] => rfl
 | a :: x, b :: y => by
  have ih := RQ x y
  simp only [Op.bytesLess]
  by_cases h : a = b
  ·subst h
   have h1 : (a < a) = False := by simp
   have h2 : (a :: x == a :: y) = (x == y) := by simp
   simp only [h1, decide_false, BEq.rfl, Bool.true_and, Bool.false_or, h2]
   exact ih
  ·have h2 : (a == b) = false := beq_eq_false_iff_ne.mpr h
   have h3 : (b == a) = false := beq_eq_false_iff_ne.mpr (Ne.symm h)
   have h4 : (a :: x == b :: y) = false := by rw [List.cons_beq_cons, h2, Bool.false_and]
   simp only [h2, h3, h4, Bool.false_and, Bool.or_false]
   rw [Bool.eq_iff_iff]
   simp only [Bool.not_eq_true', decide_eq_false_iff_not, decide_eq_true_iff]
   have h5 : a.toNat ≠ b.toNat := fun e => h (UInt8.toNat_inj.1 e)
   rw [UInt8.lt_iff_toNat_lt, UInt8.lt_iff_toNat_lt]
   omega
@[go_sem high] theorem avW (t : TypeId) (a b : ByteArray) : binOp .gtr t (.string a) (.string b) = pure (.bool (Op.bytesLess b.toList a.toList)) := by
 rw [← RQ]
 simp [binOp, Op.stringOp]
@[go_sem high] theorem aoi (t : TypeId) (a b : ByteArray) : binOp .leq t (.string a) (.string b) = pure (.bool (!Op.bytesLess b.toList a.toList)) := by
 rw [← RQ, Bool.not_not]
 simp [binOp, Op.stringOp]
@[go_sem high] theorem apQ (t : TypeId) (a b : ByteArray) : binOp .geq t (.string a) (.string b) = pure (.bool (!Op.bytesLess a.toList b.toList)) := by
 simp [binOp, Op.stringOp]
end Go.Proofs.Ytcfjdehpbckomaa.Q
