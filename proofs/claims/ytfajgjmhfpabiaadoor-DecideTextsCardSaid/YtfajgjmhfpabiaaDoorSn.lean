/- DecideParses returns true: proved here by steps through the program's text; no condition but those that stand in each theorem. -/
import Derived.WalkSpells
import Derived.Deep.RegionLaw
import Derived.Lib.OthersKept
import Derived.Test.YtfajgjmhfpabiaaDoorShelf
import Derived.Test.YtfajgjmhfpabiaaDoorQ0
import Derived.Test.YtfajgjmhfpabiaaDoorQ2
import Derived.Test.YtfajgjmhfpabiaaDoorQ3
import Derived.Test.YtfajgjmhfpabiaaDoorQ4
import Derived.Test.YtfajgjmhfpabiaaDoorQ5
import Derived.Test.YtfajgjmhfpabiaaDoorSb
import Derived.Test.YtfajgjmhfpabiaaDoorSc
import Derived.Test.YtfajgjmhfpabiaaDoorSe
import Derived.Test.YtfajgjmhfpabiaaDoorSf
import Derived.Test.YtfajgjmhfpabiaaDoorSg
import Derived.Test.YtfajgjmhfpabiaaDoorSh
import Derived.Test.YtfajgjmhfpabiaaDoorSi
import Derived.Test.YtfajgjmhfpabiaaDoorSj
import Derived.Test.YtfajgjmhfpabiaaDoorSk
import Derived.Test.YtfajgjmhfpabiaaDoorSl
import Derived.Test.YtfajgjmhfpabiaaDoorSm
import Derived.Test.YtfajgjmhfpabiaaDoorQ6
import Derived.Deep.QuietTactic
import Derived.BigQuiet
namespace Go.Proofs.YtfajgjmhfpabiaaDoor.Scratch
set_option linter.unusedVariables false
open Go.RowKit Go.Proofs.YtfajgjmhfpabiaaDoorW.PrintWords Go.Proofs.YtfajgjmhfpabiaaDoorW.PrintLast Go.Proofs.YtfajgjmhfpabiaaDoorW.PrintMore Go.Proofs.YtfajgjmhfpabiaaDoor.Q
attribute [local go_sem] max2_int min2_int max_two min_two max_three min_three max_four min_four
theorem parseGo_none : ∀ (l : List ByteArray) (L : List S35) (er at_ : Int), parseGo l L = (none, er, at_) → er ≠ 0
  | [], L, er, at_, h => by
    rw [parseGo] at h
    cases h
  | x :: xs, L, er, at_, h => by
    rw [parseGo] at h
    split at h
    · cases h
      decide
    · split at h
      · cases h
        decide
      · split at h
        · cases h
          decide
        · exact parseGo_none xs _ er at_ h
set_option maxHeartbeats 8000000 in
set_option maxRecDepth 100000 in
theorem DecideParses_long (s : ByteArray) (hs : 3000 < s.size) (w : World) (hG : Glob w) : Calls Tryd.prog 3 #[.string s] w fun e w' => e = .returned (.bool true) ∧ KeptS w w' (fun _ => False) := by
  have HAW := Aside0.mk (awake_calls w hG)
  have g1 : decide ((s.size : Int) > 3000) = true := decide_eq_true (by omega)
  have g2 : decide (3000 < (s.size : Int)) = true := decide_eq_true (by omega)
  have g3 : decide (3000 < s.size) = true := decide_eq_true (by omega)
  clear hs hG
  go_enter Tryd.func3, Tryd.ntmps3
  go_wp2_with (first | (go_at_call 10; go_loud ((with_reducible refine (HAW.out).mono ?_); rintro e w5 ⟨rfl, hk5⟩; have HK5 := Aside0.mk hk5; clear hk5)))
  go_ret
  exact ⟨rfl, HK5.out⟩
set_option maxHeartbeats 8000000 in
set_option maxRecDepth 100000 in
theorem DecideParses_bad (s : ByteArray) (hs : s.size ≤ 3000) (er at_ : Int) (hp : parseGo (splitL s s.size 0 0 []) [] = (none, er, at_)) (w : World) (hG : Glob w) : Calls Tryd.prog 3 #[.string s] w fun e w' => e = .returned (.bool true) ∧ KeptS w w' (fun _ => False) := by
  obtain ⟨kr, hkr⟩ := (rparse36_ev s (by omega)).rounds
  rw [hp] at hkr
  have HKR := Aside0.mk (show treemergeref36_Parse.f kr s = some (([] : List S35), er, at_) from hkr)
  have HP : Aside0 (∀ W, Glob W → Calls Tryd.prog 11 #[.string s] W fun e w' => e = .returned (.tuple #[.pointer none, .int .i64 er, .int .i64 at_]) ∧ KeptS W w' (fun _ => False)) := ⟨fun W hW => (decide_Parse.calls s (by omega) W hW).mono fun e w' q => by
    rw [hp] at q
    obtain ⟨⟨L, h1, _⟩ | ⟨e1, a1, h1, h2⟩, hk⟩ := q
    · cases h1
    · cases h1
      exact ⟨h2, hk⟩⟩
  have hne := parseGo_none _ _ _ _ hp
  have HG := Aside0.mk hG
  have g1 : decide ((s.size : Int) > 3000) = false := decide_eq_false (by omega)
  have g2 : decide (3000 < (s.size : Int)) = false := decide_eq_false (by omega)
  have g3 : decide (3000 < s.size) = false := decide_eq_false (by omega)
  have e1 : (er == 0) = false := beq_eq_false_iff_ne.2 hne
  have e2 : (er != 0) = true := bne_iff_ne.2 hne
  clear hs hG hkr hp
  go_enter Tryd.func3, Tryd.ntmps3
  go_wp2_with (first | (go_at_call 11; go_loud ((with_reducible refine (HP.out _ HG.out).mono ?_); rintro e w1 ⟨rfl, hk1⟩; have HK1 := Aside0.mk hk1; have HG1 := Aside0.mk (Glob.keptGS hk1 (fun _ h => h.elim) HG.out); clear hk1)) | (go_at_call 12; go_loud ((with_reducible refine (treemergeref36_Parse.calls kr s _ _ _ _ HKR.out).mono ?_); rintro e w2 ⟨v2, rfl, hr2, hb2⟩; obtain ⟨A2, c2, rfl⟩ := Kd.R_slice hr2; have HK2 := Aside0.mk (HK1.out.below hb2); have HG2 := Aside0.mk (Glob.keptGS HK2.out (fun _ h => h.elim) HG.out); clear hr2 hb2)) | (go_at_call 10; go_loud ((with_reducible refine (awake_calls _ HG2.out).mono ?_); rintro e w5 ⟨rfl, hk5⟩; have HK5 := Aside0.mk (HK2.out.then_ hk5 (fun _ h => h.elim)); clear hk5)))
  go_ret
  exact ⟨rfl, HK5.out⟩

theorem parseGo_some : ∀ (l : List ByteArray) (L M : List S35) (er at_ : Int), parseGo l L = (some M, er, at_) → er = 0 ∧ at_ = 0
  | [], L, M, er, at_, h => by
    rw [parseGo] at h
    cases h
    exact ⟨rfl, rfl⟩
  | x :: xs, L, M, er, at_, h => by
    rw [parseGo] at h
    split at h
    · cases h
    · split at h
      · cases h
      · split at h
        · cases h
        · exact parseGo_some xs _ M er at_ h
set_option maxHeartbeats 8000000 in
set_option maxRecDepth 100000 in
theorem DecideParses_good (s : ByteArray) (hs : s.size ≤ 3000) (L : List S35) (hp : parseGo (splitL s s.size 0 0 []) [] = (some L, 0, 0)) (w : World) (hG : Glob w) : Calls Tryd.prog 3 #[.string s] w fun e w' => e = .returned (.bool true) ∧ KeptS w w' (fun _ => False) := by
  obtain ⟨kr, hkr⟩ := (rparse36_ev s (by omega)).rounds
  rw [hp] at hkr
  have HKR := Aside0.mk (show treemergeref36_Parse.f kr s = some (L, 0, 0) from hkr)
  have HP : Aside0 (∀ W, Glob W → Calls Tryd.prog 11 #[.string s] W fun e w' => (∃ b, e = .returned (.tuple #[.pointer (some ⟨b, 0, none⟩), .int .i64 0, .int .i64 0]) ∧ (Asc L ∧ L.length ≤ 256) ∧ BookAt w' (fun k => W.heap.size ≤ k ∧ k < w'.heap.size) W.heap.size b L) ∧ KeptS W w' (fun _ => False)) := ⟨fun W hW => (decide_Parse.calls s (by omega) W hW).mono fun e w' q => by
    rw [hp] at q
    obtain ⟨⟨L, h1, h3, h4, b, h5, h6⟩ | ⟨e1, a1, h1, h2⟩, hk⟩ := q
    · cases h1
      exact ⟨⟨b, h5, ⟨h3, h4⟩, h6⟩, hk⟩
    · cases h1⟩
  have HG := Aside0.mk hG
  have g1 : decide ((s.size : Int) > 3000) = false := decide_eq_false (by omega)
  have g2 : decide (3000 < (s.size : Int)) = false := decide_eq_false (by omega)
  have g3 : decide (3000 < s.size) = false := decide_eq_false (by omega)
  have HSM : L.length ≤ 256 → Aside0 (∃ k, treemergeref36_Same.f k L L = some true) := fun h => ⟨(same_ev L (by omega)).rounds⟩
  clear hs hG hkr hp
  go_enter Tryd.func3, Tryd.ntmps3
  go_wp2_with (first | (go_at_call 11; go_loud ((with_reducible refine (HP.out _ HG.out).mono ?_); rintro e w1 ⟨⟨b, rfl, hal, hbk1⟩, hk1⟩; have HAL := Aside0.mk hal; obtain ⟨ks, HKS⟩ := (HSM hal.2).out; have HKS := Aside0.mk HKS; have HBK1 := Aside0.mk hbk1; have HK1 := Aside0.mk hk1; have HG1 := Aside0.mk (Glob.keptGS hk1 (fun _ h => h.elim) HG.out); clear hk1 hbk1 hal)) | (go_at_call 12; go_loud ((with_reducible refine (treemergeref36_Parse.calls kr s _ _ _ _ HKR.out).mono ?_); rintro e w2 ⟨v2, rfl, hr2, hb2⟩; obtain ⟨A2, c2, rfl⟩ := Kd.R_slice hr2; have HR2 := Aside0.mk hr2; have HBK2 := Aside0.mk (HBK1.out.below hb2); have HK2 := Aside0.mk (HK1.out.below hb2); have HG2 := Aside0.mk (Glob.keptGS HK2.out (fun _ h => h.elim) HG.out); have HW1 := Aside0.mk hb2.size; clear hr2 hb2)) | (go_at_call 10; go_loud ((with_reducible refine (awake_calls _ HG2.out).mono ?_); rintro e w5 ⟨rfl, hk5⟩; have HK5 := Aside0.mk (HK2.out.then_ hk5 (fun _ h => h.elim)); have HR5 := Aside0.mk (R_keptS HR2.out hk5 (fun _ _ h => h)); have HBK5 := Aside0.mk (HBK2.out.keptS hk5 (fun _ _ h => h)); clear hk5)) | (go_at_call 14; go_loud ((with_reducible refine (decide_Book_List.calls _ _ _ b L HBK5.out HAL.out.1.nodup (by have := HAL.out.2; omega)).mono ?_); rintro e w6 ⟨v6, rfl, hr6, hb6⟩; obtain ⟨A6, c6, rfl⟩ := Kd.R_slice hr6; have HR6 := Aside0.mk hr6; have HR2b := Aside0.mk (Kd.R_below HR5.out hb6); have HK6 := Aside0.mk (HK5.out.below hb6); clear hr6 hb6)) | (go_at_call 13; go_loud ((with_reducible refine (treemergeref36_Same.calls ks _ _ L _ _ L true _ (Kd.R_reads' HR6.out).2.2 (Kd.R_reads' HR6.out).2.1 (Kd.R_reads' HR2b.out).2.2 (Kd.R_reads' HR2b.out).2.1 HKS.out).mono ?_); rintro e w7 ⟨rfl, hb7⟩; have HK7 := Aside0.mk (HK6.out.below hb7.below); clear hb7)))
  go_ret
  exact ⟨rfl, HK7.out⟩
theorem DecideParses_row (s : ByteArray) (hs : s.size ≤ 140737488351232) (w : World) (hG : Glob w) : Calls Tryd.prog 3 #[.string s] w fun e w' => e = .returned (.bool true) ∧ Below w.heap.size w w' := by
  by_cases h : s.size ≤ 3000
  · obtain ⟨o, er, at_, e⟩ : ∃ o er at_, parseGo (splitL s s.size 0 0 []) [] = (o, er, at_) := ⟨_, _, _, rfl⟩
    cases o with
    | none => exact (DecideParses_bad s h er at_ e w hG).mono fun e w' q => ⟨q.1, q.2.asBelow⟩
    | some L =>
      obtain ⟨rfl, rfl⟩ := parseGo_some _ _ _ _ _ e
      exact (DecideParses_good s h L e w hG).mono fun e w' q => ⟨q.1, q.2.asBelow⟩
  · exact (DecideParses_long s (by omega) w hG).mono fun e w' q => ⟨q.1, q.2.asBelow⟩

end Go.Proofs.YtfajgjmhfpabiaaDoor.Scratch
