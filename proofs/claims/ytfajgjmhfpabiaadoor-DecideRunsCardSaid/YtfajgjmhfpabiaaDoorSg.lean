/- What Parse makes of lines: proved here by steps through the program's text; no condition but those that stand in each theorem. -/
import Derived.WalkSpells
import Derived.Deep.RegionLaw
import Derived.Lib.OthersKept
import Derived.Test.YtfajgjmhfpabiaaDoorShelf
import Derived.Test.YtfajgjmhfpabiaaDoorQ0
import Derived.Test.YtfajgjmhfpabiaaDoorQ4
import Derived.Test.YtfajgjmhfpabiaaDoorQ5
import Derived.Test.YtfajgjmhfpabiaaDoorSc
import Derived.Test.YtfajgjmhfpabiaaDoorSf
namespace Go.Proofs.YtfajgjmhfpabiaaDoor.Scratch
set_option linter.unusedVariables false
open Go.RowKit Go.Proofs.YtfajgjmhfpabiaaDoorW.PrintWords Go.Proofs.YtfajgjmhfpabiaaDoorW.PrintLast Go.Proofs.YtfajgjmhfpabiaaDoorW.PrintMore Go.Proofs.YtfajgjmhfpabiaaDoor.Q
attribute [local go_sem] max2_int min2_int max_two min_two max_three min_three max_four min_four
theorem BookAt.bound {w : World} {ok : Nat → Prop} {base b : Nat} {L : List S35} (h : BookAt w ok base b L) : BookAt w (fun k => ok k ∧ base ≤ k ∧ k < w.heap.size) base b L := by
  obtain ⟨mb, v, ents, h1, h2, h3, h4, h5, h6, h7⟩ := h.out
  exact ⟨mb, v, ents, h1, h2, h3, Kd.R_mono (Kd.R_bound h4) (fun k hk => ⟨⟨hk.1.1, hk.2.1, hk.2.2.1⟩, hk.1.2⟩), h5, ⟨⟨h6.1, h6.2, blk_lt h1⟩, h6.2⟩, ⟨⟨h7.1, h7.2, h2.lt⟩, h7.2⟩⟩
theorem BookAt.mono {w : World} {ok ok' : Nat → Prop} {base b : Nat} {L : List S35} (h : BookAt w ok base b L) (hok : ∀ k, ok k → ok' k) : BookAt w ok' base b L := by
  obtain ⟨mb, v, ents, h1, h2, h3, h4, h5, h6, h7⟩ := h.out
  exact ⟨mb, v, ents, h1, h2, h3, Kd.R_mono h4 (fun k hk => ⟨hok k hk.1, hk.2⟩), h5, ⟨hok _ h6.1, h6.2⟩, ⟨hok _ h7.1, h7.2⟩⟩
theorem bookPut_last : ∀ (L : List S35) (d : S35), (∀ x ∈ L, x.f0 < d.f0) → bookPut L d = L ++ [d]
  | [], _, _ => rfl
  | x :: l, d, h => by
    have := h x List.mem_cons_self
    rw [bookPut, if_neg (by omega), if_neg (by omega), bookPut_last l d (fun y hy => h y (List.mem_cons_of_mem _ hy))]
    rfl
def lastK (L : List S35) : Int := (L.getLast?.map fun d => d.f0).getD (-1)
theorem last_top : ∀ (L : List S35) (k : Int), Asc L → lastK L < k → ∀ x ∈ L, x.f0 < k
  | [], _, _, _ => fun _ h => by cases h
  | [y], k, _, h => fun x hx => by
    have : x = y := by simpa using hx
    subst this
    simpa [lastK] using h
  | y :: z :: l, k, ha, h => fun x hx => by
    have hc := List.pairwise_cons.1 ha
    have ih := last_top (z :: l) k hc.2 (by simpa [lastK] using h)
    rcases List.mem_cons.1 hx with rfl | hx
    · have h1 := hc.1 z List.mem_cons_self
      have h2 := ih z List.mem_cons_self
      omega
    · exact ih x hx
theorem lastK_rd (L : List S35) (k : Nat) (h : L.length = k + 1) : rd (L.map fun d => d.f0) (k : Int) = lastK L := by
  unfold rd lastK
  rw [Int.toNat_natCast, List.getLast?_eq_getElem?, h, List.getD_eq_getElem?_getD, List.getElem?_map, Nat.add_sub_cancel, List.getElem?_eq_getElem (by omega)]
  rfl
theorem bookIn_last {L : List S35} {k : Int} (h : ∀ x ∈ L, x.f0 < k) : bookIn L k = none := by
  unfold bookIn
  rw [List.find?_eq_none]
  intro x hx
  have := h x hx
  simp
  omega
theorem readS_plain (s : ByteArray) (d : S35) (h : readS s = some d) : (0 ≤ d.f0 ∧ d.f0 < 2 ^ 64) ∧ faultS d.f1 d.f2 d.f3 = 0 ∧ (lineS d.f0 d.f1 d.f2 d.f3).toList = s.toList := by
  unfold readS at h
  split at h
  · split at h
    · rename_i h2
      split at h
      · rename_i h3
        obtain rfl := Option.some.inj h
        refine ⟨parseS_range _ _ (Prod.ext rfl h2), h3⟩
      · cases h
    · cases h
  · cases h
/-- The decisions of lines, or the error and the line's number. -/
def parseGo : List ByteArray → List S35 → Option (List S35) × Int × Int
  | [], L => (some L, 0, 0)
  | x :: xs, L => if 256 ≤ L.length then (none, 3, (L.length : Int) + 1) else
    match readS x with
    | none => (none, 1, (L.length : Int) + 1)
    | some d => if d.f0 ≤ lastK L then (none, 14, (L.length : Int) + 1) else parseGo xs (L ++ [d])
set_option maxHeartbeats 8000000 in
set_option maxRecDepth 100000 in
theorem decide_New.calls2 (w : World) : Calls Tryd.prog 16 #[] w fun e w' => ∃ b, e = .returned (.pointer (some ⟨b, 0, none⟩)) ∧ BookAt w' (fun k => w.heap.size ≤ k ∧ k < w'.heap.size) w.heap.size b [] ∧ Below w.heap.size w w' :=
  (decide_New.calls w).mono fun e w' ⟨b, h1, h2, h3⟩ => ⟨b, h1, h2.bound.mono (fun k hk => hk.2), h3⟩

end Go.Proofs.YtfajgjmhfpabiaaDoor.Scratch
