/- Parse: proved here by steps through the program's text; no condition but those that stand in each theorem. -/
import Derived.WalkSpells
import Derived.Deep.RegionLaw
import Derived.Lib.OthersKept
import Derived.Test.YtfajgjmhfpabiaaDoorShelf
import Derived.Test.YtfajgjmhfpabiaaDoorQ0
import Derived.Test.YtfajgjmhfpabiaaDoorQ4
import Derived.Test.YtfajgjmhfpabiaaDoorQ5
import Derived.Test.YtfajgjmhfpabiaaDoorSb
import Derived.Test.YtfajgjmhfpabiaaDoorSc
import Derived.Test.YtfajgjmhfpabiaaDoorSf
import Derived.Test.YtfajgjmhfpabiaaDoorSg
import Derived.Deep.QuietTactic
import Derived.BigQuiet
namespace Go.Proofs.YtfajgjmhfpabiaaDoor.Scratch
set_option linter.unusedVariables false
open Go.RowKit Go.Proofs.YtfajgjmhfpabiaaDoorW.PrintWords Go.Proofs.YtfajgjmhfpabiaaDoorW.PrintLast Go.Proofs.YtfajgjmhfpabiaaDoorW.PrintMore Go.Proofs.YtfajgjmhfpabiaaDoor.Q
attribute [local go_sem] max2_int min2_int max_two min_two max_three min_three max_four min_four
theorem splitL_len (s : ByteArray) : ∀ (g i fr : Nat) (out : List ByteArray), (splitL s g i fr out).length ≤ out.length + g + 1
  | 0, _, fr, out => by
    rw [splitL]
    split
    · simp
    · omega
  | g + 1, i, fr, out => by
    rw [splitL]
    split
    · have := splitL_len s g (i + 1) (i + 1) (out ++ [s.extract fr (i + 1)])
      simp at this
      omega
    · have := splitL_len s g (i + 1) fr out
      omega
theorem ext_size (s : ByteArray) (i j : Nat) : (s.extract i j).size ≤ s.size := by
  simp only [ByteArray.size_extract]
  omega
theorem splitL_size (s : ByteArray) : ∀ (g i fr : Nat) (out : List ByteArray), (∀ x ∈ out, x.size ≤ s.size) → ∀ x ∈ splitL s g i fr out, x.size ≤ s.size
  | 0, _, fr, out, h => by
    rw [splitL]
    split
    · intro x hx
      rcases List.mem_append.1 hx with hx | hx
      · exact h x hx
      · rw [List.mem_singleton.1 hx]
        exact ext_size _ _ _
    · exact h
  | g + 1, i, fr, out, h => by
    rw [splitL]
    split
    · refine splitL_size s g (i + 1) (i + 1) _ (fun x hx => ?_)
      rcases List.mem_append.1 hx with hx | hx
      · exact h x hx
      · rw [List.mem_singleton.1 hx]
        exact ext_size _ _ _
    · exact splitL_size s g (i + 1) fr out h
theorem GlobAt.keptG {w w' : World} {S : Nat → Prop} {g : Nat} {cs : Array Value} (hk : Kept w w' S) (hs : ∀ k, S k → w.heap.size ≤ k) (h : GlobAt w g cs) : GlobAt w' g cs := by
  have hl := h.lt
  obtain ⟨t, fr, h⟩ := h
  exact ⟨t, fr, (hk.2 g hl (fun q => by have := hs g q; omega)).trans h⟩
theorem Glob.keptG {w w' : World} {S : Nat → Prop} (hk : Kept w w' S) (hs : ∀ k, S k → w.heap.size ≤ k) (h : Glob w) : Glob w' := by first | exact GlobAt.keptG hk hs h | exact ⟨GlobAt.keptG hk hs h.1, GlobAt.keptG hk hs h.2⟩
theorem KeptS.ofDrewN {W W2 : World} {S : Nat → Prop} {n : Nat} (h : KeptS (W.drewN n) W2 S) : KeptS W W2 S := (KeptS.of_below (pw_below_drewN (Below.refl _ _) n) S).then_ h (fun _ h => .inl h)
theorem Glob.keptGS {w w' : World} {S : Nat → Prop} (hk : KeptS w w' S) (hs : ∀ k, S k → w.heap.size ≤ k) (h : Glob w) : Glob w' := Glob.keptG hk.kept hs h
set_option maxHeartbeats 8000000 in
set_option maxRecDepth 100000 in
theorem decide_Parse.calls (s : ByteArray) (hs : s.size ≤ 60000) (w : World) (hG : Glob w) : Calls Tryd.prog 11 #[.string s] w fun e w' => ((∃ L, parseGo (splitL s s.size 0 0 []) [] = (some L, 0, 0) ∧ Asc L ∧ L.length ≤ 256 ∧ ∃ b, e = .returned (.tuple #[.pointer (some ⟨b, 0, none⟩), .int .i64 0, .int .i64 0]) ∧ BookAt w' (fun k => w.heap.size ≤ k ∧ k < w'.heap.size) w.heap.size b L) ∨ (∃ er at_, parseGo (splitL s s.size 0 0 []) [] = (none, er, at_) ∧ e = .returned (.tuple #[.pointer none, .int .i64 er, .int .i64 at_]))) ∧ KeptS w w' (fun _ => False) := by
  have HG := Aside0.mk hG
  have HSP := Aside0.mk (fun W => lines_Split.calls s W (by omega))
  have g1 : decide ((65536 : Int) < (s.size : Int)) = false := decide_eq_false (by omega)
  have g2 : decide ((s.size : Int) > 65536) = false := decide_eq_false (by omega)
  have g3 : decide (65536 < s.size) = false := decide_eq_false (by omega)
  have HLN : Aside0 (∀ x ∈ splitL s s.size 0 0 [], x.size ≤ 60000) := ⟨fun x hx => Nat.le_trans (splitL_size s _ _ _ _ (fun _ h => by cases h) x hx) hs⟩
  have HLL : Aside0 ((splitL s s.size 0 0 []).length ≤ 60001) := ⟨by have := splitL_len s s.size 0 0 []; simp at this; omega⟩
  clear hG
  generalize splitL s s.size 0 0 [] = LS at *
  obtain ⟨RES, hRES⟩ : ∃ RES, RES = parseGo LS [] := ⟨_, rfl⟩
  rw [← hRES]
  have HRES := Aside0.mk hRES
  clear hRES
  go_enter Tryd.func11, Tryd.ntmps11
  go_wp2_with (first | (go_at_call 16; ((with_reducible refine (decide_New.calls2 _).mono ?_); rintro e w1 ⟨b, rfl, hbk, hb1⟩; have HBK1 := Aside0.mk hbk; have HB1 := Aside0.mk hb1; clear hbk hb1)) | (go_at_call 29; ((with_reducible refine (HSP.out _).mono ?_); rintro e w2 ⟨v1, rfl, hr2, hb2⟩; obtain ⟨A1, c1, rfl⟩ := Kd.R_slice hr2; have HR2 := Aside0.mk hr2; have HB2 := Aside0.mk hb2; clear hr2 hb2)))
  obtain ⟨ok, hok⟩ : ∃ ok : Nat → Prop, ok = fun x => (w.heap.size ≤ x ∧ x < w1.heap.size) ∨ w2.heap.size ≤ x := ⟨_, rfl⟩
  have HOK := Aside0.mk (show ∀ x, ok x ↔ ((w.heap.size ≤ x ∧ x < w1.heap.size) ∨ w2.heap.size ≤ x) from fun x => by rw [hok])
  clear hok
  have HW1 := Aside0.mk HB1.out.size
  have HW2 := Aside0.mk HB2.out.size
  have HBK2 : Aside0 (BookAt w2 ok w.heap.size b []) := ⟨(HBK1.out.mono (ok' := ok) (fun k hk => (HOK.out k).2 (.inl hk))).below HB2.out⟩
  have HR3 : Aside0 (Kd.string.R 9 w2 w1.heap.size (fun x => w1.heap.size ≤ x ∧ x < w2.heap.size) (Value.slice A1 LS.length c1) LS) := ⟨Kd.R_mono (Kd.R_bound HR2.out) (fun k hk => ⟨hk.2.1, hk.2.2.1⟩)⟩
  have HKE : Aside0 (KeptS w w2 (fun _ => False)) := ⟨(KeptS.of_below HB1.out _).below HB2.out⟩
  clear HBK1 HR2 HB1 HB2
  go_loopg [17] LS.length (fun gk v17 w' => ∃ (k : Nat) (L : List S35), v17 = .int .i64 k ∧ k + gk = LS.length ∧ L.length = k ∧ Aside0 (Asc L) ∧ Aside0 (L.length ≤ 256 ∧ ∀ x ∈ L, 0 ≤ x.f0) ∧ Aside0 (parseGo (LS.drop k) L = RES) ∧ Aside0 (BookAt w' ok w.heap.size b L) ∧ Aside0 (Kd.string.R 9 w' w1.heap.size (fun x => w1.heap.size ≤ x ∧ x < w2.heap.size) (Value.slice A1 LS.length c1) LS) ∧ Aside0 (KeptS w w' (fun _ => False)) ∧ Aside0 (w2.heap.size ≤ w'.heap.size))
  case atStart => exact ⟨0, [], rfl, by omega, rfl, ⟨List.Pairwise.nil⟩, ⟨by simp, by simp⟩, ⟨HRES.out.symm⟩, HBK2, HR3, HKE, ⟨Nat.le_refl _⟩⟩
  case round =>
    obtain ⟨k, L, rfl, hk, hL, HA, HPO, HPG, HBK, HR, HKP, HSZ⟩ := hrel
    obtain ⟨go, rfl⟩ : ∃ go, go = gk := ⟨gk, rfl⟩
    have HK := Aside0.mk hk
    have HL := Aside0.mk hL
    cases go with
    | zero =>
      have g1 : decide ((k : Int) < (LS.length : Int)) = false := decide_eq_false (by omega)
      have g2 : decide (k < LS.length) = false := decide_eq_false (by omega)
      have HE := Aside0.mk (show RES = (some L, 0, 0) by rw [← HPG.out, List.drop_of_length_le (by omega), parseGo])
      clear hk hL
      go_wp2
      go_ret3
      exact ⟨.inl ⟨L, HE.out, HA.out, HPO.out.1, b, rfl, HBK.out.bound.mono (fun k hk => hk.2)⟩, HKP.out⟩
    | succ g =>
      have hkl : k < LS.length := by omega
      have g1 : decide ((k : Int) < (LS.length : Int)) = true := decide_eq_true (by omega)
      have g2 : decide (k < LS.length) = true := decide_eq_true (by omega)
      have p12 : 0 ≤ (k : Int) := by omega
      have q12 : (k : Int) < (LS.length : Int) := by omega
      obtain ⟨ad, e, hx⟩ := Kd.at_string (Kd.R_reads' HR.out).2.2 (k : Int) p12 q12
      cases e
      have hrd : rdOf ByteArray.empty LS (k : Int) = LS[k] := by simp [rdOf, List.getD_eq_getElem?_getD, List.getElem?_eq_getElem hkl]
      rw [Int.toNat_natCast, hrd] at hx
      have hpg := HPG.out
      rw [List.drop_eq_getElem_cons hkl, parseGo] at hpg
      have hln := HLN.out LS[k] (List.getElem_mem hkl)
      obtain ⟨x, hxe⟩ : ∃ x, x = LS[k] := ⟨_, rfl⟩
      rw [← hxe] at hx hpg hln
      clear hrd hxe
      have hwk : IntKind.i64.wrap ((k : Int) + 1) = (k : Int) + 1 := (i64_w _).trans (by have := HLL.out; unfold wrap64; omega)
      have hg256 : decide ((k : Int) ≥ 256) = decide (256 ≤ k) := decide_eq_decide.2 (by omega)
      have hg257 : decide ((256 : Int) ≤ (k : Int)) = decide (256 ≤ k) := decide_eq_decide.2 (by omega)
      have HPG2 := Aside0.mk hpg
      by_cases h256 : 256 ≤ k
      · have hd := decide_eq_true h256
        have HE := Aside0.mk (show RES = (none, 3, (k : Int) + 1) by rw [← HPG2.out, if_pos (by omega), hL])
        rw [hd] at hg256 hg257
        clear hk hL hpg hln h256 hkl
        go_wp2
        go_ret3
        exact ⟨.inr ⟨_, _, HE.out, rfl⟩, HKP.out⟩
      · have hd := decide_eq_false h256
        rw [hd] at hg256 hg257
        rw [if_neg (by omega)] at hpg
        have HGR := Aside0.mk (Glob.keptGS HKP.out (fun _ h => h.elim) HG.out)
        cases hr : readS x with
        | none =>
          have HRD : Aside0 (∀ W, Glob W → Calls Tryd.prog 30 #[.string x] W fun e w' => (∃ d : S35, e = .returned (.tuple #[.agg #[.int .u64 d.f0, .int .i64 d.f1, .string d.f2, .string d.f3], .bool false]) ∧ True) ∧ Below W.heap.size W w') := ⟨fun W hW => (read_calls x (by omega) W hW).mono fun e w' q => by rw [hr] at q; exact ⟨q.1.imp fun d h => ⟨h.1, trivial⟩, q.2⟩⟩
          rw [hr] at hpg
          have HE := Aside0.mk (show RES = (none, 1, (k : Int) + 1) by rw [← hpg, hL])
          clear hk hL hpg hln h256 hkl HPG2 hr
          go_wp2_with ((go_at_call 30; ((with_reducible refine (HRD.out _ HGR.out).mono ?_); rintro e w3 ⟨⟨d0, rfl, hd0⟩, hb3⟩; have HD0 := Aside0.mk hd0; have HB3 := Aside0.mk hb3; have hz : (w3.alloc (.cells #[.int .u64 0, .int .i64 0, .string ⟨#[]⟩, .string ⟨#[]⟩] 35 (0, 0))).heap[w3.heap.size]? = some (.cells #[.int .u64 0, .int .i64 0, .string ⟨#[]⟩, .string ⟨#[]⟩] 35 (0, 0)) := blk_new w3 _; have hz0 := (blk_cell hz 0).trans rfl; have hz1 := (blk_cell hz 1).trans rfl; have hz2 := (blk_cell hz 2).trans rfl; have hz3 := (blk_cell hz 3).trans rfl; have hf0 := blk_frozen hz 0; have hf1 := blk_frozen hz 1; have hf2 := blk_frozen hz 2; have hf3 := blk_frozen hz 3; have HZ3 := Aside0.mk hz; clear hz hb3 hd0)))
          go_ret3
          exact ⟨.inr ⟨_, _, HE.out, rfl⟩, KeptS.alloc (HKP.out.below HB3.out) _⟩
        | some d =>
          have HRD : Aside0 (∀ W, Glob W → Calls Tryd.prog 30 #[.string x] W fun e w' => (∃ d' : S35, e = .returned (.tuple #[.agg #[.int .u64 d'.f0, .int .i64 d'.f1, .string d'.f2, .string d'.f3], .bool true]) ∧ d = d') ∧ Below W.heap.size W w') := ⟨fun W hW => (read_calls x (by omega) W hW).mono fun e w' q => by rw [hr] at q; exact ⟨q.1.imp fun d h => ⟨h.1, h.2 _ rfl⟩, q.2⟩⟩
          rw [hr] at hpg
          have HPL := Aside0.mk (readS_plain x d hr)
          have HPG3 := Aside0.mk hpg
          have h256' := h256
          clear hk hL hpg hln h256 hkl HPG2 hr
          go_wp2_with ((go_at_call 30; ((with_reducible refine (HRD.out _ HGR.out).mono ?_); rintro e w3 ⟨⟨d0, rfl, hd0⟩, hb3⟩; have HD0 := Aside0.mk hd0; have HB3 := Aside0.mk hb3; have hz : (w3.alloc (.cells #[.int .u64 0, .int .i64 0, .string ⟨#[]⟩, .string ⟨#[]⟩] 35 (0, 0))).heap[w3.heap.size]? = some (.cells #[.int .u64 0, .int .i64 0, .string ⟨#[]⟩, .string ⟨#[]⟩] 35 (0, 0)) := blk_new w3 _; have hz0 := (blk_cell hz 0).trans rfl; have hz1 := (blk_cell hz 1).trans rfl; have hz2 := (blk_cell hz 2).trans rfl; have hz3 := (blk_cell hz 3).trans rfl; have hf0 := blk_frozen hz 0; have hf1 := blk_frozen hz 1; have hf2 := blk_frozen hz 2; have hf3 := blk_frozen hz 3; have HZ3 := Aside0.mk hz; clear hz hb3 hd0)))
          obtain rfl := HD0.out
          clear hz0 hz1 hz2 hz3 hf0 hf1 hf2 hf3 HD0
          have HZ5 : Aside0 ((w3.alloc (.cells #[.int .u64 d.f0, .int .i64 d.f1, .string d.f2, .string d.f3] 35 (0, 0))).heap[w3.heap.size]? = some (.cells #[.int .u64 d.f0, .int .i64 d.f1, .string d.f2, .string d.f3] 35 (0, 0))) := ⟨blk_new w3 _⟩
          have HB5 : Aside0 (Below wr.heap.size wr ((w3.alloc (.cells #[.int .u64 d.f0, .int .i64 d.f1, .string d.f2, .string d.f3] 35 (0, 0))))) := ⟨below_alloc HB3.out _⟩
          have HBK5 := Aside0.mk (HBK.out.below HB5.out)
          have hz0 := (blk_cell HZ5.out 0).trans rfl
          have hz1 := (blk_cell HZ5.out 1).trans rfl
          have hz2 := (blk_cell HZ5.out 2).trans rfl
          have hz3 := (blk_cell HZ5.out 3).trans rfl
          have HFR : Aside0 (∀ q, ((w3.alloc (.cells #[.int .u64 d.f0, .int .i64 d.f1, .string d.f2, .string d.f3] 35 (0, 0)))).heap.size ≤ q → ok q) := ⟨fun q hq => (HOK.out q).2 (.inr (Nat.le_trans HSZ.out (Nat.le_trans HB5.out.size hq)))⟩
          have HAD := Aside0.mk (fun n => addD (((w3.alloc (.cells #[.int .u64 d.f0, .int .i64 d.f1, .string d.f2, .string d.f3] 35 (0, 0)))).drewN n) ok w.heap.size b L (HBK.out.below (pw_below_drewN HB5.out n)) HA.out d HFR.out)
          have H256 := Aside0.mk h256'
          cases k with
          | zero =>
            have HLK := Aside0.mk (show ¬ d.f0 ≤ lastK L from by have := HPL.out.1.1; have : L = [] := List.eq_nil_of_length_eq_zero HL.out; subst this; show ¬ d.f0 ≤ -1; omega)
            have HPG4 := Aside0.mk (show parseGo (LS.drop (0 + 1)) (L ++ [d]) = RES by rw [← HPG3.out, if_neg HLK.out])
            have HLT := Aside0.mk (show L.length < 256 from by have := HL.out; have := H256.out; omega)
            have HFA := Aside0.mk (show decide_fault.f 1000 d.f0 d.f1 d.f2 d.f3 = some 0 by rw [fault_is, HPL.out.2.1])
            have HTOP := Aside0.mk (last_top L d.f0 HA.out (by have := HLK.out; omega))
            have HNI := Aside0.mk (bookIn_last HTOP.out)
            have HPT := Aside0.mk (bookPut_last L d HTOP.out)
            clear h256'
            go_quiet (fail)
            go_wp2_with ((go_at_call 17; go_loud ((with_reducible refine (HAD.out _ HLT.out 1000 HFA.out HNI.out).mono ?_); rintro e w6 ⟨rfl, hbk6, hk6⟩; have HBK6 := Aside0.mk hbk6; have HK6 := Aside0.mk hk6.ofDrewN; clear hbk6 hk6)))
            go_roundg g
            case measure => omega
            case rel => exact ⟨0 + 1, bookPut L d, by go_num, by have := HK.out; omega, by rw [HPT.out, List.length_append, List.length_singleton]; have := HL.out; omega, ⟨bookPut_asc L d HA.out⟩, ⟨by rw [HPT.out, List.length_append, List.length_singleton]; have := HLT.out; omega, fun x hx => by rcases bookPut_mem L d x hx with rfl | hx; exact HPL.out.1.1; exact HPO.out.2 x hx⟩, ⟨by rw [HPT.out]; exact HPG4.out⟩, HBK6, ⟨R_keptS (Kd.R_below HR.out HB5.out) HK6.out (fun q hq hs => by have := (HOK.out q).1 hs; omega)⟩, ⟨(HKP.out.below HB5.out).then_ HK6.out (fun q hq => .inr (by rcases (HOK.out q).1 hq with h | h; exact h.1; have := HW1.out; have := HW2.out; omega))⟩, ⟨Nat.le_trans HSZ.out (Nat.le_trans HB5.out.size HK6.out.1)⟩⟩
          | succ k =>
            have h0 : decide (0 < ((k + 1 : Nat) : Int)) = true := decide_eq_true (by omega)
            have h1 : decide (((k + 1 : Nat) : Int) > 0) = true := decide_eq_true (by omega)
            have h2 : IntKind.i64.wrap (((k + 1 : Nat) : Int) - 1) = (k : Int) := (i64_w _).trans (by have := H256.out; unfold wrap64; omega)
            have h5 : IntKind.i64.wrap (k : Int) = (k : Int) := (i64_w _).trans (by have := H256.out; unfold wrap64; omega)
            have h6 : IntKind.i64.wrap ((k : Int) + 1 + 1) = (k : Int) + 1 + 1 := (i64_w _).trans (by have := H256.out; unfold wrap64; omega)
            have h7 : IntKind.i64.wrap ((k : Int) + 1) = (k : Int) + 1 := (i64_w _).trans (by have := H256.out; unfold wrap64; omega)
            have q14 : (k : Int) < (L.length : Int) := by have := HL.out; omega
            obtain ⟨mb, v, ents, hbb, _, _, hRK, _, _, _⟩ := HBK5.out.out
            obtain ⟨Ak, ck, rfl⟩ := Kd.R_slice hRK
            have hb1 := (book_cells hbb).2
            have p13 : 0 ≤ (k : Int) := by omega
            have q13 : (k : Int) < ((L.map fun d => d.f0).length : Int) := by rw [List.length_map]; have := HL.out; omega
            obtain ⟨ak, e, hxk⟩ := Kd.at_int (Kd.R_reads' hRK).2.2 (k : Int) p13 q13
            cases e
            rw [Int.toNat_natCast, lastK_rd L k HL.out] at hxk
            clear hbb hRK
            by_cases hlk : d.f0 ≤ lastK L
            · have h3 := decide_eq_true hlk
              have HE := Aside0.mk (show RES = (none, 14, ((k + 1 : Nat) : Int) + 1) by rw [← HPG3.out, if_pos hlk, HL.out])
              clear h256' hlk
              go_quiet (fail)
              go_wp2
              go_ret3
              exact ⟨.inr ⟨_, _, HE.out, rfl⟩, HKP.out.below (pw_below_drewN HB5.out _)⟩
            · have h3 := decide_eq_false hlk
              have HLK := Aside0.mk hlk
              have HPG4 := Aside0.mk (show parseGo (LS.drop (k + 1 + 1)) (L ++ [d]) = RES by rw [← HPG3.out, if_neg hlk])
              have HLT := Aside0.mk (show L.length < 256 from by have := HL.out; have := H256.out; omega)
              have HFA := Aside0.mk (show decide_fault.f 1000 d.f0 d.f1 d.f2 d.f3 = some 0 by rw [fault_is, HPL.out.2.1])
              have HTOP := Aside0.mk (last_top L d.f0 HA.out (by have := HLK.out; omega))
              have HNI := Aside0.mk (bookIn_last HTOP.out)
              have HPT := Aside0.mk (bookPut_last L d HTOP.out)
              clear h256' hlk
              go_quiet (fail)
              go_wp2_with ((go_at_call 17; go_loud ((with_reducible refine (HAD.out _ HLT.out 1000 HFA.out HNI.out).mono ?_); rintro e w6 ⟨rfl, hbk6, hk6⟩; have HBK6 := Aside0.mk hbk6; have HK6 := Aside0.mk hk6.ofDrewN; clear hbk6 hk6)))
              go_roundg g
              case measure => omega
              case rel => exact ⟨k + 1 + 1, bookPut L d, by go_num, by have := HK.out; omega, by rw [HPT.out, List.length_append, List.length_singleton]; have := HL.out; omega, ⟨bookPut_asc L d HA.out⟩, ⟨by rw [HPT.out, List.length_append, List.length_singleton]; have := HLT.out; omega, fun x hx => by rcases bookPut_mem L d x hx with rfl | hx; exact HPL.out.1.1; exact HPO.out.2 x hx⟩, ⟨by rw [HPT.out]; exact HPG4.out⟩, HBK6, ⟨R_keptS (Kd.R_below HR.out HB5.out) HK6.out (fun q hq hs => by have := (HOK.out q).1 hs; omega)⟩, ⟨(HKP.out.below HB5.out).then_ HK6.out (fun q hq => .inr (by rcases (HOK.out q).1 hq with h | h; exact h.1; have := HW1.out; have := HW2.out; omega))⟩, ⟨Nat.le_trans HSZ.out (Nat.le_trans HB5.out.size HK6.out.1)⟩⟩

end Go.Proofs.YtfajgjmhfpabiaaDoor.Scratch
