/- The digests as plain functions of numbers and lists of bytes, and what the printed functions answer. -/
import Derived.Test.YtjojdpbopbmnlaaDoorQ3
namespace Go.Proofs.YtjojdpbopbmnlaaDoor.Pure
open Go.RowKit Go.Proofs.YtjojdpbopbmnlaaDoor.Q Go.Proofs.YtjojdpbopbmnlaaDoorW.PrintWords Go.Proofs.YtjojdpbopbmnlaaDoorW.PrintLast

theorem wrap_up {i : Int} {n : Nat} (h0 : 0 ≤ i) (h : i < (n : Int)) (hn : n ≤ 140737488351232) : wrap64 (i + 1) = i + 1 := by
  unfold wrap64
  omega
theorem Ev.pos {α : Type} {c : Prop} [Decidable c] {A B : Nat → Option α} {r : α} (h : c) (k : Ev A r) : Ev (fun n => if c then A n else B n) r := by simpa only [if_pos h] using k
theorem Ev.neg {α : Type} {c : Prop} [Decidable c] {A B : Nat → Option α} {r : α} (h : ¬ c) (k : Ev B r) : Ev (fun n => if c then A n else B n) r := by simpa only [if_neg h] using k
theorem ev_some {α : Type} (r : α) : Ev (fun _ => some r) r := Ev.now r
def dsum (l : List UInt8) (d : Int) : Int := l.foldl (fun d c => dstep d (c.toNat : Int)) d
theorem bt_get (s : ByteArray) (i : Nat) (h : i < s.data.toList.length) : bt s (i : Int) = ((s.data.toList[i]).toNat : Int) := by
  have h' : i < s.size := by simpa using h
  unfold bt
  simp only [Int.toNat_natCast]
  rw [dif_pos h']
  rfl
theorem size_len (s : ByteArray) : (s.size : Int) = (s.data.toList.length : Int) := by simp
theorem sum_loop (s : ByteArray) (hs : s.size ≤ 140737488351232) : ∀ (m i : Nat) (d : Int), i + m = s.size → Ev (fun k => digest_Sum.l0 k s d (s.size : Int) (i : Int)) (dsum (s.data.toList.drop i) d) := by
  intro m
  induction m with
  | zero =>
    intro i d hi
    refine Ev.step (fun k => by rw [digest_Sum.l0, if_neg (by omega)]) ?_
    rw [List.drop_of_length_le (by simp; omega)]
    exact Ev.now _
  | succ m ih =>
    intro i d hi
    have hlt : i < s.data.toList.length := by simp; omega
    refine Ev.step (fun k => by rw [digest_Sum.l0, if_pos (by omega), if_pos (by omega), if_pos (by omega), wrap_up (n := s.size) (by omega) (by omega) hs]) ?_
    rw [List.drop_eq_getElem_cons hlt, bt_get s i hlt]
    exact ih (i + 1) _ (by omega)
theorem sum_ev (s : ByteArray) (hs : s.size ≤ 140737488351232) : Ev (fun k => digest_Sum.f k s) (dsum s.data.toList 14695981039346656037) := by
  have := sum_loop s hs s.size 0 14695981039346656037 (by omega)
  simpa [digest_Sum.f] using this
theorem rsum_loop (s : ByteArray) (hs : s.size ≤ 140737488351232) : ∀ (m i : Nat) (d : Int), i + m = s.size → Ev (fun k => treemergeref02_Sum.l0 k s d (i : Int)) (dsum (s.data.toList.drop i) d) := by
  intro m
  induction m with
  | zero =>
    intro i d hi
    refine Ev.step (fun k => by rw [treemergeref02_Sum.l0, if_neg (by omega)]) ?_
    rw [List.drop_of_length_le (by simp; omega)]
    exact Ev.now _
  | succ m ih =>
    intro i d hi
    have hlt : i < s.data.toList.length := by simp; omega
    refine Ev.step (fun k => by rw [treemergeref02_Sum.l0, if_pos (by omega), if_pos (by omega), wrap_up (n := s.size) (by omega) (by omega) hs]) ?_
    rw [List.drop_eq_getElem_cons hlt, bt_get s i hlt]
    exact ih (i + 1) _ (by omega)
theorem rsum_ev (s : ByteArray) (hs : s.size ≤ 140737488351232) : Ev (fun k => treemergeref02_Sum.f k s) (dsum s.data.toList 14695981039346656037) := by
  have := rsum_loop s hs s.size 0 14695981039346656037 (by omega)
  simpa [treemergeref02_Sum.f] using this
theorem shr_u64 (x : Int) (i : Nat) (hi : i < 64) : shr .u64 x (i : Int) = x / 2 ^ i := by
  unfold shr
  simp only [Int.toNat_natCast, IntKind.bits]
  rw [Nat.min_eq_left (by omega)]
theorem number_loop (n : Int) : ∀ (j : Nat) (d : Int), j ≤ 8 → Ev (fun k => treemergeref02_number.l0 k n d (8 * (j : Int) - 8)) (dnum n j d) := by
  intro j
  induction j with
  | zero =>
    intro d _
    exact Ev.step (fun k => by rw [treemergeref02_number.l0, if_neg (by omega)]; rfl) (Ev.now _)
  | succ j ih =>
    intro d hj
    have e : (8 * ((j + 1 : Nat) : Int) - 8) = ((8 * j : Nat) : Int) := by omega
    refine Ev.step (fun k => by rw [treemergeref02_number.l0, if_pos (by omega), if_pos (by omega)]) ?_
    have hw : wrap64 (8 * ((j + 1 : Nat) : Int) - 8 - 8) = 8 * (j : Int) - 8 := by unfold wrap64; omega
    rw [hw, e, shr_u64 _ _ (by omega)]
    exact ih _ (by omega)
theorem number_ev (d n : Int) : Ev (fun k => treemergeref02_number.f k d n) (dnum n 8 d) := number_loop n 8 d (by omega)
theorem mixp_ev (a b : Int) : Ev (fun _ => digest_Mix.f a b) (dnum b 8 (dnum a 8 14695981039346656037)) := ⟨0, fun _ _ => rfl⟩
theorem mix_ev (a b : Int) : Ev (fun k => treemergeref02_Mix.f k a b) (dnum b 8 (dnum a 8 14695981039346656037)) := by
  unfold treemergeref02_Mix.f
  exact (rsum_ev ⟨#[]⟩ (by decide)).bind ((number_ev _ a).bind ((number_ev _ b).bind (Ev.now _)))

/-- Bytes of a literal. -/
theorem toList_eq (s : ByteArray) : s.toList = s.data.toList := ByteArray.toList_eq s
theorem hex_ev (d : Int) (h : 0 ≤ d ∧ d < 2 ^ 64) : digest_Hex.f d = some (hexS d) := by rw [digest_Hex.f, if_pos h]
theorem parse_at : digest_Parse.f (⟨#[48, 48, 48, 48, 48, 48, 48, 48, 48, 48, 48, 48, 48, 48, 102, 102]⟩ : ByteArray) = some (255, 0) := by decide +kernel
theorem parse_up : digest_Parse.f (⟨#[48, 48, 48, 48, 48, 48, 48, 48, 48, 48, 48, 48, 48, 48, 70, 70]⟩ : ByteArray) = some (0, 1) := by decide +kernel
theorem parse_short : digest_Parse.f (⟨#[102, 102]⟩ : ByteArray) = some (0, 1) := by decide +kernel
theorem sum_a : dsum [97] 14695981039346656037 = 12638187200555641996 := by decide +kernel
theorem hex_255 : (hexS 255).data.toList = [48, 48, 48, 48, 48, 48, 48, 48, 48, 48, 48, 48, 48, 48, 102, 102] := by decide +kernel
theorem hex_a : (hexS 12638187200555641996).data.toList = [97, 102, 54, 51, 100, 99, 52, 99, 56, 54, 48, 49, 101, 99, 56, 99] := by decide +kernel
theorem awake_ev : Ev (fun k => treemergelaw02_awake.f k) true := by
  unfold treemergelaw02_awake.f
  rw [parse_at, parse_up, parse_short]
  simp only [Option.bind_some]
  refine (sum_ev ⟨#[]⟩ (by decide)).bind ?_
  simp only [show dsum (⟨#[]⟩ : ByteArray).data.toList 14695981039346656037 = 14695981039346656037 from rfl, if_true]
  refine (sum_ev ⟨#[97]⟩ (by decide)).bind ?_
  simp only [show dsum (⟨#[97]⟩ : ByteArray).data.toList 14695981039346656037 = 12638187200555641996 from sum_a, if_true]
  rw [hex_ev 255 (by decide), hex_ev 12638187200555641996 (by decide)]
  simp only [Option.bind_some, toList_eq, hex_255, hex_a, if_true, BEq.rfl]
  exact Ev.now _

theorem sum_law (s : ByteArray) (a b : Int) (hs : s.size ≤ 140737488351232) : Ev (fun k => treemergelaw02_DigestSums.f k s a b) true := by
  unfold treemergelaw02_DigestSums.f
  by_cases h : (s.size : Int) > 2000
  · simp only [if_pos h]
    exact awake_ev.bind (Ev.now _)
  · simp only [if_neg h]
    refine (sum_ev s hs).bind ((rsum_ev s hs).bind ?_)
    simp only [if_true, digest_Mix.f, Option.bind_some]
    refine (mix_ev a b).bind ?_
    simp only [if_true]
    exact awake_ev.bind (Ev.now _)
theorem dsum_append (l r : List UInt8) (d : Int) : dsum (l ++ r) d = dsum r (dsum l d) := by simp [dsum]
theorem step_law (s : ByteArray) (c : Int) (hs : s.size ≤ 140737488351232) (hc : (Lit.int .u8 c).wf = true) : Ev (fun k => treemergelaw02_DigestSteps.f k s c) true := by
  unfold treemergelaw02_DigestSteps.f
  by_cases h : (s.size : Int) > 2000
  · simp only [if_pos h]
    exact awake_ev.bind (Ev.now _)
  · simp only [if_neg h, Option.bind_some]
    have hc' : 0 ≤ c ∧ c < 256 := by
      simp [Lit.wf, IntKind.min, IntKind.max, IntKind.bits, IntKind.signed] at hc
      omega
    have e : (strOfNums [c]).data.toList = [UInt8.ofNat c.toNat] := by
      simp [strOfNums]
    have e1 : (strOfNums [c]).size = 1 := by
      have := congrArg List.length e
      simpa using this
    refine Ev.pos (by omega) ?_
    refine (sum_ev (s ++ strOfNums [c]) (by simp; omega)).bind ((sum_ev s hs).bind (Ev.pos ?_ (awake_ev.bind (Ev.now _))))
    have : (s ++ strOfNums [c]).data.toList = s.data.toList ++ [UInt8.ofNat c.toNat] := by simp [e]
    rw [this, dsum_append]
    simp only [dsum, List.foldl_cons, List.foldl_nil, dstep]
    have ec : ((UInt8.ofNat c.toNat).toNat : Int) = c := by simp; omega
    rw [ec]
theorem rdOf_at (l : List ByteArray) (i : Nat) (h : i < l.length) : rdOf ByteArray.empty l (i : Int) = l[i] := by
  unfold rdOf
  simp [List.getD_eq_getElem?_getD, List.getElem?_eq_getElem h]
theorem short_loop (l : List ByteArray) (hl : l.length * 16 ≤ 140737488351232) : ∀ (m i : Nat), i + m = l.length → Ev (fun k => treemergelaw02_short.l0 k l (i : Int)) ((l.drop i).all (fun s => decide (s.size ≤ 200))) := by
  intro m
  induction m with
  | zero =>
    intro i hi
    refine Ev.step (fun k => by rw [treemergelaw02_short.l0, if_neg (by omega)]) ?_
    rw [List.drop_of_length_le (by omega)]
    exact Ev.now _
  | succ m ih =>
    intro i hi
    have hlt : i < l.length := by omega
    rw [List.drop_eq_getElem_cons hlt, List.all_cons]
    refine Ev.step (fun k => by rw [treemergelaw02_short.l0, if_pos (by omega), if_pos (by omega), wrap_up (n := l.length) (by omega) (by omega) (by omega), rdOf_at l i hlt]) ?_
    by_cases h : l[i].size ≤ 200
    · refine Ev.neg (by omega) ?_
      rw [decide_eq_true h, Bool.true_and]
      exact ih (i + 1) (by omega)
    · refine Ev.pos (by omega) ?_
      rw [decide_eq_false h, Bool.false_and]
      exact Ev.now _
theorem short_ev (l : List ByteArray) (hl : l.length * 16 ≤ 140737488351232) : Ev (fun k => treemergelaw02_short.f k l) (decide (l.length ≤ 50) && l.all (fun s => decide (s.size ≤ 200))) := by
  unfold treemergelaw02_short.f
  by_cases h : l.length ≤ 50
  · refine Ev.neg (by omega) ?_
    rw [decide_eq_true h, Bool.true_and]
    exact short_loop l hl l.length 0 (by omega)
  · refine Ev.pos (by omega) ?_
    rw [decide_eq_false h, Bool.false_and]
    exact Ev.now _
/-- The digest of a list. -/
def dall (l : List ByteArray) (d : Int) : Int := l.foldl (fun d s => dnum (dsum s.data.toList 14695981039346656037) 8 (dnum d 8 14695981039346656037)) d
theorem dall_cons (s : ByteArray) (l : List ByteArray) (d : Int) : dall (s :: l) d = dall l (dnum (dsum s.data.toList 14695981039346656037) 8 (dnum d 8 14695981039346656037)) := by simp only [dall, List.foldl_cons]
def dlen (n : Nat) (d : Int) : Int := dnum (IntKind.u64.wrap (n : Int)) 8 (dnum d 8 14695981039346656037)
theorem all_loop (l : List ByteArray) (hl : l.length * 16 ≤ 140737488351232) (hs : ∀ s ∈ l, s.size ≤ 140737488351232) : ∀ (m i : Nat) (d : Int), i + m = l.length → Ev (fun k => digest_All.l0 k l d l (l.length : Int) (i : Int)) (dlen l.length (dall (l.drop i) d)) := by
  intro m
  induction m with
  | zero =>
    intro i d hi
    refine Ev.step (fun k => by rw [digest_All.l0, if_neg (by omega)]) ?_
    rw [List.drop_of_length_le (by omega)]
    simp only [digest_Mix.f, Option.bind_some, dall, List.foldl_nil, dlen]
    exact Ev.now _
  | succ m ih =>
    intro i d hi
    have hlt : i < l.length := by omega
    rw [List.drop_eq_getElem_cons hlt, dall_cons]
    refine Ev.step (fun k => by rw [digest_All.l0, if_pos (by omega), if_pos (by omega), if_pos (by omega), wrap_up (n := l.length) (by omega) (by omega) (by omega), rdOf_at l i hlt]) ?_
    refine (sum_ev _ (hs _ (List.getElem_mem hlt))).bind ?_
    simp only [digest_Mix.f, Option.bind_some]
    exact ih (i + 1) _ (by omega)
theorem all_ev (l : List ByteArray) (hl : l.length * 16 ≤ 140737488351232) (hs : ∀ s ∈ l, s.size ≤ 140737488351232) : Ev (fun k => digest_All.f k l) (dlen l.length (dall l 14695981039346656037)) :=
  (sum_ev ⟨#[]⟩ (by decide)).bind (all_loop l hl hs l.length 0 _ (by omega))
theorem rall_loop (l : List ByteArray) (hl : l.length * 16 ≤ 140737488351232) (hs : ∀ s ∈ l, s.size ≤ 140737488351232) : ∀ (m i : Nat) (d : Int), i + m = l.length → Ev (fun k => treemergeref02_All.l0 k l d (i : Int)) (dlen l.length (dall (l.drop i) d)) := by
  intro m
  induction m with
  | zero =>
    intro i d hi
    refine Ev.step (fun k => by rw [treemergeref02_All.l0, if_neg (by omega)]) ?_
    rw [List.drop_of_length_le (by omega)]
    exact (mix_ev _ _).bind (Ev.now _)
  | succ m ih =>
    intro i d hi
    have hlt : i < l.length := by omega
    rw [List.drop_eq_getElem_cons hlt, dall_cons]
    refine Ev.step (fun k => by rw [treemergeref02_All.l0, if_pos (by omega), if_pos (by omega), wrap_up (n := l.length) (by omega) (by omega) (by omega), rdOf_at l i hlt]) ?_
    refine (rsum_ev _ (hs _ (List.getElem_mem hlt))).bind ((mix_ev _ _).bind ?_)
    exact ih (i + 1) _ (by omega)
theorem rall_ev (l : List ByteArray) (hl : l.length * 16 ≤ 140737488351232) (hs : ∀ s ∈ l, s.size ≤ 140737488351232) : Ev (fun k => treemergeref02_All.f k l) (dlen l.length (dall l 14695981039346656037)) :=
  (rsum_ev ⟨#[]⟩ (by decide)).bind (rall_loop l hl hs l.length 0 _ (by omega))
theorem list_law (l : List ByteArray) (hl : l.length * 16 ≤ 140737488351232) (hs : ∀ s ∈ l, s.size ≤ 140737488351232) : Ev (fun k => treemergelaw02_DigestLists.f k l) true := by
  unfold treemergelaw02_DigestLists.f
  refine (short_ev l hl).bind ?_
  cases (decide (l.length ≤ 50) && l.all (fun s => decide (s.size ≤ 200)))
  · exact Ev.neg (by simp) (awake_ev.bind (Ev.now _))
  · exact Ev.pos rfl ((all_ev l hl hs).bind ((rall_ev l hl hs).bind (Ev.pos rfl (awake_ev.bind (Ev.now _)))))
theorem ext_done (l : List ByteArray) (d : Int) (hd : d = dall l 14695981039346656037) : dlen l.length (dall l 14695981039346656037) = dnum (IntKind.u64.wrap (l.length : Int)) 8 (dnum d 8 14695981039346656037) := by
  rw [hd, dlen]
theorem ext_loop (l : List ByteArray) (hl : l.length * 16 ≤ 140737488351232) (hs : ∀ s ∈ l, s.size ≤ 140737488351232) : ∀ (m i : Nat) (d : Int), i + m = l.length → Aside0 (dall (l.drop i) d = dall l 14695981039346656037) → Ev (fun k => treemergelaw02_DigestExtends.l0 k l d (i : Int)) true := by
  intro m
  induction m with
  | zero =>
    intro i d hi hd
    have e : l.drop i = [] := List.drop_of_length_le (by omega)
    refine Ev.step (fun k => by rw [treemergelaw02_DigestExtends.l0, if_neg (by omega)]) ?_
    have hd := hd.out
    rw [e, dall, List.foldl_nil] at hd
    exact (all_ev l hl hs).bind ((mixp_ev _ _).bind (Ev.pos (ext_done l d hd) (awake_ev.bind (Ev.now _))))
  | succ m ih =>
    intro i d hi hd
    have hlt : i < l.length := by omega
    refine Ev.step (fun k => by rw [treemergelaw02_DigestExtends.l0, if_pos (by omega), if_pos (by omega), wrap_up (n := l.length) (by omega) (by omega) (by omega), rdOf_at l i hlt]) ?_
    refine (sum_ev _ (hs _ (List.getElem_mem hlt))).bind ((mixp_ev _ _).bind ?_)
    refine ih (i + 1) _ (by omega) ?_
    have hd := hd.out
    rw [List.drop_eq_getElem_cons hlt, dall_cons] at hd
    exact ⟨hd⟩
theorem extends_law (l : List ByteArray) (hl : l.length * 16 ≤ 140737488351232) (hs : ∀ s ∈ l, s.size ≤ 140737488351232) : Ev (fun k => treemergelaw02_DigestExtends.f k l) true := by
  unfold treemergelaw02_DigestExtends.f
  refine (short_ev l hl).bind ?_
  cases (decide (l.length ≤ 50) && l.all (fun s => decide (s.size ≤ 200)))
  · exact Ev.neg (by simp) (awake_ev.bind (Ev.now _))
  · exact Ev.pos rfl ((sum_ev ⟨#[]⟩ (by decide)).bind (ext_loop l hl hs l.length 0 _ (by omega) ⟨rfl⟩))
end Go.Proofs.YtjojdpbopbmnlaaDoor.Pure
