/- The reference's longest common subsequences (chapter 32). -/
import Derived.Test.YtdbgdkbpamekpaaPureKept
namespace Go.Proofs.Ytdbgdkbpamekpaa.Pure
set_option linter.unusedVariables false
open Go.RowKit Go.Proofs.Ytdbgdkbpamekpaa.Q Go.Proofs.YtdbgdkbpamekpaaW.PrintWords Go.Proofs.YtdbgdkbpamekpaaW.PrintLast

theorem wmul {i n P : Nat} (h : P = i * n) (hP : P ≤ 1000000) : wrap64 ((i : Int) * (n : Int)) = (P : Int) := by
 have e : (i : Int) * (n : Int) = ((P : Nat) : Int) := by rw [h]; exact (Int.natCast_mul i n).symm
 rw [e]
 clear e h
 unfold wrap64
 omega
theorem wadd {x y : Nat} (h : x + y ≤ 1000000) : wrap64 ((x : Int) + (y : Int)) = ((x + y : Nat) : Int) := by unfold wrap64; omega
theorem lt_of_some {α : Type} {l : List α} {i : Nat} {v : α} (h : l[i]? = some v) : i < l.length := by
 obtain ⟨h, _⟩ := List.getElem?_eq_some_iff.1 h
 exact h
theorem rdB {l : List Bool} {i : Nat} {v : Bool} (h : l[i]? = some v) : rdOf false l (i : Int) = v := by simp [rdOf, List.getD_eq_getElem?_getD, h]
theorem row_le {i m n P : Nat} (h : P = i * n) (hi : i < m) : P + n ≤ m * n := by
 have h1 : (i + 1) * n ≤ m * n := Nat.mul_le_mul_right n hi
 rw [Nat.succ_mul] at h1
 rw [h]
 exact h1
theorem ix_inj {i i' k k' n : Nat} (hk : k < n) (hk' : k' < n) (h : i * n + k = i' * n + k') : i = i' ∧ k = k' := by
 rcases Nat.lt_trichotomy i i' with c | c | c
 ·have := row_le (n := n) rfl c
  exact absurd h (by omega)
 ·subst c
  exact ⟨rfl, Nat.add_left_cancel h⟩
 ·have := row_le (n := n) rfl c
  exact absurd h (by omega)
/-- The table of equal elements, as far as it is filled. -/
structure SameI (a b : List Int) (i k : Nat) (s : List Bool) : Prop where
 len : s.length = a.length * b.length
 at' : ∀ i' k' S (hi : i' < a.length) (hk : k' < b.length), S = i' * b.length → i' < i ∨ (i' = i ∧ k' < k) → s[S + k']? = some (a[i'] == b[k'])
theorem SameI.step {a b : List Int} {i k : Nat} {s : List Bool} (h : SameI a b i k s) {S : Nat} (hS : S = i * b.length) (hi : i < a.length) (hk : k < b.length) : SameI a b i (k + 1) (s.set (S + k) (a[i] == b[k])) := by
 refine ⟨by rw [List.length_set]; exact h.len, fun i' k' S' hi' hk' hS' hc => ?_⟩
 by_cases e : S' + k' = S + k
 ·have e2 := e
  rw [hS, hS'] at e2
  obtain ⟨rfl, rfl⟩ := ix_inj hk' hk e2
  rw [e, List.getElem?_set_self]
  have := row_le hS hi
  rw [h.len]
  exact Nat.lt_of_lt_of_le (Nat.add_lt_add_left hk S) this
 ·rw [List.getElem?_set_ne (fun q => e q.symm)]
  refine h.at' i' k' S' hi' hk' hS' ?_
  rcases hc with hc | ⟨rfl, hc⟩
  ·exact .inl hc
  ·refine .inr ⟨rfl, ?_⟩
   have : k' ≠ k := fun q => e (by rw [hS', hS, q])
   clear e
   omega
theorem SameI.row {a b : List Int} {i : Nat} {s : List Bool} (h : SameI a b i b.length s) : SameI a b (i + 1) 0 s :=
 ⟨h.len, fun i' k' S' hi' hk' hS' hc => h.at' i' k' S' hi' hk' hS' (by clear hS'; omega)⟩
/-- The table of lengths, as far as it is filled. -/
structure TabI (a b : List Int) (i k : Nat) (L : List Int) : Prop where
 len : L.length = (a.length + 1) * (b.length + 1)
 at' : ∀ i' k' P, i' ≤ a.length → k' ≤ b.length → P = i' * (b.length + 1) → L[P + k']? = some (if i < i' ∨ (i' = i ∧ k ≤ k') then (Lc (a.drop i') (b.drop k') : Int) else 0)
theorem TabI.step {a b : List Int} {i k : Nat} {L : List Int} (h : TabI a b i (k + 1) L) {P : Nat} (hP : P = i * (b.length + 1)) (hi : i < a.length) (hk : k < b.length) {v : Int} (hv : v = (Lc (a.drop i) (b.drop k) : Int)) : TabI a b i k (L.set (P + k) v) := by
 refine ⟨by rw [List.length_set]; exact h.len, fun i' k' P' hi' hk' hP' => ?_⟩
 by_cases e : P' + k' = P + k
 ·have e2 := e
  rw [hP, hP'] at e2
  obtain ⟨rfl, rfl⟩ := ix_inj (by omega) (by omega) e2
  rw [e, List.getElem?_set_self, if_pos (.inr ⟨rfl, Nat.le_refl _⟩), hv]
  have := row_le hP (Nat.lt_succ_of_lt hi)
  rw [h.len]
  exact Nat.lt_of_lt_of_le (Nat.add_lt_add_left (Nat.lt_succ_of_lt hk) P) this
 ·rw [List.getElem?_set_ne (fun q => e q.symm), h.at' i' k' P' hi' hk' hP']
  have hne : ¬ (i' = i ∧ k' = k) := fun q => e (by rw [hP', hP, q.1, q.2])
  clear e hP hP'
  congr 1
  by_cases c : i < i' ∨ (i' = i ∧ k ≤ k')
  ·rw [if_pos c, if_pos (by omega)]
  ·rw [if_neg c, if_neg (by omega)]
theorem TabI.row {a b : List Int} {i : Nat} {L : List Int} (h : TabI a b (i + 1) 0 L) (hi : i < a.length) : TabI a b i b.length L := by
 refine ⟨h.len, fun i' k' P' hi' hk' hP' => ?_⟩
 rw [h.at' i' k' P' hi' hk' hP']
 clear hP'
 congr 1
 by_cases c : i + 1 < i' ∨ (i' = i + 1 ∧ 0 ≤ k')
 ·rw [if_pos c, if_pos (by omega)]
 ·rw [if_neg c]
  by_cases d : i < i' ∨ (i' = i ∧ b.length ≤ k')
  ·rw [if_pos d]
   have : i' = i ∧ k' = b.length := by omega
   rw [this.2, List.drop_of_length_le (Nat.le_refl _), Lc_none]
   rfl
  ·rw [if_neg d]
theorem TabI.zero (a b : List Int) : TabI a b a.length 0 (List.replicate ((a.length + 1) * (b.length + 1)) 0) := by
 refine ⟨by rw [List.length_replicate], fun i' k' P' hi' hk' hP' => ?_⟩
 have h1 := row_le hP' (Nat.lt_succ_of_le hi')
 rw [List.getElem?_replicate, if_pos (Nat.lt_of_lt_of_le (Nat.add_lt_add_left (Nat.lt_succ_of_le hk') P') h1)]
 clear h1 hP'
 congr 1
 by_cases d : a.length < i' ∨ (i' = a.length ∧ 0 ≤ k')
 ·have : i' = a.length := by omega
  rw [if_pos d, this, List.drop_of_length_le (Nat.le_refl _), Lc_nil]
  rfl
 ·rw [if_neg d]
theorem mxn (x y : Nat) : mx (x : Int) (y : Int) = ((max x y : Nat) : Int) := by
 unfold mx
 split <;> omega
theorem w_dn {c : Nat} (h : c ≤ 1000000) : wrap64 ((c : Int) - 1) = (c : Int) - 1 := by unfold wrap64; omega
theorem tab_l1 {a b : List Int} {s : List Bool} (hs : SameI a b a.length 0 s) (hm : a.length ≤ 100) (hn : b.length ≤ 100) (hN : (a.length + 1) * (b.length + 1) ≤ 20000) (hN2 : a.length * b.length ≤ 20000) {Q : List Int → Prop} {i : Nat} (hi : i < a.length)
  (hc : ∀ L, TabI a b i 0 L → ∃ r, Ev (fun K => treemergeref19_table.l0 K s (b.length : Int) L (wrap64 ((i : Int) - 1))) r ∧ Q r) :
  ∀ c L, c ≤ b.length → TabI a b i c L → ∃ r, Ev (fun K => treemergeref19_table.l1 K s (b.length : Int) L (i : Int) ((c : Int) - 1)) r ∧ Q r := by
 intro c
 induction c with
 | zero =>
  intro L _ hI
  obtain ⟨r, h1, h2⟩ := hc L hI
  exact ⟨r, Ev.step (fun K => by rw [treemergeref19_table.l1]) (Ev.neg (by clear hN hN2; omega) h1), h2⟩
 | succ c ih =>
  intro L hcb hI
  have hcb' : c < b.length := hcb
  obtain ⟨P, hP⟩ : ∃ P, P = i * (b.length + 1) := ⟨_, rfl⟩
  obtain ⟨S, hS⟩ : ∃ S, S = i * b.length := ⟨_, rfl⟩
  have hP1 : P + (b.length + 1) = (i + 1) * (b.length + 1) := by rw [hP, Nat.succ_mul]
  have e1 := hI.at' (i + 1) c _ hi (Nat.le_of_lt hcb') hP1
  have e2 := hI.at' i (c + 1) P (Nat.le_of_lt hi) hcb' hP
  have e3 := hI.at' (i + 1) (c + 1) _ hi hcb' hP1
  have e4 := hs.at' i c S hi hcb' hS (.inl hi)
  rw [if_pos (.inl (Nat.lt_succ_self _))] at e1 e3
  rw [if_pos (.inr ⟨rfl, Nat.le_refl _⟩)] at e2
  have l1 := lt_of_some e1
  have l2 := lt_of_some e2
  have l3 := lt_of_some e3
  have l4 := lt_of_some e4
  have hL := hI.len
  have hSl := hs.len
  have stp : ∀ v : Int, v = (Lc (a.drop i) (b.drop c) : Int) → ∃ r, Ev (fun K => treemergeref19_table.l1 K s (b.length : Int) (L.set (P + c) v) (i : Int) ((c : Int) - 1)) r ∧ Q r := fun v hv => ih _ (Nat.le_of_lt hcb') (hI.step hP hi hcb' hv)
  have hLN : L.length ≤ 20000 := by rw [hL]; exact hN
  have hSN : s.length ≤ 20000 := by rw [hSl]; exact hN2
  clear hN hN2 hc ih hI hs hL hSl
  have m1 : wrap64 ((i : Int) * ((b.length + 1 : Nat) : Int)) = (P : Int) := wmul hP (by clear stp hP hS hP1; omega)
  have m2 : wrap64 (((i + 1 : Nat) : Int) * ((b.length + 1 : Nat) : Int)) = ((P + (b.length + 1) : Nat) : Int) := wmul hP1 (by clear stp hP hS hP1 m1; omega)
  have m3 : wrap64 ((i : Int) * (b.length : Int)) = (S : Int) := wmul hS (by clear stp hP hS hP1 m1 m2; omega)
  clear hP hS hP1
  have m1' := Aside0.mk m1
  have m2' := Aside0.mk m2
  have m3' := Aside0.mk m3
  clear m1 m2 m3
  have q1 : P + (b.length + 1) + c ≤ 1000000 := by omega
  have q2 : P + c ≤ 1000000 := by omega
  have q3 : S + c ≤ 1000000 := by omega
  have l0 : P + c < L.length := by omega
  have e0 : ((c + 1 : Nat) : Int) - 1 = (c : Int) := by omega
  have qb : b.length ≤ 1000000 := by omega
  have qi : i ≤ 1000000 := by omega
  have qc : c ≤ 1000000 := by omega
  have nn : ∀ x : Nat, (0 : Int) ≤ (x : Int) := fun x => Int.natCast_nonneg x
  have lt1 : ∀ {x y : Nat}, x < y → (x : Int) < (y : Int) := fun h => Int.ofNat_lt.2 h
  have wn := w_up qb
  have wi := w_up qi
  have a1 := wadd q1
  have a2 := wadd q2
  have a3 := wadd q3
  have a4 := w_up q1
  have a5 := w_up q2
  have ew := w_dn qc
  have open1 : ∀ r, ((a[i] = b[c] → Ev (fun K => treemergeref19_table.l1 K s (b.length : Int) (L.set (P + c) (mx (mx (Lc (a.drop (i + 1)) (b.drop c) : Int) (Lc (a.drop i) (b.drop (c + 1)) : Int)) (wrap64 ((Lc (a.drop (i + 1)) (b.drop (c + 1)) : Int) + 1)))) (i : Int) ((c : Int) - 1)) r) ∧ (a[i] ≠ b[c] → Ev (fun K => treemergeref19_table.l1 K s (b.length : Int) (L.set (P + c) (mx (Lc (a.drop (i + 1)) (b.drop c) : Int) (Lc (a.drop i) (b.drop (c + 1)) : Int))) (i : Int) ((c : Int) - 1)) r)) → Ev (fun K => treemergeref19_table.l1 K s (b.length : Int) L (i : Int) (((c + 1 : Nat) : Int) - 1)) r := by
   intro r ⟨h1, h2⟩
   rw [e0]
   refine Ev.step (fun K => by rw [treemergeref19_table.l1]) ?_
   rw [wn, wi, m1'.out, m2'.out, m3'.out, a1, a2, a3, a4, a5, show P + (b.length + 1) + c + 1 = P + (b.length + 1) + (c + 1) from rfl, show P + c + 1 = P + (c + 1) from rfl, rdI e1, rdI e2, rdI e3, rdB e4, ew, toN]
   refine Ev.pos (nn _) (Ev.pos (nn _) (Ev.pos (lt1 l1) (Ev.pos (nn _) (Ev.pos (lt1 l2) (Ev.pos (nn _) (Ev.pos (lt1 l4) ?_))))))
   by_cases q : a[i] = b[c]
   ·exact Ev.pos (by simpa using q) (Ev.pos (nn _) (Ev.pos (lt1 l3) (Ev.pos (nn _) (Ev.pos (lt1 l0) (h1 q)))))
   ·exact Ev.neg (by simpa using q) (Ev.pos (nn _) (Ev.pos (lt1 l0) (h2 q)))
  by_cases q : a[i] = b[c]
  ·obtain ⟨r, h1, h2⟩ := stp (mx (mx (Lc (a.drop (i + 1)) (b.drop c) : Int) (Lc (a.drop i) (b.drop (c + 1)) : Int)) (wrap64 ((Lc (a.drop (i + 1)) (b.drop (c + 1)) : Int) + 1))) (by
    have k1 := (Lc_bounds (a.drop (i + 1)) (b.drop (c + 1))).2 b[c]
    have k2 := Lc_tail a[i] (a.drop (i + 1)) (b.drop (c + 1))
    have k3 := Lc_grow (a.drop i) (b.drop (c + 1)) b[c]
    have k4 := Lc_le a b (i + 1) (c + 1)
    rw [← Lc_at hcb'] at k1 k3
    rw [w_up (Nat.le_trans k4 (Nat.le_trans hm (by decide))), mxn, mxn]
    have k5 : Lc (a.drop i) (b.drop c) = Lc (a.drop (i + 1)) (b.drop (c + 1)) + 1 := by rw [Lc_at hi, Lc_at hcb', Lc_cons, if_pos q]
    clear wn wi a1 a2 a3 a4 a5 ew e0 m1' m2' m3'
    congr 1
    omega)
   exact ⟨r, open1 r ⟨fun _ => h1, fun h => absurd q h⟩, h2⟩
  ·obtain ⟨r, h1, h2⟩ := stp (mx (Lc (a.drop (i + 1)) (b.drop c) : Int) (Lc (a.drop i) (b.drop (c + 1)) : Int)) (by
    rw [mxn]
    congr 1
    conv => rhs; rw [Lc_at hi, Lc_at hcb', Lc_cons, if_neg q, ← Lc_at hi, ← Lc_at hcb'])
   exact ⟨r, open1 r ⟨fun h => absurd h q, fun _ => h1⟩, h2⟩
theorem tab_ev {a b : List Int} {s : List Bool} (hs : SameI a b a.length 0 s) (hm : a.length ≤ 100) (hn : b.length ≤ 100) (hN : (a.length + 1) * (b.length + 1) ≤ 20000) (hN2 : a.length * b.length ≤ 20000) :
  ∃ L, Ev (fun K => treemergeref19_table.f K s (a.length : Int) (b.length : Int)) L ∧ TabI a b 0 0 L := by
 have key : ∀ i L, i ≤ a.length → TabI a b i 0 L → ∃ r, Ev (fun K => treemergeref19_table.l0 K s (b.length : Int) L ((i : Int) - 1)) r ∧ TabI a b 0 0 r := by
  intro i
  induction i with
  | zero =>
   intro L _ hI
   exact ⟨L, Ev.step (fun K => by rw [treemergeref19_table.l0]) (Ev.neg (by clear hN hN2; omega) (Ev.now _)), hI⟩
  | succ i ih =>
   intro L hi hI
   have e0 : ((i + 1 : Nat) : Int) - 1 = (i : Int) := by clear hN hN2; omega
   have ew : wrap64 ((b.length : Int) - 1) = (b.length : Int) - 1 := by clear hN hN2; unfold wrap64; omega
   have ei : wrap64 ((i : Int) - 1) = (i : Int) - 1 := by clear hN hN2; unfold wrap64; omega
   obtain ⟨r, h1, h2⟩ := tab_l1 hs hm hn hN hN2 (Q := fun r => TabI a b 0 0 r) (i := i) hi (fun L hL => by
    rw [ei]
    exact ih L (Nat.le_of_lt hi) hL) b.length L (Nat.le_refl _) (hI.row hi)
   refine ⟨r, Ev.step (fun K => by rw [treemergeref19_table.l0]) ?_, h2⟩
   rw [e0, ew]
   exact Ev.pos (Int.natCast_nonneg i) h1
 obtain ⟨r, h1, h2⟩ := key a.length _ (Nat.le_refl _) (TabI.zero a b)
 refine ⟨r, ?_, h2⟩
 obtain ⟨N, hNe⟩ : ∃ N, N = (a.length + 1) * (b.length + 1) := ⟨_, rfl⟩
 have hN' : N ≤ 20000 := by rw [hNe]; exact hN
 have wn : wrap64 ((b.length : Int) + 1) = ((b.length + 1 : Nat) : Int) := w_up (by clear hN hN2 hNe; omega)
 have wi : wrap64 ((a.length : Int) + 1) = ((a.length + 1 : Nat) : Int) := w_up (by clear hN hN2 hNe; omega)
 have wm : wrap64 (((a.length + 1 : Nat) : Int) * ((b.length + 1 : Nat) : Int)) = (N : Int) := wmul hNe (by clear hN hN2 hNe; omega)
 have ew : wrap64 ((a.length : Int) - 1) = (a.length : Int) - 1 := by clear hN hN2 hNe; unfold wrap64; omega
 unfold treemergeref19_table.f
 rw [wn, wi, wm, ew, toN]
 refine Ev.pos (Int.natCast_nonneg N) (Ev.pos (by clear hN hN2 hNe; omega) ?_)
 rw [hNe]
 exact h1
theorem first_ev {a b : List Int} {s : List Bool} {L : List Int} (hs : SameI a b a.length 0 s) (hT : TabI a b 0 0 L) (hm : a.length ≤ 100) (hn : b.length ≤ 100) (hN : (a.length + 1) * (b.length + 1) ≤ 20000) (hN2 : a.length * b.length ≤ 20000) :
  ∀ d i k (out : List S71), i + d = a.length → k ≤ b.length → out.length ≤ i → ∃ r, Ev (fun K => treemergeref19_first.l0 K s (a.length : Int) (b.length : Int) L out (i : Int) (k : Int)) (out ++ r) ∧ Gr a b d i k r := by
 intro d
 induction d with
 | zero =>
  intro i k out hi hk ho
  refine ⟨[], Ev.step (fun K => by rw [treemergeref19_first.l0]) (Ev.neg (by clear hN hN2; omega) (Ev.step (fun K => by rw [treemergeref19_first.j1]) (Ev.neg (by simp) (Ev.cast (by simp) (Ev.now _))))), rfl⟩
 | succ d ih =>
  intro i k out hi hk ho
  have hia : i < a.length := by clear hN hN2; omega
  obtain ⟨P, hP⟩ : ∃ P, P = i * (b.length + 1) := ⟨_, rfl⟩
  obtain ⟨S, hS⟩ : ∃ S, S = i * b.length := ⟨_, rfl⟩
  have hP1 : P + (b.length + 1) = (i + 1) * (b.length + 1) := by rw [hP, Nat.succ_mul]
  have g1 := hT.at' i k P (Nat.le_of_lt hia) hk hP
  rw [if_pos (by clear hN hN2 hP hS hP1; omega)] at g1
  have g3 : ∀ c, c < b.length → L[P + (b.length + 1) + (c + 1)]? = some (Lc (a.drop (i + 1)) (b.drop (c + 1)) : Int) := fun c hc => by
   have := hT.at' (i + 1) (c + 1) _ hia hc hP1
   rwa [if_pos (by clear hN hN2 hP hS hP1; omega)] at this
  have g4 : ∀ c (hc : c < b.length), s[S + c]? = some (a[i] == b[c]) := fun c hc => hs.at' i c S hia hc hS (.inl hia)
  have hLN : L.length ≤ 20000 := by rw [hT.len]; exact hN
  have hSN : s.length ≤ 20000 := by rw [hs.len]; exact hN2
  have l1 := lt_of_some g1
  have qb : b.length ≤ 1000000 := by clear hN hN2 hP hS hP1; omega
  have qi : i ≤ 1000000 := by clear hN hN2 hP hS hP1; omega
  have wn := Aside0.mk (w_up qb)
  have wi := Aside0.mk (w_up qi)
  have m1 := Aside0.mk (show wrap64 ((i : Int) * ((b.length + 1 : Nat) : Int)) = (P : Int) from wmul hP (by clear hN hN2 hP hS hP1; omega))
  have m2 : 0 < b.length → wrap64 (((i + 1 : Nat) : Int) * ((b.length + 1 : Nat) : Int)) = ((P + (b.length + 1) : Nat) : Int) := fun h => wmul hP1 (by have := lt_of_some (g3 0 h); clear hN hN2 hP hS hP1; omega)
  have m3 : 0 < b.length → wrap64 ((i : Int) * (b.length : Int)) = (S : Int) := fun h => wmul hS (by have := lt_of_some (g4 0 h); clear hN hN2 hP hS hP1; omega)
  clear hP hS hP1 hN hN2 hT hs
  have a2 := Aside0.mk (show wrap64 ((P : Int) + (k : Int)) = ((P + k : Nat) : Int) from wadd (by omega))
  have nn : ∀ x : Nat, (0 : Int) ≤ (x : Int) := fun x => Int.natCast_nonneg x
  have lt1 : ∀ {x y : Nat}, x < y → (x : Int) < (y : Int) := fun h => Int.ofNat_lt.2 h
  have found : ∀ j r, Ev (fun K => treemergeref19_first.l0 K s (a.length : Int) (b.length : Int) L (out ++ [⟨(i : Int), (j : Int)⟩]) ((i + 1 : Nat) : Int) ((j + 1 : Nat) : Int)) r → j < b.length → Ev (fun K => treemergeref19_first.l1 K s (a.length : Int) (b.length : Int) L out (i : Int) (k : Int) (j : Int) ((j + 1 : Nat) : Int)) r := by
   intro j r h hj
   have fin : Ev (fun K => treemergeref19_first.j3 K s (a.length : Int) (b.length : Int) L out (i : Int) (k : Int) (j : Int) ((j + 1 : Nat) : Int) false) r := by
    refine Ev.step (fun K => by rw [treemergeref19_first.j3]) (Ev.neg (by simp) (Ev.pos (nn _) (Ev.pos (by omega) ?_)))
    rw [wi.out, w_up (show j ≤ 1000000 by omega)]
    exact h
   by_cases c : j + 1 < b.length
   ·refine Ev.step (fun K => by rw [treemergeref19_first.l1]) (Ev.pos (lt1 c) ?_)
    rw [show decide ((j : Int) < 0) = false from decide_eq_false (by omega)]
    exact fin
   ·exact Ev.step (fun K => by rw [treemergeref19_first.l1]) (Ev.neg (by omega) fin)
  have look : ∀ e c, c + e = b.length → k ≤ c → (∀ j, k ≤ j → j < c → ¬ Good a b i k j) → ∃ r, Ev (fun K => treemergeref19_first.l1 K s (a.length : Int) (b.length : Int) L out (i : Int) (k : Int) (-1) (c : Int)) (out ++ r) ∧ Gr a b (d + 1) i k r := by
   intro e
   induction e with
   | zero =>
    intro c hc hkc hno
    obtain ⟨r, h1, h2⟩ := ih (i + 1) k out (by omega) hk (by omega)
    refine ⟨r, Ev.step (fun K => by rw [treemergeref19_first.l1]) (Ev.neg (by omega) (Ev.step (fun K => by rw [treemergeref19_first.j3]) (Ev.neg (by simp) (Ev.neg (by decide) ?_)))), .inr (.inr ⟨fun j q1 q2 => hno j q1 (by omega), h2⟩)⟩
    rw [wi.out]
    exact h1
   | succ e ihe =>
    intro c hc hkc hno
    have hcb : c < b.length := by omega
    have hb0 : 0 < b.length := by omega
    have e3 := g3 c hcb
    have e4 := g4 c hcb
    have l3 := lt_of_some e3
    have l4 := lt_of_some e4
    have q1 : P + (b.length + 1) + c ≤ 1000000 := by omega
    have q3 : S + c ≤ 1000000 := by omega
    have qc : c ≤ 1000000 := by omega
    have kL := Lc_le a b (i + 1) (c + 1)
    have qL : Lc (a.drop (i + 1)) (b.drop (c + 1)) ≤ 1000000 := Nat.le_trans kL (Nat.le_trans hm (by decide))
    have n2 := Aside0.mk (m2 hb0)
    have n3 := Aside0.mk (m3 hb0)
    have a3 := Aside0.mk (wadd q3)
    have a1 := Aside0.mk (wadd q1)
    have a4 := Aside0.mk (w_up q1)
    have wc := Aside0.mk (w_up qc)
    have wL := Aside0.mk (w_up qL)
    have open1 : ∀ r, (Good a b i k c → Ev (fun K => treemergeref19_first.l1 K s (a.length : Int) (b.length : Int) L out (i : Int) (k : Int) (c : Int) ((c + 1 : Nat) : Int)) r) → (¬ Good a b i k c → Ev (fun K => treemergeref19_first.l1 K s (a.length : Int) (b.length : Int) L out (i : Int) (k : Int) (-1) ((c + 1 : Nat) : Int)) r) → Ev (fun K => treemergeref19_first.l1 K s (a.length : Int) (b.length : Int) L out (i : Int) (k : Int) (-1) (c : Int)) r := by
     intro r h1 h2
     refine Ev.step (fun K => by rw [treemergeref19_first.l1]) (Ev.pos (lt1 hcb) ?_)
     rw [show decide ((-1 : Int) < 0) = true from rfl]
     refine Ev.step (fun K => by rw [treemergeref19_first.j3]) (Ev.pos rfl ?_)
     rw [wn.out, wi.out, m1.out, n2.out, n3.out, a1.out, a2.out, a3.out, a4.out, show P + (b.length + 1) + c + 1 = P + (b.length + 1) + (c + 1) from rfl, rdI e3, rdI g1, rdB e4, wc.out, wL.out]
     refine Ev.pos (nn _) (Ev.pos (lt1 l4) ?_)
     by_cases q : a[i] = b[c]
     ·refine Ev.pos (by simpa using q) (Ev.pos (nn _) (Ev.pos (lt1 l3) (Ev.pos (nn _) (Ev.pos (lt1 l1) ?_))))
      have q1 : a[i]? = b[c]? := by rw [List.getElem?_eq_getElem hia, List.getElem?_eq_getElem hcb, q]
      by_cases p : Lc (a.drop (i + 1)) (b.drop (c + 1)) + 1 = Lc (a.drop i) (b.drop k)
      ·exact Ev.pos (by rw [p]) (h1 ⟨q1, p⟩)
      ·exact Ev.neg (fun e => p (Int.ofNat_inj.1 e)) (h2 (fun g => p g.2))
     ·refine Ev.neg (by simpa using q) (h2 (fun g => q ?_))
      have := g.1
      rw [List.getElem?_eq_getElem hia, List.getElem?_eq_getElem hcb, Option.some.injEq] at this
      exact this
    by_cases gd : Good a b i k c
    ·obtain ⟨r, h1, h2⟩ := ih (i + 1) (c + 1) (out ++ [⟨(i : Int), (c : Int)⟩]) (by omega) (by omega) (by simp; omega)
     refine ⟨⟨(i : Int), (c : Int)⟩ :: r, open1 _ (fun _ => found c _ (Ev.cast (by simp) h1) hcb) (fun h => absurd gd h), .inr (.inl ⟨c, r, hkc, hcb, gd, rfl, h2⟩)⟩
    ·obtain ⟨r, h1, h2⟩ := ihe (c + 1) (by omega) (by omega) (fun j q1 q2 => by
      rcases Nat.lt_or_ge j c with q | q
      ·exact hno j q1 q
      ·have : j = c := by omega
       rw [this]
       exact gd)
     exact ⟨r, open1 _ (fun h => absurd h gd) (fun _ => h1), h2⟩
  have open0 : ∀ r, Ev (fun K => treemergeref19_first.j1 K s (a.length : Int) (b.length : Int) L out (i : Int) (k : Int) (decide ((Lc (a.drop i) (b.drop k) : Int) > 0))) r → Ev (fun K => treemergeref19_first.l0 K s (a.length : Int) (b.length : Int) L out (i : Int) (k : Int)) r := by
   intro r h
   refine Ev.step (fun K => by rw [treemergeref19_first.l0]) (Ev.pos (lt1 hia) ?_)
   rw [wn.out, m1.out, a2.out, rdI g1]
   exact Ev.pos (nn _) (Ev.pos (lt1 l1) h)
  by_cases z : Lc (a.drop i) (b.drop k) = 0
  ·refine ⟨[], open0 _ (Ev.step (fun K => by rw [treemergeref19_first.j1]) (Ev.neg (by rw [z]; simp) (Ev.cast (by simp) (Ev.now _)))), .inl ⟨z, rfl⟩⟩
  ·obtain ⟨r, h1, h2⟩ := look (b.length - k) k (by omega) (Nat.le_refl _) (fun j q1 q2 => by omega)
   exact ⟨r, open0 _ (Ev.step (fun K => by rw [treemergeref19_first.j1]) (Ev.pos (decide_eq_true (by omega)) h1)), h2⟩
theorem ints_ev (a b : List Int) (hm : a.length ≤ 100) (hn : b.length ≤ 100) : ∃ r, Ev (fun K => treemergeref19_Ints.f K a b) r ∧ Gr a b a.length 0 0 r := by
 have hN : (a.length + 1) * (b.length + 1) ≤ 20000 := Nat.le_trans (Nat.mul_le_mul (Nat.succ_le_succ hm) (Nat.succ_le_succ hn)) (by decide)
 have hN2 : a.length * b.length ≤ 20000 := Nat.le_trans (Nat.mul_le_mul hm hn) (by decide)
 have fin : ∀ s, SameI a b a.length 0 s → ∃ r, Ev (fun K => treemergeref19_Ints.l0 K a b s (a.length : Int)) r ∧ Gr a b a.length 0 0 r := by
  intro s hs
  obtain ⟨L, e1, hT⟩ := tab_ev hs hm hn hN hN2
  obtain ⟨r, e2, h2⟩ := first_ev hs hT hm hn hN hN2 a.length 0 0 [] (Nat.zero_add _) (Nat.zero_le _) (Nat.zero_le _)
  refine ⟨r, Ev.step (fun K => by rw [treemergeref19_Ints.l0]) (Ev.neg (Int.lt_irrefl _) ?_), h2⟩
  refine Ev.bind (g := fun K => treemergeref19_first.f K s (a.length : Int) (b.length : Int)) ?_ (Ev.now _)
  unfold treemergeref19_first.f
  exact e1.bind e2
 have key : ∀ d i s, i + d = a.length → SameI a b i 0 s → ∃ r, Ev (fun K => treemergeref19_Ints.l0 K a b s (i : Int)) r ∧ Gr a b a.length 0 0 r := by
  intro d
  induction d with
  | zero =>
   intro i s hi hs
   rw [Nat.add_zero] at hi
   subst hi
   exact fin s hs
  | succ d ih =>
   intro i s hi hs
   have hia : i < a.length := by clear hN hN2; omega
   have inner : ∀ e c s, c + e = b.length → SameI a b i c s → ∃ r, Ev (fun K => treemergeref19_Ints.l1 K a b s (i : Int) (c : Int)) r ∧ Gr a b a.length 0 0 r := by
    intro e
    induction e with
    | zero =>
     intro c s hc hs
     rw [Nat.add_zero] at hc
     subst hc
     obtain ⟨r, h1, h2⟩ := ih (i + 1) s (by clear hN hN2; omega) hs.row
     refine ⟨r, Ev.step (fun K => by rw [treemergeref19_Ints.l1]) (Ev.neg (Int.lt_irrefl _) ?_), h2⟩
     rw [w_up (show i ≤ 1000000 by clear hN hN2; omega)]
     exact h1
    | succ e ihe =>
     intro c s hc hs
     have hcb : c < b.length := by clear hN hN2; omega
     obtain ⟨S, hS⟩ : ∃ S, S = i * b.length := ⟨_, rfl⟩
     have hl : S + c < s.length := by
      rw [hs.len]
      exact Nat.lt_of_lt_of_le (Nat.add_lt_add_left hcb S) (row_le hS hia)
     have hSN : s.length ≤ 20000 := by rw [hs.len]; exact hN2
     obtain ⟨r, h1, h2⟩ := ihe (c + 1) _ (by clear hN hN2 hS; omega) (hs.step hS hia hcb)
     refine ⟨r, Ev.step (fun K => by rw [treemergeref19_Ints.l1]) ?_, h2⟩
     have q3 : S + c ≤ 1000000 := by clear hN hN2 hS; omega
     have qc : c ≤ 1000000 := by clear hN hN2 hS; omega
     have m3 : wrap64 ((i : Int) * (b.length : Int)) = (S : Int) := wmul hS (by clear hN hN2 hS; omega)
     clear hN hN2 hS
     have a3 := wadd q3
     rw [m3, a3, toN, rd_at hia, rd_at hcb, w_up qc]
     exact Ev.pos (Int.ofNat_lt.2 hcb) (Ev.pos (Int.natCast_nonneg _) (Ev.pos (Int.ofNat_lt.2 hia) (Ev.pos (Int.natCast_nonneg _) (Ev.pos (Int.natCast_nonneg _) (Ev.pos (Int.ofNat_lt.2 hl) h1)))))
   obtain ⟨r, h1, h2⟩ := inner b.length 0 s (Nat.zero_add _) hs
   exact ⟨r, Ev.step (fun K => by rw [treemergeref19_Ints.l0]) (Ev.pos (Int.ofNat_lt.2 hia) (show Ev (fun K => treemergeref19_Ints.l1 K a b s (i : Int) 0) r from h1)), h2⟩
 obtain ⟨r, h1, h2⟩ := key a.length 0 (List.replicate (a.length * b.length) false) (Nat.zero_add _) ⟨by rw [List.length_replicate], fun i' k' S _ _ _ hc => by clear hN hN2; omega⟩
 refine ⟨r, ?_, h2⟩
 obtain ⟨N, hNe⟩ : ∃ N, N = a.length * b.length := ⟨_, rfl⟩
 have hN' : N ≤ 20000 := by rw [hNe]; exact hN2
 have wm : wrap64 ((a.length : Int) * (b.length : Int)) = (N : Int) := wmul hNe (by clear hN hN2 hNe; omega)
 unfold treemergeref19_Ints.f
 rw [wm, toN]
 refine Ev.pos (Int.natCast_nonneg N) (Ev.pos (by clear hN hN2 hNe; omega) ?_)
 rw [hNe]
 exact h1
end Go.Proofs.Ytdbgdkbpamekpaa.Pure
