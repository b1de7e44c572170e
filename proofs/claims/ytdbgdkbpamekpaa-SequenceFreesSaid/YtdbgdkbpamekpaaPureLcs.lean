/- The longest common subsequences: what the program's tables say (chapter 32). -/
import Derived.Test.YtdbgdkbpamekpaaPureBase
namespace Go.Proofs.Ytdbgdkbpamekpaa.Pure
set_option linter.unusedVariables false
open Go.RowKit Go.Proofs.Ytdbgdkbpamekpaa.Q Go.Proofs.YtdbgdkbpamekpaaW.PrintWords Go.Proofs.YtdbgdkbpamekpaaW.PrintLast

def lrow (x : Int) (prev : List Int → Nat) : List Int → Nat
 | [] => 0
 | y :: b => if x = y then prev b + 1 else max (prev (y :: b)) (lrow x prev b)
def Lc : List Int → List Int → Nat
 | [], _ => 0
 | x :: a, b => lrow x (Lc a) b
theorem Lc_nil (b : List Int) : Lc [] b = 0 := rfl
theorem Lc_none (a : List Int) : Lc a [] = 0 := by cases a <;> rfl
theorem Lc_cons (x y : Int) (a b : List Int) : Lc (x :: a) (y :: b) = if x = y then Lc a b + 1 else max (Lc a (y :: b)) (Lc (x :: a) b) := rfl
theorem Lc_bounds : ∀ (a b : List Int), Lc a b ≤ a.length ∧ (∀ y, Lc a b ≤ Lc a (y :: b) ∧ Lc a (y :: b) ≤ Lc a b + 1)
 | [], b => by simp [Lc_nil]
 | x :: a, b => by
  have ih := Lc_bounds a
  have key : ∀ b, Lc (x :: a) b ≤ a.length + 1 ∧ Lc a b ≤ Lc (x :: a) b ∧ Lc (x :: a) b ≤ Lc a b + 1 ∧ (∀ y, Lc (x :: a) b ≤ Lc (x :: a) (y :: b) ∧ Lc (x :: a) (y :: b) ≤ Lc (x :: a) b + 1) := by
   intro b
   induction b with
   | nil =>
    refine ⟨by rw [Lc_none]; omega, by rw [Lc_none, Lc_none]; omega, by rw [Lc_none]; omega, fun y => ?_⟩
    have := (ih []).2 y
    rw [Lc_cons, Lc_none, Lc_none] at *
    split <;> omega
   | cons z b ihb =>
    obtain ⟨h1, h2, h3, h4⟩ := ihb
    have a1 := (ih b).1
    have a2 := (ih (z :: b)).1
    have a3 := (ih b).2 z
    have h5 := h4 z
    refine ⟨?_, ?_, ?_, fun y => ?_⟩
    ·rw [Lc_cons]; split <;> omega
    ·rw [Lc_cons]; split <;> omega
    ·rw [Lc_cons]; split <;> omega
    ·have a4 := (ih (z :: b)).2 y
     have h6 : Lc a (z :: b) ≤ Lc (x :: a) (z :: b) ∧ Lc (x :: a) (z :: b) ≤ Lc a (z :: b) + 1 := by rw [Lc_cons]; split <;> omega
     rw [Lc_cons x y]
     split <;> omega
  have h := key b
  exact ⟨by simpa using h.1, h.2.2.2⟩
theorem Lc_len (a b : List Int) : Lc a b ≤ a.length := (Lc_bounds a b).1
theorem Lc_grow (a b : List Int) (y : Int) : Lc a b ≤ Lc a (y :: b) := ((Lc_bounds a b).2 y).1
theorem Lc_tail (x : Int) (a b : List Int) : Lc a b ≤ Lc (x :: a) b := by
 induction b with
 | nil => rw [Lc_none, Lc_none]; omega
 | cons z b ih =>
  have := (Lc_bounds a b).2 z
  rw [Lc_cons]
  split <;> omega
theorem Lc_drop (a b : List Int) (j : Nat) : Lc a (b.drop j) ≤ Lc a b := by
 induction j generalizing b with
 | zero => simp
 | succ j ih =>
  cases b with
  | nil => simp
  | cons y b => exact Nat.le_trans (ih b) (Lc_grow a b y)
theorem Lc_self : ∀ (a : List Int), Lc a a = a.length
 | [] => rfl
 | x :: a => by rw [Lc_cons, if_pos rfl, Lc_self a]; rfl
/-- A first element that matters has a partner. -/
theorem Lc_partner (x : Int) (a : List Int) : ∀ (b : List Int), Lc a b < Lc (x :: a) b → ∃ j, b[j]? = some x ∧ Lc a (b.drop (j + 1)) + 1 = Lc (x :: a) b ∧ Lc (x :: a) (b.drop j) = Lc (x :: a) b
 | [], h => by rw [Lc_none, Lc_none] at h; omega
 | y :: b, h => by
  by_cases e : x = y
  ·exact ⟨0, by simp [e], by simp [Lc_cons, e], by simp⟩
  ·have h1 := Lc_grow a b y
   rw [Lc_cons, if_neg e] at h ⊢
   obtain ⟨j, h2, h3, h4⟩ := Lc_partner x a b (by omega)
   exact ⟨j + 1, by simpa using h2, by simp only [List.drop_succ_cons]; omega, by simp only [List.drop_succ_cons]; omega⟩

theorem rdL {t : List (List Int)} {i : Nat} {row : List Int} (h : t[i]? = some row) : rd_LI t (i : Int) = row := by simp [rd_LI, List.getD_eq_getElem?_getD, h]
theorem rdI {l : List Int} {i : Nat} {v : Int} (h : l[i]? = some v) : rd l (i : Int) = v := by simp [rd, List.getD_eq_getElem?_getD, h]
theorem w_up {i : Nat} (h : i ≤ 1000000) : wrap64 ((i : Int) + 1) = ((i + 1 : Nat) : Int) := by unfold wrap64; omega
theorem w_down {i : Nat} (h : i ≤ 1000000) : wrap64 (((i + 1 : Nat) : Int) - 1) = (i : Int) := by unfold wrap64; omega
def Row (a b : List Int) (i : Nat) (row : List Int) (k : Nat) : Prop := row.length = b.length + 1 ∧ ∀ k', k ≤ k' → k' ≤ b.length → row[k']? = some (Lc (a.drop i) (b.drop k') : Int)
structure Inv2 (a b : List Int) (i k : Nat) (t : List (List Int)) : Prop where
 len : t.length = a.length + 1
 up : ∀ i', i < i' → i' ≤ a.length → ∃ row, t[i']? = some row ∧ Row a b i' row 0
 here : ∃ row, t[i]? = some row ∧ Row a b i row k
 down : ∀ i', i' < i → t[i']? = some (List.replicate (b.length + 1) 0)
theorem Inv2.step {a b : List Int} {i k : Nat} {t : List (List Int)} (h : Inv2 a b i (k + 1) t) (hi : i < a.length) (hk : k < b.length) {row : List Int} (hr : t[i]? = some row) {v : Int} (hv : v = (Lc (a.drop i) (b.drop k) : Int)) : Inv2 a b i k (t.set i (row.set k v)) := by
 have hil : i < t.length := by rw [h.len]; omega
 refine ⟨by rw [List.length_set]; exact h.len, fun i' h1 h2 => ?_, ?_, fun i' h1 => ?_⟩
 ·rw [List.getElem?_set_ne (by omega)]
  exact h.up i' h1 h2
 ·obtain ⟨row', hr', hl, hg⟩ := h.here
  rw [hr] at hr'
  cases hr'
  refine ⟨_, List.getElem?_set_self hil, by rw [List.length_set]; exact hl, fun k' h1 h2 => ?_⟩
  rcases Nat.lt_or_ge k k' with c | c
  ·rw [List.getElem?_set_ne (by omega)]
   exact hg k' c h2
  ·have : k' = k := by omega
   subst this
   rw [List.getElem?_set_self (by omega), hv]
 ·rw [List.getElem?_set_ne (by omega)]
  exact h.down i' h1
def Sub (a b : List Int) : Nat → Nat → List S71 → Prop
 | _, _, [] => True
 | i, k, p :: r => ∃ i' k' : Nat, p = ⟨(i' : Int), (k' : Int)⟩ ∧ i ≤ i' ∧ k ≤ k' ∧ i' < a.length ∧ k' < b.length ∧ a[i']? = b[k']? ∧ Sub a b (i' + 1) (k' + 1) r
theorem Sub.weak {a b : List Int} : ∀ {r : List S71} {i k i0 k0 : Nat}, Sub a b i k r → i0 ≤ i → k0 ≤ k → Sub a b i0 k0 r
 | [], _, _, _, _, _, _, _ => trivial
 | p :: r, i, k, i0, k0, h, h1, h2 => by
  obtain ⟨i', k', e, g1, g2, g3, g4, g5, g6⟩ := h
  exact ⟨i', k', e, by omega, by omega, g3, g4, g5, g6⟩
/-- A filled table. -/
def Tab (a b : List Int) (t : List (List Int)) : Prop := t.length = a.length + 1 ∧ ∀ i, i ≤ a.length → ∃ row, t[i]? = some row ∧ Row a b i row 0
/- The longest common subsequences: what the program answers (chapter 32). -/

theorem Lc_at {a : List Int} {i : Nat} (h : i < a.length) : a.drop i = a[i] :: a.drop (i + 1) := List.drop_eq_getElem_cons h
theorem Lc_le (a b : List Int) (i k : Nat) : Lc (a.drop i) (b.drop k) ≤ a.length := by have := Lc_len (a.drop i) (b.drop k); rw [List.length_drop] at this; omega
theorem Tab.get {a b : List Int} {t : List (List Int)} (h : Tab a b t) {i k : Nat} (hi : i ≤ a.length) (hk : k ≤ b.length) : (rd_LI t (i : Int)).length = b.length + 1 ∧ rd (rd_LI t (i : Int)) (k : Int) = (Lc (a.drop i) (b.drop k) : Int) := by
 obtain ⟨row, h1, h2, h3⟩ := h.2 i hi
 rw [rdL h1]
 exact ⟨h2, rdI (h3 k (Nat.zero_le _) hk)⟩
def Good (a b : List Int) (i k j : Nat) : Prop := a[i]? = b[j]? ∧ Lc (a.drop (i + 1)) (b.drop (j + 1)) + 1 = Lc (a.drop i) (b.drop k)
theorem drop_mono (a b : List Int) (i k j : Nat) (h : k ≤ j) : Lc (a.drop i) (b.drop j) ≤ Lc (a.drop i) (b.drop k) := by
 have := Lc_drop (a.drop i) (b.drop k) (j - k)
 rw [List.drop_drop, show k + (j - k) = j by omega] at this
 exact this
theorem partner_ev {a b : List Int} {t : List (List Int)} (hT : Tab a b t) (ha : a.length ≤ 1000) (hb : b.length ≤ 1000) {i k : Nat} (hi : i < a.length) (hk : k ≤ b.length) :
  ∃ r : Int, Ev (fun K => lcs_partner_int.f K a b t (i : Int) (k : Int)) r ∧ ((∃ j : Nat, r = (j : Int) ∧ k ≤ j ∧ j < b.length ∧ Good a b i k j) ∨ (r = -1 ∧ ∀ j, k ≤ j → j < b.length → Lc (a.drop i) (b.drop j) = Lc (a.drop i) (b.drop k) → ¬ Good a b i k j)) := by
 have key : ∀ d j, j + d = b.length → k ≤ j → ∃ r : Int, Ev (fun K => lcs_partner_int.l0 K a b t (i : Int) (k : Int) (j : Int)) r ∧ ((∃ j' : Nat, r = (j' : Int) ∧ j ≤ j' ∧ j' < b.length ∧ Good a b i k j') ∨ (r = -1 ∧ ∀ j', j ≤ j' → j' < b.length → Lc (a.drop i) (b.drop j') = Lc (a.drop i) (b.drop k) → ¬ Good a b i k j')) := by
  intro d
  induction d with
  | zero =>
   intro j hj hkj
   refine ⟨-1, Ev.step (fun K => by rw [lcs_partner_int.l0]) (Ev.neg (by omega) (Ev.step (fun K => by rw [lcs_partner_int.j1]) (Ev.neg (by simp) (Ev.now _)))), .inr ⟨rfl, fun j' h1 h2 => by omega⟩⟩
  | succ d ih =>
   intro j hj hkj
   have hjb : j < b.length := by omega
   have g1 := hT.get (show i ≤ a.length by omega) (show j ≤ b.length by omega)
   have g2 := hT.get (show i ≤ a.length by omega) hk
   have g3 := hT.get (show i + 1 ≤ a.length by omega) (show j + 1 ≤ b.length by omega)
   have hlen := hT.1
   obtain ⟨r, hr, hp⟩ := ih (j + 1) (by omega) (by omega)
   have open0 : ∀ r : Int, Ev (fun K => lcs_partner_int.j1 K a b t (i : Int) (k : Int) (j : Int) ((Lc (a.drop i) (b.drop j) : Int) == (Lc (a.drop i) (b.drop k) : Int))) r → Ev (fun K => lcs_partner_int.l0 K a b t (i : Int) (k : Int) (j : Int)) r := by
    intro r h
    refine Ev.step (fun K => by rw [lcs_partner_int.l0]) (Ev.pos (by omega) (Ev.pos (by omega) (Ev.pos (by omega) (Ev.pos (by omega) (Ev.pos (by rw [g1.1]; omega) (Ev.pos (by omega) (Ev.pos (by rw [g1.1]; omega) ?_)))))))
    rw [g1.2, g2.2]
    exact h
   by_cases e : Lc (a.drop i) (b.drop j) = Lc (a.drop i) (b.drop k)
   ·have open1 : ∀ r : Int, (a[i]? = b[j]? → (Lc (a.drop (i + 1)) (b.drop (j + 1)) + 1 = Lc (a.drop i) (b.drop k) → r = (j : Int)) ∧ (Lc (a.drop (i + 1)) (b.drop (j + 1)) + 1 ≠ Lc (a.drop i) (b.drop k) → Ev (fun K => lcs_partner_int.l0 K a b t (i : Int) (k : Int) ((j + 1 : Nat) : Int)) r)) → (a[i]? ≠ b[j]? → Ev (fun K => lcs_partner_int.l0 K a b t (i : Int) (k : Int) ((j + 1 : Nat) : Int)) r) → Ev (fun K => lcs_partner_int.l0 K a b t (i : Int) (k : Int) (j : Int)) r := by
     intro r h1 h2
     refine open0 r (Ev.step (fun K => by rw [lcs_partner_int.j1]) (Ev.pos (by simp [e]) (Ev.pos (by omega) (Ev.pos (by omega) (Ev.pos (by omega) (Ev.pos (by omega) ?_))))))
     rw [rd_at hi, rd_at hjb, w_up (show i ≤ 1000000 by omega), w_up (show j ≤ 1000000 by omega)]
     rw [List.getElem?_eq_getElem hi, List.getElem?_eq_getElem hjb] at h1 h2
     by_cases c : a[i] = b[j]
     ·refine Ev.pos c (Ev.pos (by omega) (Ev.pos (by omega) (Ev.pos (by omega) (Ev.pos (by rw [g3.1]; omega) (Ev.pos (by omega) (Ev.pos (by omega) (Ev.pos (by rw [g1.1]; omega) ?_)))))))
      have hw : wrap64 ((Lc (a.drop (i + 1)) (b.drop (j + 1)) : Int) + 1) = ((Lc (a.drop (i + 1)) (b.drop (j + 1)) + 1 : Nat) : Int) := w_up (by have := Lc_le a b (i + 1) (j + 1); omega)
      rw [g3.2, g2.2, hw]
      have hc := h1 (by rw [c])
      by_cases q : Lc (a.drop (i + 1)) (b.drop (j + 1)) + 1 = Lc (a.drop i) (b.drop k)
      ·exact Ev.pos (by rw [q]) (Ev.cast (hc.1 q).symm (Ev.now _))
      ·exact Ev.neg (fun e => q (Int.ofNat_inj.1 e)) (hc.2 q)
     ·exact Ev.neg c (h2 (by simpa using c))
    by_cases gd : Good a b i k j
    ·refine ⟨(j : Int), open1 _ (fun h => ⟨fun _ => rfl, fun h2 => absurd gd.2 h2⟩) (fun h => absurd gd.1 h), .inl ⟨j, rfl, Nat.le_refl _, hjb, gd⟩⟩
    ·refine ⟨r, open1 _ (fun h => ⟨fun h2 => absurd ⟨h, h2⟩ gd, fun _ => hr⟩) (fun _ => hr), ?_⟩
     rcases hp with ⟨j', h1, h2, h3, h4⟩ | ⟨h1, h2⟩
     ·exact .inl ⟨j', h1, by omega, h3, h4⟩
     ·refine .inr ⟨h1, fun j' g4 g5 g6 => ?_⟩
      rcases Nat.lt_or_ge j j' with c | c
      ·exact h2 j' c g5 g6
      ·have : j' = j := by omega
       subst this
       exact gd
   ·refine ⟨-1, open0 _ (Ev.step (fun K => by rw [lcs_partner_int.j1]) (Ev.neg (by simp; omega) (Ev.now _))), .inr ⟨rfl, fun j' g4 g5 g6 => ?_⟩⟩
    have h1 := drop_mono a b i j j' g4
    have h2 := drop_mono a b i k j hkj
    omega
 obtain ⟨r, h1, h2⟩ := key (b.length - k) k (by omega) (Nat.le_refl _)
 exact ⟨r, h1, h2⟩
theorem nodup_get {b : List Int} (hn : b.Nodup) {i j : Nat} (hi : i < b.length) (hj : j < b.length) (e : b[i] = b[j]) : i = j := by
 rcases Nat.lt_trichotomy i j with c | c | c
 ·exact absurd e ((List.pairwise_iff_getElem.1 hn) i j hi hj c)
 ·exact c
 ·exact absurd e.symm ((List.pairwise_iff_getElem.1 hn) j i hj hi c)
/-- The pairs that are taken: at every element the one that begins a longest common subsequence of the rests, if there is one. -/
def Gr (a b : List Int) : Nat → Nat → Nat → List S71 → Prop
 | 0, _, _, r => r = []
 | d + 1, i, k, r => (Lc (a.drop i) (b.drop k) = 0 ∧ r = []) ∨ (∃ j r', k ≤ j ∧ j < b.length ∧ Good a b i k j ∧ r = ⟨(i : Int), (j : Int)⟩ :: r' ∧ Gr a b d (i + 1) (j + 1) r') ∨ ((∀ j, k ≤ j → j < b.length → ¬ Good a b i k j) ∧ Gr a b d (i + 1) k r)
theorem Gr.none {a b : List Int} : ∀ {d i k : Nat} {r : List S71}, i + d = a.length → Lc (a.drop i) (b.drop k) = 0 → Gr a b d i k r → r = []
 | 0, _, _, _, _, _, h => h
 | d + 1, i, k, r, hd, hz, h => by
  rcases h with ⟨_, h⟩ | ⟨j, r', _, _, g, _, _⟩ | ⟨_, h⟩
  ·exact h
  ·have := g.2
   omega
  ·refine Gr.none (by omega) ?_ h
   have ht := Lc_tail (a[i]'(by omega)) (a.drop (i + 1)) (b.drop k)
   rw [← Lc_at (by omega)] at ht
   omega
theorem Gr.uniq {a b : List Int} (hn : b.Nodup) : ∀ {d i k : Nat} {r s : List S71}, i + d = a.length → Gr a b d i k r → Gr a b d i k s → r = s
 | 0, _, _, _, _, _, h, g => h.trans g.symm
 | d + 1, i, k, r, s, hd, h, g => by
  by_cases hz : Lc (a.drop i) (b.drop k) = 0
  ·rw [Gr.none hd hz h, Gr.none hd hz g]
  ·rcases h with ⟨e, _⟩ | ⟨j, r', h1, h2, h3, h4, h5⟩ | ⟨h1, h2⟩
   ·exact absurd e hz
   ·rcases g with ⟨e, _⟩ | ⟨j2, s', g1, g2, g3, g4, g5⟩ | ⟨g1, g2⟩
    ·exact absurd e hz
    ·have e := h3.1.symm.trans g3.1
     rw [List.getElem?_eq_getElem h2, List.getElem?_eq_getElem g2, Option.some.injEq] at e
     have e := nodup_get hn h2 g2 e
     subst e
     rw [h4, g4, Gr.uniq hn (by omega) h5 g5]
    ·exact absurd h3 (g1 j h1 h2)
   ·rcases g with ⟨e, _⟩ | ⟨j2, s', g1, g2, g3, g4, g5⟩ | ⟨g1, g2⟩
    ·exact absurd e hz
    ·exact absurd g3 (h1 j2 g1 g2)
    ·exact Gr.uniq hn (by omega) h2 g2
theorem Good.here {a b : List Int} {i k j : Nat} (hi : i < a.length) (hj : j < b.length) (h : Good a b i k j) : Lc (a.drop i) (b.drop j) = Lc (a.drop i) (b.drop k) := by
 rw [← h.2, Lc_at hi, Lc_at hj, Lc_cons, if_pos]
 have := h.1
 rw [List.getElem?_eq_getElem hi, List.getElem?_eq_getElem hj] at this
 exact Option.some.inj this
theorem l3_ev {a b : List Int} {t : List (List Int)} (hT : Tab a b t) (ha : a.length ≤ 1000) (hb : b.length ≤ 1000) : ∀ d i k (out : List S71), i + d = a.length → k ≤ b.length → out.length ≤ i →
  ∃ r, Ev (fun K => lcs_rest_int.l3 K a b t out (i : Int) (k : Int)) (out ++ r) ∧ Sub a b i k r ∧ r.length = Lc (a.drop i) (b.drop k) ∧ Gr a b d i k r := by
 intro d
 induction d with
 | zero =>
  intro i k out hi hk ho
  refine ⟨[], Ev.step (fun K => by rw [lcs_rest_int.l3]) (Ev.neg (by omega) (Ev.step (fun K => by rw [lcs_rest_int.j4]) (Ev.neg (by simp) (Ev.cast (by simp) (Ev.now _))))), trivial, ?_, rfl⟩
  rw [List.drop_of_length_le (by omega), Lc_nil]
  rfl
 | succ d ih =>
  intro i k out hi hk ho
  have hia : i < a.length := by omega
  have g2 := hT.get (show i ≤ a.length by omega) hk
  have hlen := hT.1
  rcases Nat.lt_or_ge k b.length with hkb | hkb
  ·by_cases hz : Lc (a.drop i) (b.drop k) = 0
   ·refine ⟨[], Ev.step (fun K => by rw [lcs_rest_int.l3]) (Ev.pos (by omega) (Ev.step (fun K => by rw [lcs_rest_int.j4]) (Ev.pos (by simp; omega) (Ev.pos (by omega) (Ev.pos (by omega) (Ev.pos (by omega) (Ev.pos (by rw [g2.1]; omega) (Ev.pos (by rw [g2.2, hz]; rfl) (Ev.cast (by simp) (Ev.now _)))))))))), trivial, by rw [hz]; rfl, .inl ⟨hz, rfl⟩⟩
   ·obtain ⟨pr, hpr, hp⟩ := partner_ev hT ha hb hia hk
    have op : ∀ r : List S71, Ev (fun K => if pr ≥ 0 then (if out.length < 8796093022208 then (lcs_rest_int.l3 K a b t (out ++ [(⟨(i : Int), pr⟩ : S71)]) (wrap64 ((i : Int) + 1)) (wrap64 (pr + 1))) else none) else (lcs_rest_int.l3 K a b t out (wrap64 ((i : Int) + 1)) (k : Int))) r → Ev (fun K => lcs_rest_int.l3 K a b t out (i : Int) (k : Int)) r := by
     intro r h
     exact Ev.step (fun K => by rw [lcs_rest_int.l3]) (Ev.pos (by omega) (Ev.step (fun K => by rw [lcs_rest_int.j4]) (Ev.pos (by simp; omega) (Ev.pos (by omega) (Ev.pos (by omega) (Ev.pos (by omega) (Ev.pos (by rw [g2.1]; omega) (Ev.neg (by rw [g2.2]; omega) (hpr.bind h)))))))))
    rcases hp with ⟨j, rfl, hkj, hjb, gd⟩ | ⟨rfl, hno⟩
    ·obtain ⟨r, h1, h2, h3, h4⟩ := ih (i + 1) (j + 1) (out ++ [⟨(i : Int), (j : Int)⟩]) (by omega) (by omega) (by simp; omega)
     refine ⟨⟨(i : Int), (j : Int)⟩ :: r, op _ (Ev.pos (by omega) (Ev.pos (by omega) ?_)), ⟨i, j, rfl, Nat.le_refl _, hkj, hia, hjb, gd.1, h2⟩, ?_, .inr (.inl ⟨j, r, hkj, hjb, gd, rfl, h4⟩)⟩
     ·rw [w_up (show i ≤ 1000000 by omega), w_up (show j ≤ 1000000 by omega)]
      exact Ev.cast (by simp) h1
     ·rw [List.length_cons, h3, gd.2]
    ·obtain ⟨r, h1, h2, h3, h4⟩ := ih (i + 1) k out (by omega) hk (by omega)
     refine ⟨r, op _ (Ev.neg (by omega) ?_), h2.weak (by omega) (Nat.le_refl _), ?_, .inr (.inr ⟨fun j q1 q2 q3 => hno j q1 q2 (q3.here hia q2) q3, h4⟩)⟩
     ·rw [w_up (show i ≤ 1000000 by omega)]
      exact h1
     ·rw [h3]
      have ht := Lc_tail a[i] (a.drop (i + 1)) (b.drop k)
      rw [← Lc_at hia] at ht
      rcases Nat.lt_or_ge (Lc (a.drop (i + 1)) (b.drop k)) (Lc (a.drop i) (b.drop k)) with c | c
      ·exfalso
       have hq := Lc_partner a[i] (a.drop (i + 1)) (b.drop k) (by rw [← Lc_at hia]; exact c)
       rw [← Lc_at hia] at hq
       obtain ⟨j, q1, q2, q3⟩ := hq
       rw [List.getElem?_drop] at q1
       rw [List.drop_drop] at q2 q3
       have hjl : k + j < b.length := (List.getElem?_eq_some_iff.1 q1).1
       refine hno (k + j) (by omega) hjl q3 ⟨?_, ?_⟩
       ·rw [q1, List.getElem?_eq_getElem hia]
       ·exact q2
      ·omega
  ·refine ⟨[], Ev.step (fun K => by rw [lcs_rest_int.l3]) (Ev.pos (by omega) (Ev.step (fun K => by rw [lcs_rest_int.j4]) (Ev.neg (by simp; omega) (Ev.cast (by simp) (Ev.now _))))), trivial, ?_, .inl ⟨by rw [List.drop_of_length_le hkb, Lc_none], rfl⟩⟩
   rw [List.drop_of_length_le hkb, Lc_none]
   rfl
/- The tables are filled; the program's longest common subsequences (chapter 32). -/

structure InvR (a b : List Int) (i : Nat) (t : List (List Int)) : Prop where
 len : t.length = a.length + 1
 up : ∀ i', i ≤ i' → i' ≤ a.length → ∃ row, t[i']? = some row ∧ Row a b i' row 0
 down : ∀ i', i' < i → t[i']? = some (List.replicate (b.length + 1) 0)
theorem zeroRow (a b : List Int) (i k : Nat) (hk : b.length ≤ k) : Row a b i (List.replicate (b.length + 1) 0) k := by
 refine ⟨by simp, fun k' h1 h2 => ?_⟩
 have : k' = b.length := by omega
 subst this
 rw [List.drop_of_length_le (Nat.le_refl _), Lc_none]
 simp
theorem InvR.two {a b : List Int} {i : Nat} {t : List (List Int)} (h : InvR a b (i + 1) t) (hi : i < a.length) : Inv2 a b i b.length t :=
 ⟨h.len, fun i' h1 h2 => h.up i' h1 h2, ⟨_, h.down i (Nat.lt_succ_self i), zeroRow a b i _ (Nat.le_refl _)⟩, fun i' h1 => h.down i' (by omega)⟩
theorem Inv2.one {a b : List Int} {i : Nat} {t : List (List Int)} (h : Inv2 a b i 0 t) : InvR a b i t := by
 refine ⟨h.len, fun i' h1 h2 => ?_, h.down⟩
 rcases Nat.lt_or_ge i i' with c | c
 ·exact h.up i' c h2
 ·have : i' = i := by omega
  subst this
  exact h.here
theorem toN (i : Nat) : ((i : Int) : Int).toNat = i := Int.toNat_natCast i
theorem l2_ev {a b : List Int} (ha : a.length ≤ 1000) (hb : b.length ≤ 1000) {i : Nat} (hi : i < a.length) {Pr : List S71 → Prop}
  (H : ∀ t, Inv2 a b i 0 t → ∃ r, Ev (fun K => lcs_rest_int.l1 K a b t (wrap64 ((i : Int) - 1))) r ∧ Pr r) :
  ∀ c t, c ≤ b.length → Inv2 a b i c t → ∃ r, Ev (fun K => lcs_rest_int.l2 K a b t (i : Int) ((c : Int) - 1)) r ∧ Pr r := by
 intro c
 induction c with
 | zero =>
  intro t _ hI
  obtain ⟨r, h1, h2⟩ := H t hI
  exact ⟨r, Ev.step (fun K => by rw [lcs_rest_int.l2]) (Ev.neg (by omega) h1), h2⟩
 | succ c ih =>
  intro t hc hI
  have e0 : (((c + 1 : Nat) : Int) - 1) = (c : Int) := by omega
  rw [e0]
  have hcb : c < b.length := by omega
  obtain ⟨row, hr, hl, hg⟩ := hI.here
  obtain ⟨row2, hr2, hl2, hg2⟩ := hI.up (i + 1) (by omega) (by omega)
  have q1 : rd_LI t (i : Int) = row := rdL hr
  have q2 : rd_LI t ((i + 1 : Nat) : Int) = row2 := rdL hr2
  have hlen := hI.len
  have ew : wrap64 ((c : Int) - 1) = (c : Int) - 1 := by unfold wrap64; omega
  by_cases e : a[i] = b[c]
  ·have hv : wrap64 (rd row2 ((c + 1 : Nat) : Int) + 1) = (Lc (a.drop i) (b.drop c) : Int) := by
    rw [rdI (hg2 (c + 1) (by omega) (by omega)), w_up (by have := Lc_le a b (i + 1) (c + 1); omega), Lc_at hi, Lc_at hcb, Lc_cons, if_pos e]
   obtain ⟨r, h1, h2⟩ := ih (t.set i (row.set c (wrap64 (rd row2 ((c + 1 : Nat) : Int) + 1)))) (by omega) (hI.step hi hcb hr hv)
   refine ⟨r, Ev.step (fun K => by rw [lcs_rest_int.l2]) (Ev.pos (by omega) (Ev.pos (by omega) (Ev.pos (by omega) (Ev.pos (by omega) (Ev.pos (by omega) ?_))))), h2⟩
   rw [rd_at hi, rd_at hcb, w_up (show i ≤ 1000000 by omega), w_up (show c ≤ 1000000 by omega), q1, q2, toN, toN, ew]
   exact Ev.pos e (Ev.pos (by omega) (Ev.pos (by omega) (Ev.pos (by omega) (Ev.pos (by omega) (Ev.pos (by omega) (Ev.pos (by omega) h1))))))
  ·have hv : mx (rd row2 (c : Int)) (rd row ((c + 1 : Nat) : Int)) = (Lc (a.drop i) (b.drop c) : Int) := by
    rw [rdI (hg2 c (by omega) (by omega)), rdI (hg (c + 1) (by omega) (by omega)), Lc_at hi, Lc_at hcb, Lc_cons, if_neg e]
    unfold mx
    split <;> omega
   obtain ⟨r, h1, h2⟩ := ih (t.set i (row.set c (mx (rd row2 (c : Int)) (rd row ((c + 1 : Nat) : Int))))) (by omega) (hI.step hi hcb hr hv)
   refine ⟨r, Ev.step (fun K => by rw [lcs_rest_int.l2]) (Ev.pos (by omega) (Ev.pos (by omega) (Ev.pos (by omega) (Ev.pos (by omega) (Ev.pos (by omega) ?_))))), h2⟩
   rw [rd_at hi, rd_at hcb, w_up (show i ≤ 1000000 by omega), w_up (show c ≤ 1000000 by omega), q1, q2, toN, toN, ew]
   exact Ev.neg e (Ev.pos (by omega) (Ev.pos (by omega) (Ev.pos (by omega) (Ev.pos (by omega) (Ev.pos (by omega) (Ev.pos (by omega) (Ev.pos (by omega) h1)))))))
theorem l1_ev {a b : List Int} (ha : a.length ≤ 1000) (hb : b.length ≤ 1000) : ∀ i t, i ≤ a.length → InvR a b i t → ∃ r, Ev (fun K => lcs_rest_int.l1 K a b t ((i : Int) - 1)) r ∧ (Sub a b 0 0 r ∧ r.length = Lc a b ∧ Gr a b a.length 0 0 r) := by
 intro i
 induction i with
 | zero =>
  intro t _ hI
  obtain ⟨r, h1, h2, h3, h4⟩ := l3_ev (a := a) (b := b) (t := t) ⟨hI.len, fun i hi => hI.up i (Nat.zero_le _) hi⟩ ha hb a.length 0 0 [] (by omega) (by omega) (by simp)
  exact ⟨r, Ev.step (fun K => by rw [lcs_rest_int.l1]) (Ev.neg (by omega) (show Ev (fun K => lcs_rest_int.l3 K a b t [] 0 0) r from h1)), h2, h3, h4⟩
 | succ i ih =>
  intro t hi hI
  have e0 : (((i + 1 : Nat) : Int) - 1) = (i : Int) := by omega
  rw [e0]
  obtain ⟨r, h1, h2⟩ := l2_ev ha hb (show i < a.length by omega) (fun t ht => by
   have := ih t (by omega) ht.one
   rwa [show (i : Int) - 1 = wrap64 ((i : Int) - 1) by unfold wrap64; omega] at this) b.length t (Nat.le_refl _) (hI.two (by omega))
  refine ⟨r, Ev.step (fun K => by rw [lcs_rest_int.l1]) (Ev.pos (by omega) ?_), h2⟩
  rw [show wrap64 ((b.length : Int) - 1) = (b.length : Int) - 1 by unfold wrap64; omega]
  exact h1
theorem rest_ev {a b : List Int} (ha : a.length ≤ 1000) (hb : b.length ≤ 1000) : ∃ r, Ev (fun K => lcs_rest_int.f K a b) r ∧ (Sub a b 0 0 r ∧ r.length = Lc a b ∧ Gr a b a.length 0 0 r) := by
 have w1 : wrap64 ((a.length : Int) + 1) = ((a.length + 1 : Nat) : Int) := w_up (by omega)
 have w2 : wrap64 ((b.length : Int) + 1) = ((b.length + 1 : Nat) : Int) := w_up (by omega)
 have key : ∀ d i (t : List (List Int)), i + d = a.length + 1 → t.length = a.length + 1 → (∀ i', i' < i → t[i']? = some (List.replicate (b.length + 1) 0)) → ∃ r, Ev (fun K => lcs_rest_int.l0 K a b t ((a.length + 1 : Nat) : Int) (i : Int)) r ∧ (Sub a b 0 0 r ∧ r.length = Lc a b ∧ Gr a b a.length 0 0 r) := by
  intro d
  induction d with
  | zero =>
   intro i t hi ht hz
   obtain ⟨r, h1, h2⟩ := l1_ev ha hb a.length t (Nat.le_refl _) ⟨ht, fun i' g1 g2 => by
    have : i' = a.length := by omega
    subst this
    refine ⟨_, hz a.length (by omega), by simp, fun k' _ hk => ?_⟩
    rw [List.drop_of_length_le (Nat.le_refl _), Lc_nil]
    rw [List.getElem?_replicate, if_pos (by omega)]
    rfl, fun i' g => hz i' (by omega)⟩
   refine ⟨r, Ev.step (fun K => by rw [lcs_rest_int.l0]) (Ev.neg (by omega) ?_), h2⟩
   rw [show wrap64 ((a.length : Int) - 1) = (a.length : Int) - 1 by unfold wrap64; omega]
   exact h1
  | succ d ih =>
   intro i t hi ht hz
   obtain ⟨r, h1, h2⟩ := ih (i + 1) (t.set i (List.replicate (b.length + 1) 0)) (by omega) (by rw [List.length_set]; exact ht) (fun i' g => by
    rcases Nat.lt_or_ge i' i with c | c
    ·rw [List.getElem?_set_ne (by omega)]
     exact hz i' c
    ·have : i' = i := by omega
     subst this
     exact List.getElem?_set_self (by omega))
   refine ⟨r, Ev.step (fun K => by rw [lcs_rest_int.l0]) (Ev.pos (by omega) ?_), h2⟩
   rw [w2, toN, toN, w_up (show i ≤ 1000000 by omega)]
   exact Ev.pos (by omega) (Ev.pos (by omega) (Ev.pos (by omega) (Ev.pos (by omega) h1)))
 obtain ⟨r, h1, h2⟩ := key (a.length + 1) 0 (List.replicate (a.length + 1) []) (by omega) (by simp) (fun i' g => by omega)
 refine ⟨r, ?_, h2⟩
 unfold lcs_rest_int.f
 rw [w1, toN]
 refine Ev.pos (by omega) (Ev.pos (by omega) (Ev.bind (Ev.now _) ?_))
 rw [List.length_replicate]
 exact h1
def shift (c : Nat) (r : List S71) : List S71 := r.map fun p => ⟨p.f0 + (c : Int), p.f1 + (c : Int)⟩
theorem Sub.shift {a b : List Int} {c : Nat} (hca : c ≤ a.length) (hcb : c ≤ b.length) : ∀ {r : List S71} {i k : Nat}, Sub (a.drop c) (b.drop c) i k r → Sub a b (c + i) (c + k) (shift c r)
 | [], _, _, _ => trivial
 | p :: r, i, k, h => by
  obtain ⟨i', k', rfl, g1, g2, g3, g4, g5, g6⟩ := h
  rw [List.length_drop] at g3 g4
  rw [List.getElem?_drop, List.getElem?_drop] at g5
  exact ⟨c + i', c + k', by simp; omega, by omega, by omega, by omega, by omega, g5, Sub.shift hca hcb g6⟩
theorem Sub.range {a b : List Int} : ∀ {r : List S71} {i k : Nat}, Sub a b i k r → ∀ p ∈ r, ∃ i' k' : Nat, p = ⟨(i' : Int), (k' : Int)⟩ ∧ i ≤ i' ∧ k ≤ k' ∧ i' < a.length ∧ k' < b.length ∧ a[i']? = b[k']?
 | [], _, _, _ => fun p hp => by simp at hp
 | p :: r, i, k, h => by
  obtain ⟨i', k', e, g1, g2, g3, g4, g5, g6⟩ := h
  intro q hq
  rcases List.mem_cons.1 hq with rfl | hq
  ·exact ⟨i', k', e, g1, g2, g3, g4, g5⟩
  ·obtain ⟨i2, k2, e2, l1, l2, l3, l4, l5⟩ := g6.range q hq
   exact ⟨i2, k2, e2, by omega, by omega, l3, l4, l5⟩
theorem Sub.len {a b : List Int} : ∀ {r : List S71} {i k : Nat}, Sub a b i k r → i ≤ a.length → r.length + i ≤ a.length
 | [], _, _, _, h => by simpa using h
 | p :: r, i, k, h, _ => by
  obtain ⟨i', k', e, g1, g2, g3, g4, g5, g6⟩ := h
  have := g6.len (by omega)
  simp
  omega
def ident : Nat → Nat → List S71
 | _, 0 => []
 | s, c + 1 => ⟨(s : Int), (s : Int)⟩ :: ident (s + 1) c
theorem ident_len : ∀ (c s : Nat), (ident s c).length = c
 | 0, _ => rfl
 | c + 1, s => by rw [ident, List.length_cons, ident_len c]
theorem ident_snoc : ∀ (c s : Nat), ident s (c + 1) = ident s c ++ [⟨((s + c : Nat) : Int), ((s + c : Nat) : Int)⟩]
 | 0, s => rfl
 | c + 1, s => by
  rw [ident, ident_snoc c (s + 1), ident]
  simp only [List.cons_append]
  rw [show s + 1 + c = s + (c + 1) by omega]
theorem Sub.ident {a b : List Int} : ∀ (c s : Nat) (r : List S71), (∀ t, s ≤ t → t < s + c → t < a.length ∧ t < b.length ∧ a[t]? = b[t]?) → Sub a b (s + c) (s + c) r → Sub a b s s (ident s c ++ r)
 | 0, s, r, _, h => h
 | c + 1, s, r, hp, h => by
  obtain ⟨h1, h2, h3⟩ := hp s (Nat.le_refl _) (by omega)
  refine ⟨s, s, rfl, Nat.le_refl _, Nat.le_refl _, h1, h2, h3, Sub.ident c (s + 1) r (fun t g1 g2 => hp t (by omega) (by omega)) ?_⟩
  rw [show s + 1 + c = s + (c + 1) by omega]
  exact h
theorem drop2 (a : List Int) (c i : Nat) : (a.drop c).drop i = a.drop (c + i) := by rw [List.drop_drop]
theorem Gr.shift {a b : List Int} {c : Nat} (hcb : c ≤ b.length) : ∀ {d i k : Nat} {r : List S71}, Gr (a.drop c) (b.drop c) d i k r → Gr a b d (c + i) (c + k) (shift c r)
 | 0, _, _, _, h => by
  have : _ = [] := h
  subst this
  exact rfl
 | d + 1, i, k, r, h => by
  have gd : ∀ j, Good (a.drop c) (b.drop c) i k j ↔ Good a b (c + i) (c + k) (c + j) := fun j => by
   unfold Good
   rw [List.getElem?_drop, List.getElem?_drop, drop2, drop2, drop2, drop2]
   rfl
  rcases h with ⟨h, e⟩ | ⟨j, r', h1, h2, h3, h4, h5⟩ | ⟨h1, h2⟩
  ·rw [drop2, drop2] at h
   exact .inl ⟨h, by rw [e]; rfl⟩
  ·rw [List.length_drop] at h2
   refine .inr (.inl ⟨c + j, Pure.shift c r', by omega, by omega, (gd j).1 h3, ?_, Gr.shift hcb h5⟩)
   rw [h4]
   simp [Pure.shift]
   omega
  ·refine .inr (.inr ⟨fun j g1 g2 g3 => ?_, Gr.shift hcb h2⟩)
   refine h1 (j - c) (by omega) (by rw [List.length_drop]; omega) ((gd _).2 ?_)
   rwa [show c + (j - c) = j by omega]
theorem Gr.ident {a b : List Int} : ∀ (c s : Nat) {d : Nat} {r : List S71}, (∀ t, s ≤ t → t < s + c → t < a.length ∧ t < b.length ∧ a[t]? = b[t]?) → Gr a b d (s + c) (s + c) r → Gr a b (c + d) s s (Pure.ident s c ++ r)
 | 0, s, d, r, _, h => by rw [Nat.zero_add]; exact h
 | c + 1, s, d, r, hp, h => by
  obtain ⟨h1, h2, h3⟩ := hp s (Nat.le_refl _) (by omega)
  rw [show c + 1 + d = (c + d) + 1 by omega]
  refine .inr (.inl ⟨s, Pure.ident (s + 1) c ++ r, Nat.le_refl _, h2, ⟨h3, ?_⟩, rfl, Gr.ident c (s + 1) (fun t g1 g2 => hp t (by omega) (by omega)) ?_⟩)
  ·rw [Lc_at h1, Lc_at h2, Lc_cons, if_pos]
   rw [List.getElem?_eq_getElem h1, List.getElem?_eq_getElem h2] at h3
   exact Option.some.inj h3
  ·rw [show s + 1 + c = s + (c + 1) by omega]
   exact h
/-- What is known of the pairs of two lists. -/
structure Pairs (a b : List Int) (r : List S71) : Prop where
 sub : Sub a b 0 0 r
 gr : Gr a b a.length 0 0 r
 pre : ∃ c, r.length = c + Lc (a.drop c) (b.drop c) ∧ c ≤ a.length ∧ c ≤ b.length ∧ (∀ t, t < c → a[t]? = b[t]?) ∧ (c < a.length → c < b.length → a[c]? ≠ b[c]?)
theorem lcs_ev {a b : List Int} (ha : a.length ≤ 1000) (hb : b.length ≤ 1000) : ∃ r, Ev (fun K => lcs_Ints.f K a b) r ∧ Pairs a b r := by
 have kl : ∀ (r : List S71) (c : Nat), c ≤ 1000 → (∀ p ∈ r, ∃ i' k' : Nat, p = ⟨(i' : Int), (k' : Int)⟩ ∧ i' ≤ 1000 ∧ k' ≤ 1000) → r.length ≤ 1000 → ∀ d i (x : List S71), i + d = r.length → x.length ≤ 1000 + i → Ev (fun K => lcs_common_int.l1 K x (c : Int) r (r.length : Int) (i : Int)) (x ++ shift c (r.drop i)) := by
  intro r c hc hr hrl d
  induction d with
  | zero =>
   intro i x hi hx
   refine Ev.step (fun K => by rw [lcs_common_int.l1]) (Ev.neg (by omega) ?_)
   rw [List.drop_of_length_le (by omega)]
   exact Ev.cast (by simp [shift]) (Ev.now _)
  | succ d ih =>
   intro i x hi hx
   have h1 : i < r.length := by omega
   have e1 : rd_T71 r (i : Int) = r[i] := by simp [rd_T71, List.getD_eq_getElem?_getD, List.getElem?_eq_getElem h1]
   obtain ⟨i', k', e2, l1, l2⟩ := hr r[i] (List.getElem_mem h1)
   refine Ev.step (fun K => by rw [lcs_common_int.l1]) (Ev.pos (by omega) (Ev.pos (by omega) (Ev.pos (by omega) (Ev.pos (by omega) ?_))))
   rw [e1, w_up (show i ≤ 1000000 by omega), List.drop_eq_getElem_cons h1, e2]
   have w1 : wrap64 ((i' : Int) + (c : Int)) = (i' : Int) + (c : Int) := by unfold wrap64; omega
   have w2 : wrap64 ((k' : Int) + (c : Int)) = (k' : Int) + (c : Int) := by unfold wrap64; omega
   rw [w1, w2]
   exact Ev.cast (by simp [shift]) (ih (i + 1) (x ++ [⟨(i' : Int) + (c : Int), (k' : Int) + (c : Int)⟩]) (by omega) (by simp; omega))
 have kj : ∀ c, c ≤ a.length → c ≤ b.length → (∀ t, t < c → a[t]? = b[t]?) → (c < a.length → c < b.length → a[c]? ≠ b[c]?) → ∃ r, Ev (fun K => lcs_common_int.j1 K a b (ident 0 c)) r ∧ Pairs a b r := by
  intro c hca hcb hp hq
  obtain ⟨r, h1, h2, h3, h4⟩ := rest_ev (a := a.drop c) (b := b.drop c) (by rw [List.length_drop]; omega) (by rw [List.length_drop]; omega)
  have hrl := h2.len (Nat.zero_le _)
  rw [List.length_drop] at hrl
  refine ⟨ident 0 c ++ shift c r, Ev.step (fun K => by rw [lcs_common_int.j1]) ?_, ?_, ?_, ?_⟩
  ·rw [ident_len]
   refine Ev.pos (by omega) (Ev.pos (by omega) (Ev.pos (by omega) ?_))
   rw [toN]
   refine h1.bind ?_
   have := kl r c (by omega) (fun p hp => by
    obtain ⟨i', k', e, _, _, l3, l4, _⟩ := h2.range p hp
    rw [List.length_drop] at l3 l4
    exact ⟨i', k', e, by omega, by omega⟩) (by omega) r.length 0 (ident 0 c) (by omega) (by rw [ident_len]; omega)
   exact this
  ·refine Sub.ident c 0 _ (fun t _ g => ⟨by omega, by omega, hp t (by omega)⟩) ?_
   have := Sub.shift (c := c) hca hcb h2
   simpa using this
  ·have h5 := Gr.shift (c := c) hcb h4
   rw [Nat.add_zero, List.length_drop] at h5
   have h6 := Gr.ident c 0 (r := Pure.shift c r) (d := a.length - c) (fun t _ g => ⟨by omega, by omega, hp t (by omega)⟩) (by rw [Nat.zero_add]; exact h5)
   rwa [show c + (a.length - c) = a.length by omega] at h6
  ·exact ⟨c, by rw [List.length_append, ident_len, shift, List.length_map, h3], hca, hcb, hp, hq⟩
 have k0 : ∀ d c, c + d = a.length → c ≤ b.length → (∀ t, t < c → a[t]? = b[t]?) → ∃ r, Ev (fun K => lcs_common_int.l0 K a b (ident 0 c)) r ∧ Pairs a b r := by
  intro d
  induction d with
  | zero =>
   intro c hc hcb hp
   obtain ⟨r, h1, h2⟩ := kj c (by omega) hcb hp (fun g => by omega)
   refine ⟨r, Ev.step (fun K => by rw [lcs_common_int.l0]) ?_, h2⟩
   rw [ident_len]
   exact Ev.neg (by omega) h1
  | succ d ih =>
   intro c hc hcb hp
   have hca : c < a.length := by omega
   rcases Nat.lt_or_ge c b.length with hcb2 | hcb2
   ·by_cases e : a[c] = b[c]
    ·obtain ⟨r, h1, h2⟩ := ih (c + 1) (by omega) (by omega) (fun t g => by
      rcases Nat.lt_or_ge t c with q | q
      ·exact hp t q
      ·have : t = c := by omega
       subst this
       rw [List.getElem?_eq_getElem hca, List.getElem?_eq_getElem hcb2, e])
     refine ⟨r, Ev.step (fun K => by rw [lcs_common_int.l0]) ?_, h2⟩
     rw [ident_len, rd_at hca, rd_at hcb2]
     refine Ev.pos (by omega) (Ev.pos (by omega) (Ev.pos (by omega) (Ev.pos e (Ev.pos (by omega) ?_))))
     rw [ident_snoc, Nat.zero_add] at h1
     exact h1
    ·obtain ⟨r, h1, h2⟩ := kj c (by omega) hcb hp (fun _ _ => by rw [List.getElem?_eq_getElem hca, List.getElem?_eq_getElem hcb2]; simpa using e)
     refine ⟨r, Ev.step (fun K => by rw [lcs_common_int.l0]) ?_, h2⟩
     rw [ident_len, rd_at hca, rd_at hcb2]
     exact Ev.pos (by omega) (Ev.pos (by omega) (Ev.pos (by omega) (Ev.neg e h1)))
   ·obtain ⟨r, h1, h2⟩ := kj c (by omega) hcb hp (fun _ g => by omega)
    refine ⟨r, Ev.step (fun K => by rw [lcs_common_int.l0]) ?_, h2⟩
    rw [ident_len]
    exact Ev.pos (by omega) (Ev.neg (by omega) h1)
 obtain ⟨r, h1, h2⟩ := k0 a.length 0 (by omega) (by omega) (fun t g => by omega)
 refine ⟨r, ?_, h2⟩
 unfold lcs_Ints.f lcs_common_int.f
 exact h1.bind (Ev.now _)
end Go.Proofs.Ytdbgdkbpamekpaa.Pure
