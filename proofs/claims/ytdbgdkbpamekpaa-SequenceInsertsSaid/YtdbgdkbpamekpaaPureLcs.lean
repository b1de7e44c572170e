/- The longest common subsequences: what the program's tables say (chapter 32). -/
import Derived.Test.YtdbgdkbpamekpaaPureAwake
namespace Go.Proofs.Ytdbgdkbpamekpaa.Pure
set_option linter.unusedVariables false
open Go.RowKit Go.Proofs.Ytdbgdkbpamekpaa.Q Go.Proofs.YtdbgdkbpamekpaaW.PrintWords Go.Proofs.YtdbgdkbpamekpaaW.PrintLast

def lrow (x : Int) (prev : List Int → Nat) : List Int → Nat
  | [] => 0
  | y :: b => if x = y then prev b + 1 else max (prev (y :: b)) (lrow x prev b)
def Lc : List Int → List Int → Nat
  | [], _ => 0
  | x :: a, b => lrow x (Lc a) b
theorem Lc_nil (b : List Int) : Lc [] b = 0 := rfl
theorem Lc_none (a : List Int) : Lc a [] = 0 := by cases a <;> rfl
theorem Lc_cons (x y : Int) (a b : List Int) : Lc (x :: a) (y :: b) = if x = y then Lc a b + 1 else max (Lc a (y :: b)) (Lc (x :: a) b) := rfl
theorem Lc_bounds : ∀ (a b : List Int), Lc a b ≤ a.length ∧ (∀ y, Lc a b ≤ Lc a (y :: b) ∧ Lc a (y :: b) ≤ Lc a b + 1)
  | [], b => by simp [Lc_nil]
  | x :: a, b => by
    have ih := Lc_bounds a
    have key : ∀ b, Lc (x :: a) b ≤ a.length + 1 ∧ Lc a b ≤ Lc (x :: a) b ∧ Lc (x :: a) b ≤ Lc a b + 1 ∧ (∀ y, Lc (x :: a) b ≤ Lc (x :: a) (y :: b) ∧ Lc (x :: a) (y :: b) ≤ Lc (x :: a) b + 1) := by
      intro b
      induction b with
      | nil =>
        refine ⟨by rw [Lc_none]; omega, by rw [Lc_none, Lc_none]; omega, by rw [Lc_none]; omega, fun y => ?_⟩
        have := (ih []).2 y
        rw [Lc_cons, Lc_none, Lc_none] at *
        split <;> omega
      | cons z b ihb =>
        obtain ⟨h1, h2, h3, h4⟩ := ihb
        have a1 := (ih b).1
        have a2 := (ih (z :: b)).1
        have a3 := (ih b).2 z
        have h5 := h4 z
        refine ⟨?_, ?_, ?_, fun y => ?_⟩
        · rw [Lc_cons]; split <;> omega
        · rw [Lc_cons]; split <;> omega
        · rw [Lc_cons]; split <;> omega
        · have a4 := (ih (z :: b)).2 y
          have h6 : Lc a (z :: b) ≤ Lc (x :: a) (z :: b) ∧ Lc (x :: a) (z :: b) ≤ Lc a (z :: b) + 1 := by rw [Lc_cons]; split <;> omega
          rw [Lc_cons x y]
          split <;> omega
    have h := key b
    exact ⟨by simpa using h.1, h.2.2.2⟩
theorem Lc_len (a b : List Int) : Lc a b ≤ a.length := (Lc_bounds a b).1
theorem Lc_grow (a b : List Int) (y : Int) : Lc a b ≤ Lc a (y :: b) := ((Lc_bounds a b).2 y).1
theorem Lc_tail (x : Int) (a b : List Int) : Lc a b ≤ Lc (x :: a) b := by
  induction b with
  | nil => rw [Lc_none, Lc_none]; omega
  | cons z b ih =>
    have := (Lc_bounds a b).2 z
    rw [Lc_cons]
    split <;> omega
theorem Lc_drop (a b : List Int) (j : Nat) : Lc a (b.drop j) ≤ Lc a b := by
  induction j generalizing b with
  | zero => simp
  | succ j ih =>
    cases b with
    | nil => simp
    | cons y b => exact Nat.le_trans (ih b) (Lc_grow a b y)
theorem Lc_self : ∀ (a : List Int), Lc a a = a.length
  | [] => rfl
  | x :: a => by rw [Lc_cons, if_pos rfl, Lc_self a]; rfl
/-- A first element that matters has a partner. -/
theorem Lc_partner (x : Int) (a : List Int) : ∀ (b : List Int), Lc a b < Lc (x :: a) b → ∃ j, b[j]? = some x ∧ Lc a (b.drop (j + 1)) + 1 = Lc (x :: a) b ∧ Lc (x :: a) (b.drop j) = Lc (x :: a) b
  | [], h => by rw [Lc_none, Lc_none] at h; omega
  | y :: b, h => by
    by_cases e : x = y
    · exact ⟨0, by simp [e], by simp [Lc_cons, e], by simp⟩
    · have h1 := Lc_grow a b y
      rw [Lc_cons, if_neg e] at h ⊢
      obtain ⟨j, h2, h3, h4⟩ := Lc_partner x a b (by omega)
      exact ⟨j + 1, by simpa using h2, by simp only [List.drop_succ_cons]; omega, by simp only [List.drop_succ_cons]; omega⟩

theorem rdL {t : List (List Int)} {i : Nat} {row : List Int} (h : t[i]? = some row) : rd_LI t (i : Int) = row := by simp [rd_LI, List.getD_eq_getElem?_getD, h]
theorem rdI {l : List Int} {i : Nat} {v : Int} (h : l[i]? = some v) : rd l (i : Int) = v := by simp [rd, List.getD_eq_getElem?_getD, h]
theorem w_up {i : Nat} (h : i ≤ 1000000) : wrap64 ((i : Int) + 1) = ((i + 1 : Nat) : Int) := by unfold wrap64; omega
theorem w_down {i : Nat} (h : i ≤ 1000000) : wrap64 (((i + 1 : Nat) : Int) - 1) = (i : Int) := by unfold wrap64; omega
def Row (a b : List Int) (i : Nat) (row : List Int) (k : Nat) : Prop := row.length = b.length + 1 ∧ ∀ k', k ≤ k' → k' ≤ b.length → row[k']? = some (Lc (a.drop i) (b.drop k') : Int)
structure Inv2 (a b : List Int) (i k : Nat) (t : List (List Int)) : Prop where
  len : t.length = a.length + 1
  up : ∀ i', i < i' → i' ≤ a.length → ∃ row, t[i']? = some row ∧ Row a b i' row 0
  here : ∃ row, t[i]? = some row ∧ Row a b i row k
  down : ∀ i', i' < i → t[i']? = some (List.replicate (b.length + 1) 0)
theorem Inv2.step {a b : List Int} {i k : Nat} {t : List (List Int)} (h : Inv2 a b i (k + 1) t) (hi : i < a.length) (hk : k < b.length) {row : List Int} (hr : t[i]? = some row) {v : Int} (hv : v = (Lc (a.drop i) (b.drop k) : Int)) : Inv2 a b i k (t.set i (row.set k v)) := by
  have hil : i < t.length := by rw [h.len]; omega
  refine ⟨by rw [List.length_set]; exact h.len, fun i' h1 h2 => ?_, ?_, fun i' h1 => ?_⟩
  · rw [List.getElem?_set_ne (by omega)]
    exact h.up i' h1 h2
  · obtain ⟨row', hr', hl, hg⟩ := h.here
    rw [hr] at hr'
    cases hr'
    refine ⟨_, List.getElem?_set_self hil, by rw [List.length_set]; exact hl, fun k' h1 h2 => ?_⟩
    rcases Nat.lt_or_ge k k' with c | c
    · rw [List.getElem?_set_ne (by omega)]
      exact hg k' c h2
    · have : k' = k := by omega
      subst this
      rw [List.getElem?_set_self (by omega), hv]
  · rw [List.getElem?_set_ne (by omega)]
    exact h.down i' h1
def Sub (a b : List Int) : Nat → Nat → List S71 → Prop
  | _, _, [] => True
  | i, k, p :: r => ∃ i' k' : Nat, p = ⟨(i' : Int), (k' : Int)⟩ ∧ i ≤ i' ∧ k ≤ k' ∧ i' < a.length ∧ k' < b.length ∧ a[i']? = b[k']? ∧ Sub a b (i' + 1) (k' + 1) r
theorem Sub.weak {a b : List Int} : ∀ {r : List S71} {i k i0 k0 : Nat}, Sub a b i k r → i0 ≤ i → k0 ≤ k → Sub a b i0 k0 r
  | [], _, _, _, _, _, _, _ => trivial
  | p :: r, i, k, i0, k0, h, h1, h2 => by
    obtain ⟨i', k', e, g1, g2, g3, g4, g5, g6⟩ := h
    exact ⟨i', k', e, by omega, by omega, g3, g4, g5, g6⟩
/-- A filled table. -/
def Tab (a b : List Int) (t : List (List Int)) : Prop := t.length = a.length + 1 ∧ ∀ i, i ≤ a.length → ∃ row, t[i]? = some row ∧ Row a b i row 0
end Go.Proofs.Ytdbgdkbpamekpaa.Pure
