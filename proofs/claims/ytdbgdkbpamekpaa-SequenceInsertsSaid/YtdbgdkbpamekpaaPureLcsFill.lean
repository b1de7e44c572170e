/- The tables are filled; the program's longest common subsequences (chapter 32). -/
import Derived.Test.YtdbgdkbpamekpaaPureLcsEv
namespace Go.Proofs.Ytdbgdkbpamekpaa.Pure
set_option linter.unusedVariables false
open Go.RowKit Go.Proofs.Ytdbgdkbpamekpaa.Q Go.Proofs.YtdbgdkbpamekpaaW.PrintWords Go.Proofs.YtdbgdkbpamekpaaW.PrintLast

structure InvR (a b : List Int) (i : Nat) (t : List (List Int)) : Prop where
  len : t.length = a.length + 1
  up : ∀ i', i ≤ i' → i' ≤ a.length → ∃ row, t[i']? = some row ∧ Row a b i' row 0
  down : ∀ i', i' < i → t[i']? = some (List.replicate (b.length + 1) 0)
theorem zeroRow (a b : List Int) (i k : Nat) (hk : b.length ≤ k) : Row a b i (List.replicate (b.length + 1) 0) k := by
  refine ⟨by simp, fun k' h1 h2 => ?_⟩
  have : k' = b.length := by omega
  subst this
  rw [List.drop_of_length_le (Nat.le_refl _), Lc_none]
  simp
theorem InvR.two {a b : List Int} {i : Nat} {t : List (List Int)} (h : InvR a b (i + 1) t) (hi : i < a.length) : Inv2 a b i b.length t :=
  ⟨h.len, fun i' h1 h2 => h.up i' h1 h2, ⟨_, h.down i (Nat.lt_succ_self i), zeroRow a b i _ (Nat.le_refl _)⟩, fun i' h1 => h.down i' (by omega)⟩
theorem Inv2.one {a b : List Int} {i : Nat} {t : List (List Int)} (h : Inv2 a b i 0 t) : InvR a b i t := by
  refine ⟨h.len, fun i' h1 h2 => ?_, h.down⟩
  rcases Nat.lt_or_ge i i' with c | c
  · exact h.up i' c h2
  · have : i' = i := by omega
    subst this
    exact h.here
theorem toN (i : Nat) : ((i : Int) : Int).toNat = i := Int.toNat_natCast i
theorem l2_ev {a b : List Int} (ha : a.length ≤ 1000) (hb : b.length ≤ 1000) {i : Nat} (hi : i < a.length) {Pr : List S71 → Prop}
    (H : ∀ t, Inv2 a b i 0 t → ∃ r, Ev (fun K => lcs_rest_int.l1 K a b t (wrap64 ((i : Int) - 1))) r ∧ Pr r) :
    ∀ c t, c ≤ b.length → Inv2 a b i c t → ∃ r, Ev (fun K => lcs_rest_int.l2 K a b t (i : Int) ((c : Int) - 1)) r ∧ Pr r := by
  intro c
  induction c with
  | zero =>
    intro t _ hI
    obtain ⟨r, h1, h2⟩ := H t hI
    exact ⟨r, Ev.step (fun K => by rw [lcs_rest_int.l2]) (Ev.neg (by omega) h1), h2⟩
  | succ c ih =>
    intro t hc hI
    have e0 : (((c + 1 : Nat) : Int) - 1) = (c : Int) := by omega
    rw [e0]
    have hcb : c < b.length := by omega
    obtain ⟨row, hr, hl, hg⟩ := hI.here
    obtain ⟨row2, hr2, hl2, hg2⟩ := hI.up (i + 1) (by omega) (by omega)
    have q1 : rd_LI t (i : Int) = row := rdL hr
    have q2 : rd_LI t ((i + 1 : Nat) : Int) = row2 := rdL hr2
    have hlen := hI.len
    have ew : wrap64 ((c : Int) - 1) = (c : Int) - 1 := by unfold wrap64; omega
    by_cases e : a[i] = b[c]
    · have hv : wrap64 (rd row2 ((c + 1 : Nat) : Int) + 1) = (Lc (a.drop i) (b.drop c) : Int) := by
        rw [rdI (hg2 (c + 1) (by omega) (by omega)), w_up (by have := Lc_le a b (i + 1) (c + 1); omega), Lc_at hi, Lc_at hcb, Lc_cons, if_pos e]
      obtain ⟨r, h1, h2⟩ := ih (t.set i (row.set c (wrap64 (rd row2 ((c + 1 : Nat) : Int) + 1)))) (by omega) (hI.step hi hcb hr hv)
      refine ⟨r, Ev.step (fun K => by rw [lcs_rest_int.l2]) (Ev.pos (by omega) (Ev.pos (by omega) (Ev.pos (by omega) (Ev.pos (by omega) (Ev.pos (by omega) ?_))))), h2⟩
      rw [rd_at hi, rd_at hcb, w_up (show i ≤ 1000000 by omega), w_up (show c ≤ 1000000 by omega), q1, q2, toN, toN, ew]
      exact Ev.pos e (Ev.pos (by omega) (Ev.pos (by omega) (Ev.pos (by omega) (Ev.pos (by omega) (Ev.pos (by omega) (Ev.pos (by omega) h1))))))
    · have hv : mx (rd row2 (c : Int)) (rd row ((c + 1 : Nat) : Int)) = (Lc (a.drop i) (b.drop c) : Int) := by
        rw [rdI (hg2 c (by omega) (by omega)), rdI (hg (c + 1) (by omega) (by omega)), Lc_at hi, Lc_at hcb, Lc_cons, if_neg e]
        unfold mx
        split <;> omega
      obtain ⟨r, h1, h2⟩ := ih (t.set i (row.set c (mx (rd row2 (c : Int)) (rd row ((c + 1 : Nat) : Int))))) (by omega) (hI.step hi hcb hr hv)
      refine ⟨r, Ev.step (fun K => by rw [lcs_rest_int.l2]) (Ev.pos (by omega) (Ev.pos (by omega) (Ev.pos (by omega) (Ev.pos (by omega) (Ev.pos (by omega) ?_))))), h2⟩
      rw [rd_at hi, rd_at hcb, w_up (show i ≤ 1000000 by omega), w_up (show c ≤ 1000000 by omega), q1, q2, toN, toN, ew]
      exact Ev.neg e (Ev.pos (by omega) (Ev.pos (by omega) (Ev.pos (by omega) (Ev.pos (by omega) (Ev.pos (by omega) (Ev.pos (by omega) (Ev.pos (by omega) h1)))))))
theorem l1_ev {a b : List Int} (ha : a.length ≤ 1000) (hb : b.length ≤ 1000) : ∀ i t, i ≤ a.length → InvR a b i t → ∃ r, Ev (fun K => lcs_rest_int.l1 K a b t ((i : Int) - 1)) r ∧ (Sub a b 0 0 r ∧ r.length = Lc a b ∧ Gr a b a.length 0 0 r) := by
  intro i
  induction i with
  | zero =>
    intro t _ hI
    obtain ⟨r, h1, h2, h3, h4⟩ := l3_ev (a := a) (b := b) (t := t) ⟨hI.len, fun i hi => hI.up i (Nat.zero_le _) hi⟩ ha hb a.length 0 0 [] (by omega) (by omega) (by simp)
    exact ⟨r, Ev.step (fun K => by rw [lcs_rest_int.l1]) (Ev.neg (by omega) (show Ev (fun K => lcs_rest_int.l3 K a b t [] 0 0) r from h1)), h2, h3, h4⟩
  | succ i ih =>
    intro t hi hI
    have e0 : (((i + 1 : Nat) : Int) - 1) = (i : Int) := by omega
    rw [e0]
    obtain ⟨r, h1, h2⟩ := l2_ev ha hb (show i < a.length by omega) (fun t ht => by
      have := ih t (by omega) ht.one
      rwa [show (i : Int) - 1 = wrap64 ((i : Int) - 1) by unfold wrap64; omega] at this) b.length t (Nat.le_refl _) (hI.two (by omega))
    refine ⟨r, Ev.step (fun K => by rw [lcs_rest_int.l1]) (Ev.pos (by omega) ?_), h2⟩
    rw [show wrap64 ((b.length : Int) - 1) = (b.length : Int) - 1 by unfold wrap64; omega]
    exact h1
theorem rest_ev {a b : List Int} (ha : a.length ≤ 1000) (hb : b.length ≤ 1000) : ∃ r, Ev (fun K => lcs_rest_int.f K a b) r ∧ (Sub a b 0 0 r ∧ r.length = Lc a b ∧ Gr a b a.length 0 0 r) := by
  have w1 : wrap64 ((a.length : Int) + 1) = ((a.length + 1 : Nat) : Int) := w_up (by omega)
  have w2 : wrap64 ((b.length : Int) + 1) = ((b.length + 1 : Nat) : Int) := w_up (by omega)
  have key : ∀ d i (t : List (List Int)), i + d = a.length + 1 → t.length = a.length + 1 → (∀ i', i' < i → t[i']? = some (List.replicate (b.length + 1) 0)) → ∃ r, Ev (fun K => lcs_rest_int.l0 K a b t ((a.length + 1 : Nat) : Int) (i : Int)) r ∧ (Sub a b 0 0 r ∧ r.length = Lc a b ∧ Gr a b a.length 0 0 r) := by
    intro d
    induction d with
    | zero =>
      intro i t hi ht hz
      obtain ⟨r, h1, h2⟩ := l1_ev ha hb a.length t (Nat.le_refl _) ⟨ht, fun i' g1 g2 => by
        have : i' = a.length := by omega
        subst this
        refine ⟨_, hz a.length (by omega), by simp, fun k' _ hk => ?_⟩
        rw [List.drop_of_length_le (Nat.le_refl _), Lc_nil]
        rw [List.getElem?_replicate, if_pos (by omega)]
        rfl, fun i' g => hz i' (by omega)⟩
      refine ⟨r, Ev.step (fun K => by rw [lcs_rest_int.l0]) (Ev.neg (by omega) ?_), h2⟩
      rw [show wrap64 ((a.length : Int) - 1) = (a.length : Int) - 1 by unfold wrap64; omega]
      exact h1
    | succ d ih =>
      intro i t hi ht hz
      obtain ⟨r, h1, h2⟩ := ih (i + 1) (t.set i (List.replicate (b.length + 1) 0)) (by omega) (by rw [List.length_set]; exact ht) (fun i' g => by
        rcases Nat.lt_or_ge i' i with c | c
        · rw [List.getElem?_set_ne (by omega)]
          exact hz i' c
        · have : i' = i := by omega
          subst this
          exact List.getElem?_set_self (by omega))
      refine ⟨r, Ev.step (fun K => by rw [lcs_rest_int.l0]) (Ev.pos (by omega) ?_), h2⟩
      rw [w2, toN, toN, w_up (show i ≤ 1000000 by omega)]
      exact Ev.pos (by omega) (Ev.pos (by omega) (Ev.pos (by omega) (Ev.pos (by omega) h1)))
  obtain ⟨r, h1, h2⟩ := key (a.length + 1) 0 (List.replicate (a.length + 1) []) (by omega) (by simp) (fun i' g => by omega)
  refine ⟨r, ?_, h2⟩
  unfold lcs_rest_int.f
  rw [w1, toN]
  refine Ev.pos (by omega) (Ev.pos (by omega) (Ev.bind (Ev.now _) ?_))
  rw [List.length_replicate]
  exact h1
def shift (c : Nat) (r : List S71) : List S71 := r.map fun p => ⟨p.f0 + (c : Int), p.f1 + (c : Int)⟩
theorem Sub.shift {a b : List Int} {c : Nat} (hca : c ≤ a.length) (hcb : c ≤ b.length) : ∀ {r : List S71} {i k : Nat}, Sub (a.drop c) (b.drop c) i k r → Sub a b (c + i) (c + k) (shift c r)
  | [], _, _, _ => trivial
  | p :: r, i, k, h => by
    obtain ⟨i', k', rfl, g1, g2, g3, g4, g5, g6⟩ := h
    rw [List.length_drop] at g3 g4
    rw [List.getElem?_drop, List.getElem?_drop] at g5
    exact ⟨c + i', c + k', by simp; omega, by omega, by omega, by omega, by omega, g5, Sub.shift hca hcb g6⟩
theorem Sub.range {a b : List Int} : ∀ {r : List S71} {i k : Nat}, Sub a b i k r → ∀ p ∈ r, ∃ i' k' : Nat, p = ⟨(i' : Int), (k' : Int)⟩ ∧ i ≤ i' ∧ k ≤ k' ∧ i' < a.length ∧ k' < b.length ∧ a[i']? = b[k']?
  | [], _, _, _ => fun p hp => by simp at hp
  | p :: r, i, k, h => by
    obtain ⟨i', k', e, g1, g2, g3, g4, g5, g6⟩ := h
    intro q hq
    rcases List.mem_cons.1 hq with rfl | hq
    · exact ⟨i', k', e, g1, g2, g3, g4, g5⟩
    · obtain ⟨i2, k2, e2, l1, l2, l3, l4, l5⟩ := g6.range q hq
      exact ⟨i2, k2, e2, by omega, by omega, l3, l4, l5⟩
theorem Sub.len {a b : List Int} : ∀ {r : List S71} {i k : Nat}, Sub a b i k r → i ≤ a.length → r.length + i ≤ a.length
  | [], _, _, _, h => by simpa using h
  | p :: r, i, k, h, _ => by
    obtain ⟨i', k', e, g1, g2, g3, g4, g5, g6⟩ := h
    have := g6.len (by omega)
    simp
    omega
def ident : Nat → Nat → List S71
  | _, 0 => []
  | s, c + 1 => ⟨(s : Int), (s : Int)⟩ :: ident (s + 1) c
theorem ident_len : ∀ (c s : Nat), (ident s c).length = c
  | 0, _ => rfl
  | c + 1, s => by rw [ident, List.length_cons, ident_len c]
theorem ident_snoc : ∀ (c s : Nat), ident s (c + 1) = ident s c ++ [⟨((s + c : Nat) : Int), ((s + c : Nat) : Int)⟩]
  | 0, s => rfl
  | c + 1, s => by
    rw [ident, ident_snoc c (s + 1), ident]
    simp only [List.cons_append]
    rw [show s + 1 + c = s + (c + 1) by omega]
theorem Sub.ident {a b : List Int} : ∀ (c s : Nat) (r : List S71), (∀ t, s ≤ t → t < s + c → t < a.length ∧ t < b.length ∧ a[t]? = b[t]?) → Sub a b (s + c) (s + c) r → Sub a b s s (ident s c ++ r)
  | 0, s, r, _, h => h
  | c + 1, s, r, hp, h => by
    obtain ⟨h1, h2, h3⟩ := hp s (Nat.le_refl _) (by omega)
    refine ⟨s, s, rfl, Nat.le_refl _, Nat.le_refl _, h1, h2, h3, Sub.ident c (s + 1) r (fun t g1 g2 => hp t (by omega) (by omega)) ?_⟩
    rw [show s + 1 + c = s + (c + 1) by omega]
    exact h
theorem drop2 (a : List Int) (c i : Nat) : (a.drop c).drop i = a.drop (c + i) := by rw [List.drop_drop]
theorem Gr.shift {a b : List Int} {c : Nat} (hcb : c ≤ b.length) : ∀ {d i k : Nat} {r : List S71}, Gr (a.drop c) (b.drop c) d i k r → Gr a b d (c + i) (c + k) (shift c r)
  | 0, _, _, _, h => by
    have : _ = [] := h
    subst this
    exact rfl
  | d + 1, i, k, r, h => by
    have gd : ∀ j, Good (a.drop c) (b.drop c) i k j ↔ Good a b (c + i) (c + k) (c + j) := fun j => by
      unfold Good
      rw [List.getElem?_drop, List.getElem?_drop, drop2, drop2, drop2, drop2]
      rfl
    rcases h with ⟨h, e⟩ | ⟨j, r', h1, h2, h3, h4, h5⟩ | ⟨h1, h2⟩
    · rw [drop2, drop2] at h
      exact .inl ⟨h, by rw [e]; rfl⟩
    · rw [List.length_drop] at h2
      refine .inr (.inl ⟨c + j, Pure.shift c r', by omega, by omega, (gd j).1 h3, ?_, Gr.shift hcb h5⟩)
      rw [h4]
      simp [Pure.shift]
      omega
    · refine .inr (.inr ⟨fun j g1 g2 g3 => ?_, Gr.shift hcb h2⟩)
      refine h1 (j - c) (by omega) (by rw [List.length_drop]; omega) ((gd _).2 ?_)
      rwa [show c + (j - c) = j by omega]
theorem Gr.ident {a b : List Int} : ∀ (c s : Nat) {d : Nat} {r : List S71}, (∀ t, s ≤ t → t < s + c → t < a.length ∧ t < b.length ∧ a[t]? = b[t]?) → Gr a b d (s + c) (s + c) r → Gr a b (c + d) s s (Pure.ident s c ++ r)
  | 0, s, d, r, _, h => by rw [Nat.zero_add]; exact h
  | c + 1, s, d, r, hp, h => by
    obtain ⟨h1, h2, h3⟩ := hp s (Nat.le_refl _) (by omega)
    rw [show c + 1 + d = (c + d) + 1 by omega]
    refine .inr (.inl ⟨s, Pure.ident (s + 1) c ++ r, Nat.le_refl _, h2, ⟨h3, ?_⟩, rfl, Gr.ident c (s + 1) (fun t g1 g2 => hp t (by omega) (by omega)) ?_⟩)
    · rw [Lc_at h1, Lc_at h2, Lc_cons, if_pos]
      rw [List.getElem?_eq_getElem h1, List.getElem?_eq_getElem h2] at h3
      exact Option.some.inj h3
    · rw [show s + 1 + c = s + (c + 1) by omega]
      exact h
/-- What is known of the pairs of two lists. -/
structure Pairs (a b : List Int) (r : List S71) : Prop where
  sub : Sub a b 0 0 r
  gr : Gr a b a.length 0 0 r
  pre : ∃ c, r.length = c + Lc (a.drop c) (b.drop c) ∧ c ≤ a.length ∧ c ≤ b.length ∧ (∀ t, t < c → a[t]? = b[t]?) ∧ (c < a.length → c < b.length → a[c]? ≠ b[c]?)
theorem lcs_ev {a b : List Int} (ha : a.length ≤ 1000) (hb : b.length ≤ 1000) : ∃ r, Ev (fun K => lcs_Ints.f K a b) r ∧ Pairs a b r := by
  have kl : ∀ (r : List S71) (c : Nat), c ≤ 1000 → (∀ p ∈ r, ∃ i' k' : Nat, p = ⟨(i' : Int), (k' : Int)⟩ ∧ i' ≤ 1000 ∧ k' ≤ 1000) → r.length ≤ 1000 → ∀ d i (x : List S71), i + d = r.length → x.length ≤ 1000 + i → Ev (fun K => lcs_common_int.l1 K x (c : Int) r (r.length : Int) (i : Int)) (x ++ shift c (r.drop i)) := by
    intro r c hc hr hrl d
    induction d with
    | zero =>
      intro i x hi hx
      refine Ev.step (fun K => by rw [lcs_common_int.l1]) (Ev.neg (by omega) ?_)
      rw [List.drop_of_length_le (by omega)]
      exact Ev.cast (by simp [shift]) (Ev.now _)
    | succ d ih =>
      intro i x hi hx
      have h1 : i < r.length := by omega
      have e1 : rd_T71 r (i : Int) = r[i] := by simp [rd_T71, List.getD_eq_getElem?_getD, List.getElem?_eq_getElem h1]
      obtain ⟨i', k', e2, l1, l2⟩ := hr r[i] (List.getElem_mem h1)
      refine Ev.step (fun K => by rw [lcs_common_int.l1]) (Ev.pos (by omega) (Ev.pos (by omega) (Ev.pos (by omega) (Ev.pos (by omega) ?_))))
      rw [e1, w_up (show i ≤ 1000000 by omega), List.drop_eq_getElem_cons h1, e2]
      have w1 : wrap64 ((i' : Int) + (c : Int)) = (i' : Int) + (c : Int) := by unfold wrap64; omega
      have w2 : wrap64 ((k' : Int) + (c : Int)) = (k' : Int) + (c : Int) := by unfold wrap64; omega
      rw [w1, w2]
      exact Ev.cast (by simp [shift]) (ih (i + 1) (x ++ [⟨(i' : Int) + (c : Int), (k' : Int) + (c : Int)⟩]) (by omega) (by simp; omega))
  have kj : ∀ c, c ≤ a.length → c ≤ b.length → (∀ t, t < c → a[t]? = b[t]?) → (c < a.length → c < b.length → a[c]? ≠ b[c]?) → ∃ r, Ev (fun K => lcs_common_int.j1 K a b (ident 0 c)) r ∧ Pairs a b r := by
    intro c hca hcb hp hq
    obtain ⟨r, h1, h2, h3, h4⟩ := rest_ev (a := a.drop c) (b := b.drop c) (by rw [List.length_drop]; omega) (by rw [List.length_drop]; omega)
    have hrl := h2.len (Nat.zero_le _)
    rw [List.length_drop] at hrl
    refine ⟨ident 0 c ++ shift c r, Ev.step (fun K => by rw [lcs_common_int.j1]) ?_, ?_, ?_, ?_⟩
    · rw [ident_len]
      refine Ev.pos (by omega) (Ev.pos (by omega) (Ev.pos (by omega) ?_))
      rw [toN]
      refine h1.bind ?_
      have := kl r c (by omega) (fun p hp => by
        obtain ⟨i', k', e, _, _, l3, l4, _⟩ := h2.range p hp
        rw [List.length_drop] at l3 l4
        exact ⟨i', k', e, by omega, by omega⟩) (by omega) r.length 0 (ident 0 c) (by omega) (by rw [ident_len]; omega)
      exact this
    · refine Sub.ident c 0 _ (fun t _ g => ⟨by omega, by omega, hp t (by omega)⟩) ?_
      have := Sub.shift (c := c) hca hcb h2
      simpa using this
    · have h5 := Gr.shift (c := c) hcb h4
      rw [Nat.add_zero, List.length_drop] at h5
      have h6 := Gr.ident c 0 (r := Pure.shift c r) (d := a.length - c) (fun t _ g => ⟨by omega, by omega, hp t (by omega)⟩) (by rw [Nat.zero_add]; exact h5)
      rwa [show c + (a.length - c) = a.length by omega] at h6
    · exact ⟨c, by rw [List.length_append, ident_len, shift, List.length_map, h3], hca, hcb, hp, hq⟩
  have k0 : ∀ d c, c + d = a.length → c ≤ b.length → (∀ t, t < c → a[t]? = b[t]?) → ∃ r, Ev (fun K => lcs_common_int.l0 K a b (ident 0 c)) r ∧ Pairs a b r := by
    intro d
    induction d with
    | zero =>
      intro c hc hcb hp
      obtain ⟨r, h1, h2⟩ := kj c (by omega) hcb hp (fun g => by omega)
      refine ⟨r, Ev.step (fun K => by rw [lcs_common_int.l0]) ?_, h2⟩
      rw [ident_len]
      exact Ev.neg (by omega) h1
    | succ d ih =>
      intro c hc hcb hp
      have hca : c < a.length := by omega
      rcases Nat.lt_or_ge c b.length with hcb2 | hcb2
      · by_cases e : a[c] = b[c]
        · obtain ⟨r, h1, h2⟩ := ih (c + 1) (by omega) (by omega) (fun t g => by
            rcases Nat.lt_or_ge t c with q | q
            · exact hp t q
            · have : t = c := by omega
              subst this
              rw [List.getElem?_eq_getElem hca, List.getElem?_eq_getElem hcb2, e])
          refine ⟨r, Ev.step (fun K => by rw [lcs_common_int.l0]) ?_, h2⟩
          rw [ident_len, rd_at hca, rd_at hcb2]
          refine Ev.pos (by omega) (Ev.pos (by omega) (Ev.pos (by omega) (Ev.pos e (Ev.pos (by omega) ?_))))
          rw [ident_snoc, Nat.zero_add] at h1
          exact h1
        · obtain ⟨r, h1, h2⟩ := kj c (by omega) hcb hp (fun _ _ => by rw [List.getElem?_eq_getElem hca, List.getElem?_eq_getElem hcb2]; simpa using e)
          refine ⟨r, Ev.step (fun K => by rw [lcs_common_int.l0]) ?_, h2⟩
          rw [ident_len, rd_at hca, rd_at hcb2]
          exact Ev.pos (by omega) (Ev.pos (by omega) (Ev.pos (by omega) (Ev.neg e h1)))
      · obtain ⟨r, h1, h2⟩ := kj c (by omega) hcb hp (fun _ g => by omega)
        refine ⟨r, Ev.step (fun K => by rw [lcs_common_int.l0]) ?_, h2⟩
        rw [ident_len]
        exact Ev.pos (by omega) (Ev.neg (by omega) h1)
  obtain ⟨r, h1, h2⟩ := k0 a.length 0 (by omega) (by omega) (fun t g => by omega)
  refine ⟨r, ?_, h2⟩
  unfold lcs_Ints.f lcs_common_int.f
  exact h1.bind (Ev.now _)
end Go.Proofs.Ytdbgdkbpamekpaa.Pure
