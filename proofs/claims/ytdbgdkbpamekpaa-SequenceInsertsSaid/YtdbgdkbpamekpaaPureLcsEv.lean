/- The longest common subsequences: what the program answers (chapter 32). -/
import Derived.Test.YtdbgdkbpamekpaaPureLcs
namespace Go.Proofs.Ytdbgdkbpamekpaa.Pure
set_option linter.unusedVariables false
open Go.RowKit Go.Proofs.Ytdbgdkbpamekpaa.Q Go.Proofs.YtdbgdkbpamekpaaW.PrintWords Go.Proofs.YtdbgdkbpamekpaaW.PrintLast

theorem Lc_at {a : List Int} {i : Nat} (h : i < a.length) : a.drop i = a[i] :: a.drop (i + 1) := List.drop_eq_getElem_cons h
theorem Lc_le (a b : List Int) (i k : Nat) : Lc (a.drop i) (b.drop k) ≤ a.length := by have := Lc_len (a.drop i) (b.drop k); rw [List.length_drop] at this; omega
theorem Tab.get {a b : List Int} {t : List (List Int)} (h : Tab a b t) {i k : Nat} (hi : i ≤ a.length) (hk : k ≤ b.length) : (rd_LI t (i : Int)).length = b.length + 1 ∧ rd (rd_LI t (i : Int)) (k : Int) = (Lc (a.drop i) (b.drop k) : Int) := by
  obtain ⟨row, h1, h2, h3⟩ := h.2 i hi
  rw [rdL h1]
  exact ⟨h2, rdI (h3 k (Nat.zero_le _) hk)⟩
def Good (a b : List Int) (i k j : Nat) : Prop := a[i]? = b[j]? ∧ Lc (a.drop (i + 1)) (b.drop (j + 1)) + 1 = Lc (a.drop i) (b.drop k)
theorem drop_mono (a b : List Int) (i k j : Nat) (h : k ≤ j) : Lc (a.drop i) (b.drop j) ≤ Lc (a.drop i) (b.drop k) := by
  have := Lc_drop (a.drop i) (b.drop k) (j - k)
  rw [List.drop_drop, show k + (j - k) = j by omega] at this
  exact this
theorem partner_ev {a b : List Int} {t : List (List Int)} (hT : Tab a b t) (ha : a.length ≤ 1000) (hb : b.length ≤ 1000) {i k : Nat} (hi : i < a.length) (hk : k ≤ b.length) :
    ∃ r : Int, Ev (fun K => lcs_partner_int.f K a b t (i : Int) (k : Int)) r ∧ ((∃ j : Nat, r = (j : Int) ∧ k ≤ j ∧ j < b.length ∧ Good a b i k j) ∨ (r = -1 ∧ ∀ j, k ≤ j → j < b.length → Lc (a.drop i) (b.drop j) = Lc (a.drop i) (b.drop k) → ¬ Good a b i k j)) := by
  have key : ∀ d j, j + d = b.length → k ≤ j → ∃ r : Int, Ev (fun K => lcs_partner_int.l0 K a b t (i : Int) (k : Int) (j : Int)) r ∧ ((∃ j' : Nat, r = (j' : Int) ∧ j ≤ j' ∧ j' < b.length ∧ Good a b i k j') ∨ (r = -1 ∧ ∀ j', j ≤ j' → j' < b.length → Lc (a.drop i) (b.drop j') = Lc (a.drop i) (b.drop k) → ¬ Good a b i k j')) := by
    intro d
    induction d with
    | zero =>
      intro j hj hkj
      refine ⟨-1, Ev.step (fun K => by rw [lcs_partner_int.l0]) (Ev.neg (by omega) (Ev.step (fun K => by rw [lcs_partner_int.j1]) (Ev.neg (by simp) (Ev.now _)))), .inr ⟨rfl, fun j' h1 h2 => by omega⟩⟩
    | succ d ih =>
      intro j hj hkj
      have hjb : j < b.length := by omega
      have g1 := hT.get (show i ≤ a.length by omega) (show j ≤ b.length by omega)
      have g2 := hT.get (show i ≤ a.length by omega) hk
      have g3 := hT.get (show i + 1 ≤ a.length by omega) (show j + 1 ≤ b.length by omega)
      have hlen := hT.1
      obtain ⟨r, hr, hp⟩ := ih (j + 1) (by omega) (by omega)
      have open0 : ∀ r : Int, Ev (fun K => lcs_partner_int.j1 K a b t (i : Int) (k : Int) (j : Int) ((Lc (a.drop i) (b.drop j) : Int) == (Lc (a.drop i) (b.drop k) : Int))) r → Ev (fun K => lcs_partner_int.l0 K a b t (i : Int) (k : Int) (j : Int)) r := by
        intro r h
        refine Ev.step (fun K => by rw [lcs_partner_int.l0]) (Ev.pos (by omega) (Ev.pos (by omega) (Ev.pos (by omega) (Ev.pos (by omega) (Ev.pos (by rw [g1.1]; omega) (Ev.pos (by omega) (Ev.pos (by rw [g1.1]; omega) ?_)))))))
        rw [g1.2, g2.2]
        exact h
      by_cases e : Lc (a.drop i) (b.drop j) = Lc (a.drop i) (b.drop k)
      · have open1 : ∀ r : Int, (a[i]? = b[j]? → (Lc (a.drop (i + 1)) (b.drop (j + 1)) + 1 = Lc (a.drop i) (b.drop k) → r = (j : Int)) ∧ (Lc (a.drop (i + 1)) (b.drop (j + 1)) + 1 ≠ Lc (a.drop i) (b.drop k) → Ev (fun K => lcs_partner_int.l0 K a b t (i : Int) (k : Int) ((j + 1 : Nat) : Int)) r)) → (a[i]? ≠ b[j]? → Ev (fun K => lcs_partner_int.l0 K a b t (i : Int) (k : Int) ((j + 1 : Nat) : Int)) r) → Ev (fun K => lcs_partner_int.l0 K a b t (i : Int) (k : Int) (j : Int)) r := by
          intro r h1 h2
          refine open0 r (Ev.step (fun K => by rw [lcs_partner_int.j1]) (Ev.pos (by simp [e]) (Ev.pos (by omega) (Ev.pos (by omega) (Ev.pos (by omega) (Ev.pos (by omega) ?_))))))
          rw [rd_at hi, rd_at hjb, w_up (show i ≤ 1000000 by omega), w_up (show j ≤ 1000000 by omega)]
          rw [List.getElem?_eq_getElem hi, List.getElem?_eq_getElem hjb] at h1 h2
          by_cases c : a[i] = b[j]
          · refine Ev.pos c (Ev.pos (by omega) (Ev.pos (by omega) (Ev.pos (by omega) (Ev.pos (by rw [g3.1]; omega) (Ev.pos (by omega) (Ev.pos (by omega) (Ev.pos (by rw [g1.1]; omega) ?_)))))))
            have hw : wrap64 ((Lc (a.drop (i + 1)) (b.drop (j + 1)) : Int) + 1) = ((Lc (a.drop (i + 1)) (b.drop (j + 1)) + 1 : Nat) : Int) := w_up (by have := Lc_le a b (i + 1) (j + 1); omega)
            rw [g3.2, g2.2, hw]
            have hc := h1 (by rw [c])
            by_cases q : Lc (a.drop (i + 1)) (b.drop (j + 1)) + 1 = Lc (a.drop i) (b.drop k)
            · exact Ev.pos (by rw [q]) (Ev.cast (hc.1 q).symm (Ev.now _))
            · exact Ev.neg (fun e => q (Int.ofNat_inj.1 e)) (hc.2 q)
          · exact Ev.neg c (h2 (by simpa using c))
        by_cases gd : Good a b i k j
        · refine ⟨(j : Int), open1 _ (fun h => ⟨fun _ => rfl, fun h2 => absurd gd.2 h2⟩) (fun h => absurd gd.1 h), .inl ⟨j, rfl, Nat.le_refl _, hjb, gd⟩⟩
        · refine ⟨r, open1 _ (fun h => ⟨fun h2 => absurd ⟨h, h2⟩ gd, fun _ => hr⟩) (fun _ => hr), ?_⟩
          rcases hp with ⟨j', h1, h2, h3, h4⟩ | ⟨h1, h2⟩
          · exact .inl ⟨j', h1, by omega, h3, h4⟩
          · refine .inr ⟨h1, fun j' g4 g5 g6 => ?_⟩
            rcases Nat.lt_or_ge j j' with c | c
            · exact h2 j' c g5 g6
            · have : j' = j := by omega
              subst this
              exact gd
      · refine ⟨-1, open0 _ (Ev.step (fun K => by rw [lcs_partner_int.j1]) (Ev.neg (by simp; omega) (Ev.now _))), .inr ⟨rfl, fun j' g4 g5 g6 => ?_⟩⟩
        have h1 := drop_mono a b i j j' g4
        have h2 := drop_mono a b i k j hkj
        omega
  obtain ⟨r, h1, h2⟩ := key (b.length - k) k (by omega) (Nat.le_refl _)
  exact ⟨r, h1, h2⟩
theorem nodup_get {b : List Int} (hn : b.Nodup) {i j : Nat} (hi : i < b.length) (hj : j < b.length) (e : b[i] = b[j]) : i = j := by
  rcases Nat.lt_trichotomy i j with c | c | c
  · exact absurd e ((List.pairwise_iff_getElem.1 hn) i j hi hj c)
  · exact c
  · exact absurd e.symm ((List.pairwise_iff_getElem.1 hn) j i hj hi c)
/-- The pairs that are taken: at every element the one that begins a longest common subsequence of the rests, if there is one. -/
def Gr (a b : List Int) : Nat → Nat → Nat → List S71 → Prop
  | 0, _, _, r => r = []
  | d + 1, i, k, r => (Lc (a.drop i) (b.drop k) = 0 ∧ r = []) ∨ (∃ j r', k ≤ j ∧ j < b.length ∧ Good a b i k j ∧ r = ⟨(i : Int), (j : Int)⟩ :: r' ∧ Gr a b d (i + 1) (j + 1) r') ∨ ((∀ j, k ≤ j → j < b.length → ¬ Good a b i k j) ∧ Gr a b d (i + 1) k r)
theorem Gr.none {a b : List Int} : ∀ {d i k : Nat} {r : List S71}, i + d = a.length → Lc (a.drop i) (b.drop k) = 0 → Gr a b d i k r → r = []
  | 0, _, _, _, _, _, h => h
  | d + 1, i, k, r, hd, hz, h => by
    rcases h with ⟨_, h⟩ | ⟨j, r', _, _, g, _, _⟩ | ⟨_, h⟩
    · exact h
    · have := g.2
      omega
    · refine Gr.none (by omega) ?_ h
      have ht := Lc_tail (a[i]'(by omega)) (a.drop (i + 1)) (b.drop k)
      rw [← Lc_at (by omega)] at ht
      omega
theorem Gr.uniq {a b : List Int} (hn : b.Nodup) : ∀ {d i k : Nat} {r s : List S71}, i + d = a.length → Gr a b d i k r → Gr a b d i k s → r = s
  | 0, _, _, _, _, _, h, g => h.trans g.symm
  | d + 1, i, k, r, s, hd, h, g => by
    by_cases hz : Lc (a.drop i) (b.drop k) = 0
    · rw [Gr.none hd hz h, Gr.none hd hz g]
    · rcases h with ⟨e, _⟩ | ⟨j, r', h1, h2, h3, h4, h5⟩ | ⟨h1, h2⟩
      · exact absurd e hz
      · rcases g with ⟨e, _⟩ | ⟨j2, s', g1, g2, g3, g4, g5⟩ | ⟨g1, g2⟩
        · exact absurd e hz
        · have e := h3.1.symm.trans g3.1
          rw [List.getElem?_eq_getElem h2, List.getElem?_eq_getElem g2, Option.some.injEq] at e
          have e := nodup_get hn h2 g2 e
          subst e
          rw [h4, g4, Gr.uniq hn (by omega) h5 g5]
        · exact absurd h3 (g1 j h1 h2)
      · rcases g with ⟨e, _⟩ | ⟨j2, s', g1, g2, g3, g4, g5⟩ | ⟨g1, g2⟩
        · exact absurd e hz
        · exact absurd g3 (h1 j2 g1 g2)
        · exact Gr.uniq hn (by omega) h2 g2
theorem Good.here {a b : List Int} {i k j : Nat} (hi : i < a.length) (hj : j < b.length) (h : Good a b i k j) : Lc (a.drop i) (b.drop j) = Lc (a.drop i) (b.drop k) := by
  rw [← h.2, Lc_at hi, Lc_at hj, Lc_cons, if_pos]
  have := h.1
  rw [List.getElem?_eq_getElem hi, List.getElem?_eq_getElem hj] at this
  exact Option.some.inj this
theorem l3_ev {a b : List Int} {t : List (List Int)} (hT : Tab a b t) (ha : a.length ≤ 1000) (hb : b.length ≤ 1000) : ∀ d i k (out : List S71), i + d = a.length → k ≤ b.length → out.length ≤ i →
    ∃ r, Ev (fun K => lcs_rest_int.l3 K a b t out (i : Int) (k : Int)) (out ++ r) ∧ Sub a b i k r ∧ r.length = Lc (a.drop i) (b.drop k) ∧ Gr a b d i k r := by
  intro d
  induction d with
  | zero =>
    intro i k out hi hk ho
    refine ⟨[], Ev.step (fun K => by rw [lcs_rest_int.l3]) (Ev.neg (by omega) (Ev.step (fun K => by rw [lcs_rest_int.j4]) (Ev.neg (by simp) (Ev.cast (by simp) (Ev.now _))))), trivial, ?_, rfl⟩
    rw [List.drop_of_length_le (by omega), Lc_nil]
    rfl
  | succ d ih =>
    intro i k out hi hk ho
    have hia : i < a.length := by omega
    have g2 := hT.get (show i ≤ a.length by omega) hk
    have hlen := hT.1
    rcases Nat.lt_or_ge k b.length with hkb | hkb
    · by_cases hz : Lc (a.drop i) (b.drop k) = 0
      · refine ⟨[], Ev.step (fun K => by rw [lcs_rest_int.l3]) (Ev.pos (by omega) (Ev.step (fun K => by rw [lcs_rest_int.j4]) (Ev.pos (by simp; omega) (Ev.pos (by omega) (Ev.pos (by omega) (Ev.pos (by omega) (Ev.pos (by rw [g2.1]; omega) (Ev.pos (by rw [g2.2, hz]; rfl) (Ev.cast (by simp) (Ev.now _)))))))))), trivial, by rw [hz]; rfl, .inl ⟨hz, rfl⟩⟩
      · obtain ⟨pr, hpr, hp⟩ := partner_ev hT ha hb hia hk
        have op : ∀ r : List S71, Ev (fun K => if pr ≥ 0 then (if out.length < 8796093022208 then (lcs_rest_int.l3 K a b t (out ++ [(⟨(i : Int), pr⟩ : S71)]) (wrap64 ((i : Int) + 1)) (wrap64 (pr + 1))) else none) else (lcs_rest_int.l3 K a b t out (wrap64 ((i : Int) + 1)) (k : Int))) r → Ev (fun K => lcs_rest_int.l3 K a b t out (i : Int) (k : Int)) r := by
          intro r h
          exact Ev.step (fun K => by rw [lcs_rest_int.l3]) (Ev.pos (by omega) (Ev.step (fun K => by rw [lcs_rest_int.j4]) (Ev.pos (by simp; omega) (Ev.pos (by omega) (Ev.pos (by omega) (Ev.pos (by omega) (Ev.pos (by rw [g2.1]; omega) (Ev.neg (by rw [g2.2]; omega) (hpr.bind h)))))))))
        rcases hp with ⟨j, rfl, hkj, hjb, gd⟩ | ⟨rfl, hno⟩
        · obtain ⟨r, h1, h2, h3, h4⟩ := ih (i + 1) (j + 1) (out ++ [⟨(i : Int), (j : Int)⟩]) (by omega) (by omega) (by simp; omega)
          refine ⟨⟨(i : Int), (j : Int)⟩ :: r, op _ (Ev.pos (by omega) (Ev.pos (by omega) ?_)), ⟨i, j, rfl, Nat.le_refl _, hkj, hia, hjb, gd.1, h2⟩, ?_, .inr (.inl ⟨j, r, hkj, hjb, gd, rfl, h4⟩)⟩
          · rw [w_up (show i ≤ 1000000 by omega), w_up (show j ≤ 1000000 by omega)]
            exact Ev.cast (by simp) h1
          · rw [List.length_cons, h3, gd.2]
        · obtain ⟨r, h1, h2, h3, h4⟩ := ih (i + 1) k out (by omega) hk (by omega)
          refine ⟨r, op _ (Ev.neg (by omega) ?_), h2.weak (by omega) (Nat.le_refl _), ?_, .inr (.inr ⟨fun j q1 q2 q3 => hno j q1 q2 (q3.here hia q2) q3, h4⟩)⟩
          · rw [w_up (show i ≤ 1000000 by omega)]
            exact h1
          · rw [h3]
            have ht := Lc_tail a[i] (a.drop (i + 1)) (b.drop k)
            rw [← Lc_at hia] at ht
            rcases Nat.lt_or_ge (Lc (a.drop (i + 1)) (b.drop k)) (Lc (a.drop i) (b.drop k)) with c | c
            · exfalso
              have hq := Lc_partner a[i] (a.drop (i + 1)) (b.drop k) (by rw [← Lc_at hia]; exact c)
              rw [← Lc_at hia] at hq
              obtain ⟨j, q1, q2, q3⟩ := hq
              rw [List.getElem?_drop] at q1
              rw [List.drop_drop] at q2 q3
              have hjl : k + j < b.length := (List.getElem?_eq_some_iff.1 q1).1
              refine hno (k + j) (by omega) hjl q3 ⟨?_, ?_⟩
              · rw [q1, List.getElem?_eq_getElem hia]
              · exact q2
            · omega
    · refine ⟨[], Ev.step (fun K => by rw [lcs_rest_int.l3]) (Ev.pos (by omega) (Ev.step (fun K => by rw [lcs_rest_int.j4]) (Ev.neg (by simp; omega) (Ev.cast (by simp) (Ev.now _))))), trivial, ?_, .inl ⟨by rw [List.drop_of_length_le hkb, Lc_none], rfl⟩⟩
      rw [List.drop_of_length_le hkb, Lc_none]
      rfl
end Go.Proofs.Ytdbgdkbpamekpaa.Pure
