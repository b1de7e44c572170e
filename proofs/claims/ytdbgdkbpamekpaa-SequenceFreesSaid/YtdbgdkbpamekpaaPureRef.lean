/- The reference's merge: what its functions answer (chapter 32). -/
import Derived.Test.YtdbgdkbpamekpaaPureR19
namespace Go.Proofs.Ytdbgdkbpamekpaa.Pure
set_option linter.unusedVariables false
open Go.RowKit Go.Proofs.Ytdbgdkbpamekpaa.Q Go.Proofs.YtdbgdkbpamekpaaW.PrintWords Go.Proofs.YtdbgdkbpamekpaaW.PrintLast

theorem joined_ev (a b : List Int) (h : a.length + b.length ≤ 1000000) : Ev (fun K => treemergeref32_joined.f K a b) (a ++ b) := by
 have key : ∀ d i (x : List Int), i + d = b.length → x.length + d ≤ 1000000 → Ev (fun K => treemergeref32_joined.l0 K x b (i : Int)) (x ++ b.drop i) := by
  intro d
  induction d with
  | zero =>
   intro i x hi hx
   refine Ev.step (fun K => by rw [treemergeref32_joined.l0]) (Ev.neg (by omega) ?_)
   rw [List.drop_of_length_le (by omega), List.append_nil]
   exact Ev.now _
  | succ d ih =>
   intro i x hi hx
   have h1 : i < b.length := by omega
   refine Ev.step (fun K => by rw [treemergeref32_joined.l0]) (Ev.pos (by omega) (Ev.pos (by omega) (Ev.pos (by omega) ?_)))
   rw [rd_at h1, List.drop_eq_getElem_cons h1, wrap_up h1 (by omega)]
   exact Ev.cast (by rw [List.append_assoc]; rfl) (ih (i + 1) (x ++ [b[i]]) (by omega) (by simp; omega))
 exact key b.length 0 a (by omega) (by omega)
theorem only_ev (l k : List Int) (hl : l.length ≤ 1000) (hk : k.length ≤ 1000000) : Ev (fun K => treemergeref32_only.f K l k) ((onceS l).filter fun x => decide (x ∈ k)) := by
 unfold treemergeref32_only.f
 refine (once_ev l (by omega)).bind ?_
 have ho := once_len l
 generalize onceS l = s at *
 have key : ∀ d i (x : List Int), i + d = s.length → x.length ≤ i → Ev (fun K => treemergeref32_only.l0 K k s x (i : Int)) (x ++ (s.drop i).filter fun x => decide (x ∈ k)) := by
  intro d
  induction d with
  | zero =>
   intro i x hi hx
   refine Ev.step (fun K => by rw [treemergeref32_only.l0]) (Ev.neg (by omega) ?_)
   rw [List.drop_of_length_le (by omega)]
   exact Ev.cast (by simp) (Ev.now _)
  | succ d ih =>
   intro i x hi hx
   have h1 : i < s.length := by omega
   refine Ev.step (fun K => by rw [treemergeref32_only.l0]) (Ev.pos (by omega) (Ev.pos (by omega) ?_))
   rw [rd_at h1, List.drop_eq_getElem_cons h1, wrap_up h1 (by omega)]
   refine (has_ev k s[i] (by omega)).bind ?_
   by_cases c : s[i] ∈ k
   ·refine Ev.pos (by simp [c]) (Ev.pos (by omega) ?_)
    rw [List.filter_cons_of_pos (by simpa using c)]
    exact Ev.cast (by rw [List.append_assoc]; rfl) (ih (i + 1) (x ++ [s[i]]) (by omega) (by simp; omega))
   ·refine Ev.neg (by simp [c]) ?_
    rw [List.filter_cons_of_neg (by simpa using c)]
    exact ih (i + 1) x (by omega) (by omega)
 have := key s.length 0 [] (by omega) (by simp)
 simpa using this
theorem rdT {l : List S71} {i : Nat} (h : i < l.length) : rd_T71 l (i : Int) = l[i] := by simp [rd_T71, List.getD_eq_getElem?_getD, List.getElem?_eq_getElem h]
theorem stable_l {b : List Int} {x y : List S71} (hb : b.length ≤ 1000) (hx : ∀ p ∈ x, ∃ i : Nat, p.f0 = (i : Int) ∧ i < b.length) (hxl : x.length ≤ 1000) (hyl : y.length ≤ 1000) : Ev (fun K => treemergeref32_stable.l0 K b x y [] 0) (stS b x y) := by
 have key : ∀ d i (out : List Int), i + d = x.length → out.length ≤ i * 1000 → Ev (fun K => treemergeref32_stable.l0 K b x y out (i : Int)) (out ++ stS b (x.drop i) y) := by
  intro d
  induction d with
  | zero =>
   intro i out hi ho
   refine Ev.step (fun K => by rw [treemergeref32_stable.l0]) (Ev.neg (by omega) ?_)
   rw [List.drop_of_length_le (by omega)]
   exact Ev.cast (by simp [stS]) (Ev.now _)
  | succ d ih =>
   intro i out hi ho
   have h1 : i < x.length := by omega
   obtain ⟨i0, e0, hi0⟩ := hx x[i] (List.getElem_mem h1)
   obtain ⟨P, hP⟩ : ∃ P, P = i * 1000 := ⟨_, rfl⟩
   have hPl : P ≤ 1000000 := by rw [hP]; omega
   have hP1 : ∀ n, n ≤ P + 1000 → n ≤ (i + 1) * 1000 := fun n h => by rw [Nat.succ_mul, ← hP]; exact h
   rw [← hP] at ho
   clear hP
   have inner : ∀ e c (out' : List Int), c + e = y.length → out'.length ≤ P + c → Ev (fun K => treemergeref32_stable.l1 K b x y out' (i : Int) (c : Int)) (out' ++ (((y.drop c).filter fun q => decide (x[i].f0 = q.f0)).map fun _ => rd b x[i].f0) ++ stS b (x.drop (i + 1)) y) := by
    intro e
    induction e with
    | zero =>
     intro c out' hc ho'
     refine Ev.step (fun K => by rw [treemergeref32_stable.l1]) (Ev.neg (by omega) ?_)
     rw [List.drop_of_length_le (show y.length ≤ c by omega), wrap_up h1 (by omega)]
     exact Ev.cast (by simp) (ih (i + 1) out' (by omega) (hP1 _ (by omega)))
    | succ e ihe =>
     intro c out' hc ho'
     have h2 : c < y.length := by omega
     refine Ev.step (fun K => by rw [treemergeref32_stable.l1]) (Ev.pos (by omega) (Ev.pos (by omega) (Ev.pos (by omega) (Ev.pos (by omega) ?_))))
     rw [rdT h1, rdT h2, wrap_up h2 (by omega), List.drop_eq_getElem_cons h2]
     by_cases q : x[i].f0 = y[c].f0
     ·refine Ev.pos q ?_
      rw [List.filter_cons_of_pos (by simpa using q), List.map_cons]
      refine Ev.pos (by omega) (Ev.pos (by omega) (Ev.pos (by omega) ?_))
      exact Ev.cast (by simp) (ihe (c + 1) (out' ++ [rd b x[i].f0]) (by omega) (by simp; omega))
     ·refine Ev.neg q ?_
      rw [List.filter_cons_of_neg (by simpa using q)]
      exact ihe (c + 1) out' (by omega) (by omega)
   refine Ev.step (fun K => by rw [treemergeref32_stable.l0]) (Ev.pos (by omega) ?_)
   refine Ev.cast ?_ (inner y.length 0 out (Nat.zero_add _) ho)
   rw [List.drop_eq_getElem_cons h1, List.drop_zero, List.append_assoc]
   rfl
 have := key x.length 0 [] (by omega) (by simp)
 simpa using this
theorem stable_ev {b l r : List Int} {x y : List S71} {o : List Int} {ps : List P3} (hb : b.length ≤ 100) (hl : l.length ≤ 100) (hr : r.length ≤ 100) (nb : b.Nodup) (nl : l.Nodup) (nr : r.Nodup) (D : Division b l r x y o ps) : Ev (fun K => treemergeref32_stable.f K b l r) o := by
 obtain ⟨x', ex, gx⟩ := ints_ev b l hb hl
 obtain ⟨y', ey, gy⟩ := ints_ev b r hb hr
 have e1 := Gr.uniq nl (by omega) D.px.gr gx
 have e2 := Gr.uniq nr (by omega) D.py.gr gy
 subst e1 e2
 unfold treemergeref32_stable.f
 refine ex.bind (ey.bind ?_)
 have xl := D.px.sub.len (Nat.zero_le _)
 have yl := D.py.sub.len (Nat.zero_le _)
 have h := stable_l (b := b) (x := x) (y := y) (by omega) (fun p hp => by
  obtain ⟨i', k', rfl, _, _, g3, _⟩ := D.px.sub.range p hp
  exact ⟨i', rfl, g3⟩) (by omega) (by omega)
 rw [stS_eq nb D.py.sub D.px.sub, order_swap nb D.px.sub D.py.sub, ← D.ho] at h
 exact h
theorem part_ev (l s : List Int) (t : Nat) (hl : l.length ≤ 1000) (hs : s.length ≤ 1000) (ht : t ≤ s.length) : Ev (fun K => treemergeref32_part.f K l s (t : Int)) (partS l s t) := by
 unfold treemergeref32_part.f partS
 have e0 : ((t : Int) == 0) = decide (t = 0) := by cases t <;> simp <;> omega
 rw [e0]
 have key : ∀ d i (op : Bool) (out : List Int), i + d = l.length → out.length ≤ i → Ev (fun K => treemergeref32_part.l0 K l s (t : Int) out op (i : Int)) (prt (if t = 0 then none else s[t - 1]?) (s[t]?) (l.drop i) op out) := by
  intro d
  induction d with
  | zero =>
   intro i op out hi ho
   refine Ev.step (fun K => by rw [treemergeref32_part.l0]) (Ev.neg (by omega) ?_)
   rw [List.drop_of_length_le (by omega), prt]
   exact Ev.now _
  | succ d ih =>
   intro i op out hi ho
   have h1 : i < l.length := by omega
   have open0 : ∀ r, Ev (fun K => treemergeref32_part.j1 K l s (t : Int) out op (i : Int) (decide (s[t]? = some l[i]))) r → Ev (fun K => treemergeref32_part.l0 K l s (t : Int) out op (i : Int)) r := by
    intro r h
    refine Ev.step (fun K => by rw [treemergeref32_part.l0]) (Ev.pos (by omega) ?_)
    by_cases c : t < s.length
    ·refine Ev.pos (by omega) (Ev.pos (by omega) (Ev.pos (by omega) ?_))
     rw [rd_at h1, rd_at c]
     rw [List.getElem?_eq_getElem c] at h
     have : (l[i] == s[t]) = decide (some s[t] = some l[i]) := by
      by_cases e : l[i] = s[t]
      ·rw [e]
       simp
      ·rw [beq_eq_false_iff_ne.2 e, decide_eq_false (fun h => e (Option.some.inj h).symm)]
     rw [this]
     exact h
    ·refine Ev.neg (by omega) ?_
     rw [List.getElem?_eq_none (by omega)] at h
     exact h
   refine open0 _ ?_
   rw [List.drop_eq_getElem_cons h1, prt]
   by_cases c : s[t]? = some l[i]
   ·rw [if_pos c]
    exact Ev.step (fun K => by rw [treemergeref32_part.j1]) (Ev.pos (by simp [c]) (Ev.now _))
   ·rw [if_neg c]
    refine Ev.step (fun K => by rw [treemergeref32_part.j1]) (Ev.neg (by simp [c]) ?_)
    rw [rd_at h1, wrap_up h1 (by omega)]
    cases t with
    | zero =>
     rw [if_pos rfl]
     cases op with
     | true => exact Ev.pos rfl (Ev.pos (by omega) (Ev.pos (by omega) (Ev.pos (by omega) (Ev.bind (Ev.now _) (Ev.neg (by omega) (ih (i + 1) true (out ++ [l[i]]) (by omega) (by simp; omega)))))))
     | false => exact Ev.neg (by simp) (Ev.neg (by omega) (ih (i + 1) false out (by omega) (by omega)))
    | succ t =>
     have ht' : t < s.length := by omega
     have ew : wrap64 (((t + 1 : Nat) : Int) - 1) = (t : Int) := w_down (by omega)
     rw [if_neg (show ¬ t + 1 = 0 by omega), Nat.add_sub_cancel, List.getElem?_eq_getElem ht'] at ih ⊢
     rw [ew, rd_at ht']
     by_cases q : l[i] = s[t]
     ·rw [if_pos (congrArg some q.symm)]
      cases op with
      | true => exact Ev.pos rfl (Ev.pos (by omega) (Ev.pos (by omega) (Ev.pos (by omega) (Ev.bind (Ev.now _) (Ev.pos (by omega) (Ev.pos (by omega) (Ev.pos (by omega) (Ev.pos q (ih (i + 1) true (out ++ [l[i]]) (by omega) (by simp; omega))))))))))
      | false => exact Ev.neg (by simp) (Ev.pos (by omega) (Ev.pos (by omega) (Ev.pos (by omega) (Ev.pos (by omega) (Ev.pos (by omega) (Ev.pos q (ih (i + 1) true out (by omega) (by omega))))))))
     ·rw [if_neg (fun e => q (Option.some.inj e).symm)]
      cases op with
      | true => exact Ev.pos rfl (Ev.pos (by omega) (Ev.pos (by omega) (Ev.pos (by omega) (Ev.bind (Ev.now _) (Ev.pos (by omega) (Ev.pos (by omega) (Ev.pos (by omega) (Ev.neg q (ih (i + 1) true (out ++ [l[i]]) (by omega) (by simp; omega))))))))))
      | false => exact Ev.neg (by simp) (Ev.pos (by omega) (Ev.pos (by omega) (Ev.pos (by omega) (Ev.pos (by omega) (Ev.pos (by omega) (Ev.neg q (ih (i + 1) false out (by omega) (by omega))))))))
 exact key l.length 0 (decide (t = 0)) [] (by omega) (by simp)
/-- The answer to a part. -/
def mrS (p : P3) : List Int × Bool := match mergedS p with | some v => (v, true) | none => ([], false)
theorem merged_ev (b l r : List Int) (hl : l.length ≤ 1000) (hr : r.length ≤ 1000) : Ev (fun K => treemergeref32_merged.f K b l r) (mrS ⟨b, l, r⟩) := by
 unfold treemergeref32_merged.f
 refine (equal_ev l b (by omega)).bind ?_
 rw [mrS, show mergedS ⟨b, l, r⟩ = (if l = b then some r else if r = b ∨ l = r then some l else none) from rfl]
 by_cases c : l = b
 ·rw [if_pos c]
  exact Ev.pos (by simp [c]) (Ev.now _)
 ·rw [if_neg c]
  refine Ev.neg (by simp [c]) ((equal_ev r b (by omega)).bind ?_)
  by_cases d : r = b
  ·rw [show (if r = b ∨ l = r then some l else none) = some l from if_pos (.inl d)]
   exact Ev.pos (by simp [d]) (Ev.now _)
  ·refine Ev.neg (by simp [d]) ((equal_ev l r (by omega)).bind ?_)
   by_cases e : l = r
   ·rw [show (if r = b ∨ l = r then some l else none) = some l from if_pos (.inr e)]
    exact Ev.pos (by simp [e]) (Ev.now _)
   ·rw [show (if r = b ∨ l = r then some l else none) = none from if_neg (fun h => h.elim d e)]
    exact Ev.neg (by simp [e]) (Ev.now _)
theorem refkey (ks : List ByteArray) (x : Int) : treemergeref32_key.f ks x = some (keyS ks x) := by
 unfold treemergeref32_key.f keyS
 by_cases c : x < 0
 ·rw [if_pos c, if_pos c]
  rfl
 ·rw [if_neg c, if_neg c]
  by_cases d : (ks.length : Int) ≤ x
  ·rw [if_pos d, if_pos d]
   rfl
  ·rw [if_neg d, if_neg d, if_pos (by omega), if_pos (by omega)]
theorem refbefore (ks : List ByteArray) (a b : Int) : treemergeref32_before.f ks a b = some (ltK ks a b) := by
 unfold treemergeref32_before.f ltK
 rw [refkey, refkey]
 show (if _ then _ else _) = _
 by_cases c : Op.bytesLess (keyS ks a).toList (keyS ks b).toList = true
 ·rw [if_pos c, c]
  rfl
 ·rw [if_neg c]
  have c' : Op.bytesLess (keyS ks a).toList (keyS ks b).toList = false := by simpa using c
  rw [c', Bool.false_or]
  by_cases d : (keyS ks a).toList = (keyS ks b).toList
  ·rw [if_pos d, d, beq_self_eq_true, Bool.true_and]
  ·rw [if_neg d, beq_eq_false_iff_ne.2 d, Bool.false_and]
theorem insert_ev (ks : List ByteArray) (l : List Int) (x : Int) (hl : l.length ≤ 100000) : Ev (fun K => treemergeref32_insert.f K l x ks) (if x ∈ l then l else insS ks l x) := by
 unfold treemergeref32_insert.f
 refine (has_ev l x (by omega)).bind ?_
 by_cases c : x ∈ l
 ·rw [if_pos c]
  exact Ev.pos (by simp [c]) (Ev.now _)
 ·rw [if_neg c]
  refine Ev.neg (by simp [c]) ?_
  have key : ∀ j i (out : List Int) (d : Bool), i + j = l.length → out.length ≤ i + (if d = true then 1 else 0) → Ev (fun k => treemergeref32_insert.l0 k l x ks out d (i : Int)) (out ++ (if d = true then l.drop i else insS ks (l.drop i) x)) := by
   intro j
   induction j with
   | zero =>
    intro i out d hi ho
    have ho' : out.length ≤ i + 1 := by split at ho <;> omega
    refine Ev.step (fun k => by rw [treemergeref32_insert.l0]) (Ev.neg (by omega) ?_)
    rw [List.drop_of_length_le (by omega)]
    cases d with
    | true => exact Ev.pos rfl (Ev.cast (by simp) (Ev.now _))
    | false => exact Ev.neg (by simp) (Ev.pos (by omega) (Ev.cast (by simp [insS]) (Ev.now _)))
   | succ j ih =>
    intro i out d hi ho
    have ho' : out.length ≤ i + 1 := by split at ho <;> omega
    have h1 : i < l.length := by omega
    refine Ev.step (fun k => by rw [treemergeref32_insert.l0]) (Ev.pos (by omega) ?_)
    rw [rd_at h1, List.drop_eq_getElem_cons h1, wrap_up h1 (by omega)]
    cases d with
    | true =>
     refine Ev.pos rfl (Ev.pos (by omega) (Ev.pos (by omega) (Ev.cast ?_ (ih (i + 1) (out ++ [l[i]]) true (by omega) (by simp at ho ⊢; omega)))))
     simp
    | false =>
     refine Ev.neg (by simp) (Ev.pos (by omega) (Ev.known (refbefore ks x l[i]) ?_))
     cases q : ltK ks x l[i] with
     | true =>
      refine Ev.pos rfl (Ev.pos (by omega) ?_)
      refine Ev.cast ?_ (Ev.bind (Ev.now (out ++ [x])) (Ev.pos (by simp; omega) (ih (i + 1) (out ++ [x] ++ [l[i]]) true (by omega) (by simp at ho ⊢; omega))))
      simp [insS, q]
     | false =>
      refine Ev.neg (by simp) (Ev.pos (by omega) (Ev.cast ?_ (ih (i + 1) (out ++ [l[i]]) false (by omega) (by simp at ho ⊢; omega))))
      simp [insS, q]
  have := key l.length 0 [] false (by omega) (by simp)
  simpa using this
theorem both_ev (base b l r : List Int) (ks : List ByteArray) (h0 : base.length ≤ 1000) (hb : b.length ≤ 1000) (hl : l.length ≤ 1000) (hr : r.length ≤ 1000) : Ev (fun K => treemergeref32_both.f K base b l r ks) (b ++ insL ks base (l ++ r) []) := by
 have fin : ∀ m : List Int, m.length ≤ 100000 → Ev (fun K => (treemergeref32_joined.f K ([] : List Int) b).bind fun t316 => ((treemergeref32_joined.f K t316 m).bind fun t319 => (some t319))) (b ++ m) := by
  intro m hm
  have h1 := joined_ev [] b (by simp; omega)
  rw [List.nil_append] at h1
  exact h1.bind ((joined_ev b m (by omega)).bind (Ev.now _))
 have k1 : ∀ d i (m : List Int), i + d = r.length → m.length ≤ 1000 + i → Ev (fun K => treemergeref32_both.l1 K base b r ks m (i : Int)) (b ++ insL ks base (r.drop i) m) := by
  intro d
  induction d with
  | zero =>
   intro i m hi hm
   refine Ev.step (fun K => by rw [treemergeref32_both.l1]) (Ev.neg (by omega) ?_)
   rw [List.drop_of_length_le (by omega), insL]
   exact fin m (by omega)
  | succ d ih =>
   intro i m hi hm
   have h1 : i < r.length := by omega
   refine Ev.step (fun K => by rw [treemergeref32_both.l1]) (Ev.pos (by omega) (Ev.pos (by omega) ?_))
   rw [rd_at h1, List.drop_eq_getElem_cons h1, wrap_up h1 (by omega), insL]
   refine (has_ev base r[i] (by omega)).bind ?_
   by_cases c : r[i] ∈ base
   ·refine Ev.pos (by simp [c]) ?_
    rw [if_neg (fun h => h c)]
    exact ih (i + 1) m (by omega) (by omega)
   ·refine Ev.neg (by simp [c]) ((insert_ev ks m r[i] (by omega)).bind ?_)
    rw [if_pos c]
    refine ih (i + 1) _ (by omega) ?_
    split
    ·omega
    ·rw [insS_len]; omega
 have k0 : ∀ d i (m : List Int), i + d = l.length → m.length ≤ i → Ev (fun K => treemergeref32_both.l0 K base b l r ks m (i : Int)) (b ++ insL ks base (l.drop i ++ r) m) := by
  intro d
  induction d with
  | zero =>
   intro i m hi hm
   refine Ev.step (fun K => by rw [treemergeref32_both.l0]) (Ev.neg (by omega) ?_)
   rw [List.drop_of_length_le (by omega), List.nil_append]
   exact k1 r.length 0 m (by omega) (by omega)
  | succ d ih =>
   intro i m hi hm
   have h1 : i < l.length := by omega
   refine Ev.step (fun K => by rw [treemergeref32_both.l0]) (Ev.pos (by omega) (Ev.pos (by omega) ?_))
   rw [rd_at h1, List.drop_eq_getElem_cons h1, wrap_up h1 (by omega), List.cons_append, insL]
   refine (has_ev base l[i] (by omega)).bind ?_
   by_cases c : l[i] ∈ base
   ·refine Ev.pos (by simp [c]) ?_
    rw [if_neg (fun h => h c)]
    exact ih (i + 1) m (by omega) (by omega)
   ·refine Ev.neg (by simp [c]) ((insert_ev ks m l[i] (by omega)).bind ?_)
    rw [if_pos c]
    refine ih (i + 1) _ (by omega) ?_
    split
    ·omega
    ·rw [insS_len]; omega
 exact k0 l.length 0 [] (by omega) (by simp)
theorem both_oth (base : List Int) (ks : List ByteArray) (p : P3) (h0 : base.length ≤ 1000) (hb : p.f0.length ≤ 1000) (hl : p.f1.length ≤ 1000) (hr : p.f2.length ≤ 1000) : Ev (fun K => treemergeref32_both.f K base p.f0 p.f1 p.f2 ks) ((othS base ks p).getD []) := by
 refine Ev.cast ?_ (both_ev base p.f0 p.f1 p.f2 ks h0 hb hl hr)
 rw [insL_sortK]
 rfl
end Go.Proofs.Ytdbgdkbpamekpaa.Pure
