/- The reference's Merge is the program's (chapter 32). -/
import Derived.Test.YtdbgdkbpamekpaaPureRef
namespace Go.Proofs.Ytdbgdkbpamekpaa.Pure
set_option linter.unusedVariables false
open Go.RowKit Go.Proofs.Ytdbgdkbpamekpaa.Q Go.Proofs.YtdbgdkbpamekpaaW.PrintWords Go.Proofs.YtdbgdkbpamekpaaW.PrintLast

/-- The merged part. -/
def mkS (base : List Int) (ks : List ByteArray) (p : P3) : List Int := (mgS (othS base ks) p).getD []
def goodP (p : P3) : Bool := (mergedS p).isSome
theorem mkS_some (base : List Int) (ks : List ByteArray) (p : P3) : mgS (othS base ks) p = some (mkS base ks p) := by
 unfold mkS mgS
 cases mergedS p <;> rfl
theorem mkS_len (base : List Int) (ks : List ByteArray) (p : P3) : (mkS base ks p).length ≤ p.f0.length + (p.f1.length + p.f2.length) := by
 unfold mkS mgS
 cases h : mergedS p with
 | none => exact othS_len base ks p
 | some v =>
  have := mergedS_len p (p.f1.length + p.f2.length) (by omega) (by omega)
  rw [h] at this
  simp only [Option.getD_some] at this ⊢
  omega
theorem parts_ev {l0 l1 l2 : List Int} {x y : List S71} {o : List Int} {ps : List P3} (ks : List ByteArray) (h0 : l0.length ≤ 30) (h1 : l1.length ≤ 30) (h2 : l2.length ≤ 30) (D : Division (divL l0 l1 l2 l0) (divL l0 l1 l2 l1) (divL l0 l1 l2 l2) x y o ps) :
  Ev (fun K => treemergeref32_parts.f K l0 l1 l2 ks) (inter (ps.map (mkS l0 ks)) o, ps.all goodP) ∧ (inter (ps.map (mkS l0 ks)) o).length ≤ 100000 := by
 have d0 := divL_len l0 l1 l2 l0
 have d1 := divL_len l0 l1 l2 l1
 have d2 := divL_len l0 l1 l2 l2
 have n0 := divL_nodup l0 l1 l2 l0
 have n1 := divL_nodup l0 l1 l2 l1
 have n2 := divL_nodup l0 l1 l2 l2
 have hkl := keptS_len l0 l1 l2
 have hst := stable_ev (by omega) (by omega) (by omega) n0 n1 n2 D
 have hol := D.ob.length_le
 have hpl := D.len
 have o0 := only_ev l0 (keptS l0 l1 l2) (by omega) (by omega)
 have o1 := only_ev l1 (keptS l0 l1 l2) (by omega) (by omega)
 have o2 := only_ev l2 (keptS l0 l1 l2) (by omega) (by omega)
 rw [← divL_eq] at o0 o1 o2
 generalize hb : divL l0 l1 l2 l0 = b at *
 generalize hl : divL l0 l1 l2 l1 = l at *
 generalize hr : divL l0 l1 l2 l2 = r at *
 have key : ∀ d t (out : List Int) (g : Bool), t + d = o.length + 1 → out.length ≤ t * 1000 →
   Ev (fun K => treemergeref32_parts.l0 K l0 ks b l r o out g (t : Int)) (out ++ inter ((ps.drop t).map (mkS l0 ks)) (o.drop t), g && (ps.drop t).all goodP) ∧ (out ++ inter ((ps.drop t).map (mkS l0 ks)) (o.drop t)).length ≤ 100000 := by
  intro d
  induction d with
  | zero =>
   intro t out g ht ho
   rw [List.drop_of_length_le (show ps.length ≤ t by omega)]
   refine ⟨Ev.step (fun K => by rw [treemergeref32_parts.l0]) (Ev.neg (by omega) (Ev.cast (by simp [inter]) (Ev.now _))), by simp [inter]; omega⟩
  | succ d ih =>
   intro t out g ht ho
   have hto : t ≤ o.length := by omega
   have htp : t < ps.length := by omega
   have hp : ps[t] = ⟨partS b o t, partS l o t, partS r o t⟩ := by
    rw [partS_cuts n0 D.ob hto, partS_cuts n1 D.ol hto, partS_cuts n2 D.orr hto]
    have e := D.hps
    subst e
    simp [parts3]
   obtain ⟨s0, s1, s2⟩ := D.small ps[t] (List.getElem_mem htp)
   have hm := mkS_len l0 ks ps[t]
   have e0 := part_ev b o t (by omega) (by omega) hto
   have e1 := part_ev l o t (by omega) (by omega) hto
   have e2 := part_ev r o t (by omega) (by omega) hto
   have em := merged_ev (partS b o t) (partS l o t) (partS r o t) (by rw [hp] at s1; dsimp only at s1; omega) (by rw [hp] at s2; dsimp only at s2; omega)
   rw [← hp] at em
   have hd : ps.drop t = ps[t] :: ps.drop (t + 1) := List.drop_eq_getElem_cons htp
   have hi : inter ((ps.drop t).map (mkS l0 ks)) (o.drop t) = mkS l0 ks ps[t] ++ (o.drop t).take 1 ++ inter ((ps.drop (t + 1)).map (mkS l0 ks)) (o.drop (t + 1)) := by
    rw [hd, List.map_cons, inter, List.tail_drop]
   have tl : ((o.drop t).take 1).length ≤ 1 := by rw [List.length_take]; omega
   have nxt := ih (t + 1) (out ++ mkS l0 ks ps[t] ++ (o.drop t).take 1)
   -- what follows a part
   have after : ∀ (g' : Bool) (res : List Int × Bool), Ev (fun K => treemergeref32_parts.l0 K l0 ks b l r o (out ++ mkS l0 ks ps[t] ++ (o.drop t).take 1) g' ((t + 1 : Nat) : Int)) res →
     Ev (fun K => (treemergeref32_joined.f K out (mkS l0 ks ps[t])).bind fun t356 => (if (t : Int) < (o.length : Int) then (if 0 ≤ (t : Int) then (if t356.length < 17592186044416 then (treemergeref32_parts.l0 K l0 ks b l r o (t356 ++ [rd o (t : Int)]) g' (wrap64 ((t : Int) + 1))) else (none)) else (none)) else (treemergeref32_parts.l0 K l0 ks b l r o t356 g' (wrap64 ((t : Int) + 1))))) res := by
    intro g' res h
    refine (joined_ev out (mkS l0 ks ps[t]) (by omega)).bind ?_
    rw [w_up (show t ≤ 1000000 by omega)]
    by_cases c : t < o.length
    ·refine Ev.pos (by omega) (Ev.pos (by omega) (Ev.pos (by simp only [List.length_append]; omega) ?_))
     have e : (o.drop t).take 1 = [o[t]] := by rw [List.drop_eq_getElem_cons c]; rfl
     rw [e] at h
     rw [rd_at c]
     exact h
    ·refine Ev.neg (by omega) ?_
     have e : (o.drop t).take 1 = [] := by rw [List.drop_of_length_le (show o.length ≤ t by omega)]; rfl
     rw [e, List.append_nil] at h
     exact h
   cases hg : mergedS ps[t] with
   | some v =>
    have hv : mkS l0 ks ps[t] = v := by unfold mkS mgS; rw [hg]; rfl
    have hgp : goodP ps[t] = true := by unfold goodP; rw [hg]; rfl
    have hmr : mrS ps[t] = (v, true) := by unfold mrS; rw [hg]
    obtain ⟨q1, q2⟩ := nxt g (by omega) (by simp only [List.length_append]; omega)
    refine ⟨Ev.step (fun K => by rw [treemergeref32_parts.l0]) (Ev.pos (by omega) (e0.bind (e1.bind (e2.bind (em.bind ?_))))), by rw [hi]; simpa using q2⟩
    rw [hmr]
    refine Ev.pos rfl ?_
    have := after g _ q1
    rw [hv] at this
    refine Ev.cast ?_ this
    rw [hi, hd, List.all_cons, hgp, hv, Bool.true_and]
    simp only [List.append_assoc]
   | none =>
    have hv : (othS l0 ks ps[t]).getD [] = mkS l0 ks ps[t] := by unfold mkS mgS; rw [hg]
    have hgp : goodP ps[t] = false := by unfold goodP; rw [hg]; rfl
    have hmr : mrS ps[t] = ([], false) := by unfold mrS; rw [hg]
    obtain ⟨q1, q2⟩ := nxt false (by omega) (by simp only [List.length_append]; omega)
    have eb := both_oth l0 ks ps[t] (by omega) (by omega) (by omega) (by omega)
    rw [hv] at eb
    rw [hp] at eb
    refine ⟨Ev.step (fun K => by rw [treemergeref32_parts.l0]) (Ev.pos (by omega) (e0.bind (e1.bind (e2.bind (em.bind ?_))))), by rw [hi]; simpa using q2⟩
    rw [hmr]
    refine Ev.neg (by simp) (e0.bind (e1.bind (e2.bind (eb.bind ?_))))
    rw [← hp]
    refine Ev.cast ?_ (after false _ q1)
    rw [hi, hd, List.all_cons, hgp]
    simp only [Bool.false_and, Bool.and_false, List.append_assoc]
 obtain ⟨q1, q2⟩ := key (o.length + 1) 0 [] true (by omega) (by simp)
 rw [List.drop_zero, List.drop_zero, List.nil_append] at q1 q2
 rw [Bool.true_and] at q1
 refine ⟨?_, q2⟩
 unfold treemergeref32_parts.f
 exact (kept_ev l0 l1 l2 h0 h1 h2).bind (o0.bind (o1.bind (o2.bind (hst.bind q1))))
theorem joinA_bad {mg : P3 → Option (List Int)} : ∀ (ps : List P3) (ord out : List Int) (r : List Int × Bool), (∃ p ∈ ps, mg p = none) → joinA mg ps ord out = some r → r = ([], false)
 | [], _, _, _, h, _ => by
  obtain ⟨p, hp, _⟩ := h
  simp at hp
 | p :: ps, ord, out, r, h, e => by
  rw [joinA] at e
  split at e
  ·cases hm : mg p with
   | none =>
    rw [hm] at e
    dsimp only at e
    exact (Option.some.inj e).symm
   | some v =>
    rw [hm] at e
    dsimp only at e
    refine joinA_bad ps _ _ r ?_ e
    obtain ⟨q, hq, hn⟩ := h
    rcases List.mem_cons.1 hq with rfl | hq
    ·rw [hm] at hn
     cases hn
    ·exact ⟨q, hq, hn⟩
  ·cases e
theorem merge_ref (l0 l1 l2 : List Int) (h0 : l0.length ≤ 30) (h1 : l1.length ≤ 30) (h2 : l2.length ≤ 30) :
  ∃ m, Ev (fun K => sequence_Merge.f K l0 l1 l2) m ∧ Ev (fun K => treemergeref32_Merge.f K l0 l1 l2) m ∧ m.1.length ≤ 100000000 := by
 obtain ⟨x, y, o, ps, res, D, hr, hb, e1, e2⟩ := join_ev (oth := fun _ => none) (M := 1000) (by decide) (fun _ => rfl) l0 l1 l2 (by omega) (by omega) (by omega) ⟨by omega, by omega⟩ (fun p _ _ _ => by simp)
 obtain ⟨p1, p2⟩ := parts_ev ([] : List ByteArray) h0 h1 h2 D
 have hk := kept_ev l0 l1 l2 h0 h1 h2
 by_cases ga : ps.all goodP = true
 ·have hmap : ps.map (mgS fun _ => none) = (ps.map (mkS l0 [])).map some := by
   rw [List.map_map]
   refine List.map_congr_left fun p hp => ?_
   have := List.all_eq_true.1 ga p hp
   unfold goodP at this
   cases hq : mergedS p with
   | none => rw [hq] at this; cases this
   | some v => simp [mgS, mkS, hq]
  have hres := join_inter ps _ o [] res hmap hr
  rw [List.nil_append] at hres
  subst hres
  dsimp only at hb
  generalize inter (ps.map (mkS l0 [])) o = out at *
  rw [ga] at p1
  by_cases c1 : (onceS out).length = out.length
  ·by_cases c2 : out.length = (keptS l0 l1 l2).length
   ·refine ⟨(out, true), ?_, ?_, hb⟩
    ·unfold sequence_Merge.f
     refine e1.bind ?_
     dsimp only
     rw [if_neg (by simp), if_pos (by omega), if_pos c1, if_pos c2]
     exact Ev.now _
    ·unfold treemergeref32_Merge.f
     refine p1.bind (hk.bind (Ev.pos rfl (Ev.pos (by dsimp only; omega) ?_)))
     exact Ev.bind (once_ev out p2) (Ev.pos (by omega) (Ev.now _))
   ·refine ⟨([], false), ?_, ?_, by simp⟩
    ·unfold sequence_Merge.f
     refine e1.bind ?_
     dsimp only
     rw [if_neg (by simp), if_pos (by omega), if_pos c1, if_neg c2]
     exact Ev.now _
    ·unfold treemergeref32_Merge.f
     exact p1.bind (hk.bind (Ev.pos rfl (Ev.neg (by dsimp only; omega) (Ev.now _))))
  ·refine ⟨([], false), ?_, ?_, by simp⟩
   ·unfold sequence_Merge.f
    refine e1.bind ?_
    dsimp only
    rw [if_neg (by simp), if_pos (by omega), if_neg c1]
    exact Ev.now _
   ·unfold treemergeref32_Merge.f
    refine p1.bind (hk.bind (Ev.pos rfl ?_))
    dsimp only
    by_cases c2 : out.length = (keptS l0 l1 l2).length
    ·exact Ev.pos (by omega) (Ev.bind (once_ev out p2) (Ev.neg (by omega) (Ev.now _)))
    ·exact Ev.neg (by omega) (Ev.now _)
 ·have gf : ps.all goodP = false := by simpa using ga
  have hbad : ∃ p ∈ ps, mgS (fun _ => none) p = none := by
   rw [List.all_eq_false] at gf
   obtain ⟨p, hp, hg⟩ := gf
   refine ⟨p, hp, ?_⟩
   unfold goodP at hg
   cases hq : mergedS p with
   | some v => rw [hq] at hg; exact absurd rfl hg
   | none => simp [mgS, hq]
  have hres := joinA_bad ps o [] res hbad hr
  subst hres
  refine ⟨([], false), ?_, ?_, by simp⟩
  ·unfold sequence_Merge.f
   refine e1.bind ?_
   exact Ev.now _
  ·unfold treemergeref32_Merge.f
   refine p1.bind (hk.bind (Ev.neg ?_ (Ev.now _)))
   dsimp only
   rw [gf]
   simp
/- The reference's Free is the program's (chapter 32). -/

theorem refFree_l0 (b kp : List Int) (hb : b.length ≤ 100000) (hk : kp.length ≤ 1000) : Ev (fun K => treemergeref32_Free.l0 K b kp [] 0) (b ++ putN b kp [], false) := by
 have key : ∀ d i (m : List Int), i + d = kp.length → m.length ≤ i → Ev (fun K => treemergeref32_Free.l0 K b kp m (i : Int)) (b ++ putN b (kp.drop i) m, false) := by
  intro d
  induction d with
  | zero =>
   intro i m hi hm
   refine Ev.step (fun K => by rw [treemergeref32_Free.l0]) (Ev.neg (by omega) ?_)
   rw [List.drop_of_length_le (by omega), putN]
   exact (joined_ev b m (by omega)).bind (Ev.now _)
  | succ d ih =>
   intro i m hi hm
   have h1 : i < kp.length := by omega
   refine Ev.step (fun K => by rw [treemergeref32_Free.l0]) (Ev.pos (by omega) (Ev.pos (by omega) ?_))
   rw [rd_at h1, List.drop_eq_getElem_cons h1, wrap_up h1 (by omega), putN]
   refine (has_ev b kp[i] (by omega)).bind ?_
   by_cases c : kp[i] ∈ b
   ·refine Ev.pos (by simp [c]) ?_
    rw [if_neg (fun h => h c)]
    exact ih (i + 1) m (by omega) (by omega)
   ·refine Ev.neg (by simp [c]) ((put_ev m kp[i] (by omega)).bind ?_)
    rw [if_pos c]
    exact ih (i + 1) _ (by omega) (by rw [putS_len]; omega)
 have := key kp.length 0 [] (by omega) (by simp)
 simpa using this
theorem free_ref (l0 l1 l2 : List Int) (ks : List ByteArray) (h0 : l0.length ≤ 30) (h1 : l1.length ≤ 30) (h2 : l2.length ≤ 30) :
  ∃ r, Ev (fun K => sequence_Free.f K l0 l1 l2 ks) r ∧ Ev (fun K => treemergeref32_Free.f K l0 l1 l2 ks) r ∧ r.1.length ≤ 200000000 := by
 obtain ⟨m, m1, m2, ml⟩ := merge_ref l0 l1 l2 h0 h1 h2
 obtain ⟨x, y, o, ps, res, D, hr, hb, e1, e2⟩ := join_ev (oth := othS l0 ks) (M := 3000) (by decide) (othS_swap l0 ks) l0 l1 l2 (by omega) (by omega) (by omega) ⟨by omega, by omega⟩ (fun p q0 q1 q2 => by
  have := othS_len l0 ks p
  omega)
 cases hm : m.2 with
 | true =>
  refine ⟨(m.1, true), ?_, ?_, by dsimp only; omega⟩
  ·unfold sequence_Free.f
   exact m1.bind (Ev.pos hm (Ev.now _))
  ·unfold treemergeref32_Free.f
   exact m2.bind (Ev.pos hm (Ev.now _))
 | false =>
  obtain ⟨p1, p2⟩ := parts_ev ks h0 h1 h2 D
  have hmap : ps.map (mgS (othS l0 ks)) = (ps.map (mkS l0 ks)).map some := by
   rw [List.map_map]
   exact List.map_congr_left fun p hp => mkS_some l0 ks p
  have hres := join_inter ps _ o [] res hmap hr
  rw [List.nil_append] at hres
  subst hres
  dsimp only at hb
  generalize inter (ps.map (mkS l0 ks)) o = out at *
  have hkl := keptS_len l0 l1 l2
  have hol := once_len out
  refine ⟨(keptN (onceS out) (sortI (keptS l0 l1 l2)) (onceS out), false), ?_, ?_, ?_⟩
  ·unfold sequence_Free.f
   exact m1.bind (Ev.neg (by rw [hm]; simp) (e1.bind (Ev.pos (by dsimp only; omega) (Ev.now _))))
  ·unfold treemergeref32_Free.f
   refine m2.bind (Ev.neg (by rw [hm]; simp) (p1.bind ((once_ev out p2).bind ((kept_ev l0 l1 l2 h0 h1 h2).bind ?_))))
   rw [← putN_sorted (onceS out) (kept_nodup l0 l1 l2)]
   exact refFree_l0 _ _ (by omega) (by omega)
  ·have q1 := keptN_len (onceS out) (sortI (keptS l0 l1 l2)) (onceS out)
   rw [sortI_len] at q1
   dsimp only
   omega
theorem SequenceFrees (a b c : List Int) (ks : List ByteArray) : Ev (fun k => treemergelaw32_SequenceFrees.f k a b c ks) true := by
 unfold treemergelaw32_SequenceFrees.f
 refine Ev.known (short_of a b c) ?_
 have off : Ev (fun k => treemergelaw32_SequenceFrees.j0 k a b c ks true) true := Ev.step (fun k => by rw [treemergelaw32_SequenceFrees.j0]) (Ev.pos rfl (awake_ev.bind (Ev.now _)))
 by_cases h : a.length ≤ 30 ∧ b.length ≤ 30 ∧ c.length ≤ 30
 ·obtain ⟨s, hs⟩ := short3_ev ks 60 100 (by omega)
  refine Ev.pos (by simpa using h) (hs.bind ?_)
  cases s with
  | false => exact off
  | true =>
   obtain ⟨m, e1, e2, hl⟩ := free_ref a b c ks h.1 h.2.1 h.2.2
   show Ev (fun k => treemergelaw32_SequenceFrees.j0 k a b c ks false) true
   refine Ev.step (fun k => by rw [treemergelaw32_SequenceFrees.j0]) (Ev.neg (by simp) (e1.bind (e2.bind (awake_ev.bind (Ev.pos rfl (Ev.pos (beq_self_eq_true _) ?_))))))
   exact Ev.bind (equal_self (by omega) rfl) (Ev.now _)
 ·exact Ev.neg (by simpa using h) off
end Go.Proofs.Ytdbgdkbpamekpaa.Pure
