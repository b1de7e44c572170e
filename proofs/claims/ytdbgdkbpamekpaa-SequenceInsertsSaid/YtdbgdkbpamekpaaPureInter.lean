/- Merge where one side is the base, or both sides are equal (chapter 32). -/
import Derived.Test.YtdbgdkbpamekpaaPureTwo
namespace Go.Proofs.Ytdbgdkbpamekpaa.Pure
set_option linter.unusedVariables false
open Go.RowKit Go.Proofs.Ytdbgdkbpamekpaa.Q Go.Proofs.YtdbgdkbpamekpaaW.PrintWords Go.Proofs.YtdbgdkbpamekpaaW.PrintLast

def inter : List (List Int) → List Int → List Int
  | [], _ => []
  | l :: ls, o => l ++ o.take 1 ++ inter ls o.tail
theorem join_inter {mg : P3 → Option (List Int)} : ∀ (ps : List P3) (ms : List (List Int)) (ord out : List Int) (r : List Int × Bool), ps.map mg = ms.map some → joinA mg ps ord out = some r → r = (out ++ inter ms ord, true)
  | [], ms, ord, out, r, h, e => by
    cases ms with
    | nil =>
      simp only [joinA, Option.some.injEq] at e
      rw [← e, inter, List.append_nil]
    | cons m ms => simp at h
  | p :: ps, ms, ord, out, r, h, e => by
    cases ms with
    | nil => simp at h
    | cons m ms =>
      rw [List.map_cons, List.map_cons, List.cons.injEq] at h
      rw [joinA] at e
      split at e
      · rw [h.1] at e
        dsimp only at e
        have := join_inter ps ms ord.tail (out ++ m ++ ord.take 1) r h.2 e
        rw [this, inter]
        simp only [List.append_assoc]
      · cases e
theorem cutsA_done (s : List Int) : ∀ (l : List Int) (done : List (List Int)) (last : List Int), cutsA s l done last = done ++ cutsA s l [] last
  | [], done, last => by simp [cutsA]
  | x :: l, done, last => by
    rw [cutsA, cutsA]
    by_cases h : x ∈ s
    · rw [if_pos h, if_pos h, cutsA_done s l (done ++ [last]), cutsA_done s l ([] ++ [last])]
      simp
    · rw [if_neg h, if_neg h, cutsA_done s l done]
theorem inter_cuts (s : List Int) : ∀ (l last o : List Int), o.Sublist l → l.Nodup → (∀ x ∈ l, x ∈ s ↔ x ∈ o) → inter (cutsA s l [] last) o = last ++ l
  | [], last, o, h, _, _ => by
    have : o = [] := List.eq_nil_of_sublist_nil h
    subst this
    simp [cutsA, inter]
  | x :: l, last, o, h, hn, hs => by
    have hx : x ∉ l := (List.nodup_cons.1 hn).1
    have hl := (List.nodup_cons.1 hn).2
    rw [cutsA]
    by_cases c : x ∈ s
    · rw [if_pos c, cutsA_done]
      have hxo := (hs x List.mem_cons_self).1 c
      cases h with
      | cons _ h => exact absurd (h.subset hxo) hx
      | cons_cons _ h =>
        rename_i o'
        have ih := inter_cuts s l [] o' h hl (fun y hy => by
          rw [hs y (List.mem_cons_of_mem _ hy), List.mem_cons]
          exact ⟨fun g => g.resolve_left (fun e => hx (e ▸ hy)), .inr⟩)
        show inter (last :: cutsA s l [] []) (x :: o') = _
        rw [inter]
        simp only [List.take_succ_cons, List.take_zero, List.tail_cons]
        rw [ih]
        simp
    · rw [if_neg c]
      have hxo : x ∉ o := fun g => c ((hs x List.mem_cons_self).2 g)
      have h' : o.Sublist l := by
        cases h with
        | cons _ h => exact h
        | cons_cons _ h => exact absurd List.mem_cons_self hxo
      rw [inter_cuts s l (last ++ [x]) o h' hl (fun y hy => hs y (List.mem_cons_of_mem _ hy))]
      simp
theorem map_getD (z : List (List Int)) : (List.range z.length).map (fun i => z.getD i []) = z := by
  apply List.ext_getElem
  · simp
  · intro i h1 h2
    simp [List.getD_eq_getElem?_getD, List.getElem?_eq_getElem (show i < z.length by simpa using h1)]
theorem parts_f2 {b l r : List Int} {x y : List S71} {o : List Int} {ps : List P3} (nb : b.Nodup) (nr : r.Nodup) (D : Division b l r x y o ps) : ps.map (fun p => p.f2) = cutsS o r := by
  have c1 := cuts_len nb D.on (fun v h => D.ob.subset h)
  have c3 := cuts_len nr D.on (fun v h => D.orr.subset h)
  rw [D.hps, parts3, List.map_map, c1, ← c3]
  exact map_getD _
/-- A merge in which every part is that of the right side. -/
theorem merge_core (l0 l1 l2 : List Int) (h0 : l0.length ≤ 1000) (h1 : l1.length ≤ 1000) (h2 : l2.length ≤ 1000) (hk : ∀ x, x ∈ keptS l0 l1 l2 ↔ x ∈ l2)
    (hm : ∀ x y o ps, Division (divL l0 l1 l2 l0) (divL l0 l1 l2 l1) (divL l0 l1 l2 l2) x y o ps → ∀ p ∈ ps, mergedS p = some p.f2) : Ev (fun K => sequence_Merge.f K l0 l1 l2) (onceS l2, true) := by
  obtain ⟨x, y, o, ps, res, D, hr, hb, e1, e2⟩ := join_ev (oth := fun _ => none) (M := 1000) (by decide) (fun _ => rfl) l0 l1 l2 h0 h1 h2 ⟨h1, h2⟩ (fun p _ _ _ => by simp)
  have hR : divL l0 l1 l2 l2 = onceS l2 := by
    rw [divL_eq, List.filter_eq_self]
    intro a ha
    rw [decide_eq_true_eq, hk]
    exact (once_mem l2 a).1 ha
  have hf2 := parts_f2 (divL_nodup l0 l1 l2 l0) (divL_nodup l0 l1 l2 l2) D
  have hmap : ps.map (mgS fun _ => none) = (cutsS o (divL l0 l1 l2 l2)).map some := by
    rw [← hf2, List.map_map]
    refine List.map_congr_left fun p hp => ?_
    simp [mgS, hm x y o ps D p hp]
  have hres := join_inter ps _ o [] res hmap hr
  have hi := inter_cuts o (divL l0 l1 l2 l2) [] o D.orr (divL_nodup l0 l1 l2 l2) (fun _ _ => Iff.rfl)
  unfold cutsS at hres
  rw [hi, List.nil_append, List.nil_append, hR] at hres
  subst hres
  have hlen : (onceS l2).length = (keptS l0 l1 l2).length :=
    ((List.perm_ext_iff_of_nodup (once_nodup l2) (kept_nodup l0 l1 l2)).2 (fun a => by rw [once_mem, hk])).length_eq
  have hol := once_len l2
  unfold sequence_Merge.f
  refine e1.bind ?_
  dsimp only
  rw [if_neg (by simp), if_pos (by omega), if_pos (by rw [once_of_nodup (once_nodup l2)]), if_pos hlen]
  exact Ev.now _
theorem f1_f0 {l0 l1 l2 : List Int} (h : divL l0 l1 l2 l1 = divL l0 l1 l2 l0) {x y : List S71} {o : List Int} {ps : List P3} (D : Division (divL l0 l1 l2 l0) (divL l0 l1 l2 l1) (divL l0 l1 l2 l2) x y o ps) : ∀ p ∈ ps, mergedS p = some p.f2 := by
  intro p hp
  rw [D.hps, h] at hp
  obtain ⟨i, _, rfl⟩ := List.mem_map.1 hp
  exact if_pos rfl
theorem merge_left (l0 l1 l2 : List Int) (h0 : l0.length ≤ 1000) (h1 : l1.length ≤ 1000) (h2 : l2.length ≤ 1000) (he : onceS l1 = onceS l0) : Ev (fun K => sequence_Merge.f K l0 l1 l2) (onceS l2, true) := by
  have hmem : ∀ x, x ∈ l1 ↔ x ∈ l0 := fun x => by rw [← once_mem, he, once_mem]
  refine merge_core l0 l1 l2 h0 h1 h2 (fun x => ?_) (fun x y o ps D => f1_f0 (by rw [divL_eq, divL_eq, he]) D)
  rw [kept_mem, hmem]
  constructor
  · rintro (h | h)
    · exact h.2.2
    · exact h.2.resolve_left h.1
  · intro h
    by_cases c : x ∈ l0
    · exact .inl ⟨c, c, h⟩
    · exact .inr ⟨c, .inr h⟩
theorem merge_both (l0 l1 : List Int) (h0 : l0.length ≤ 1000) (h1 : l1.length ≤ 1000) : Ev (fun K => sequence_Merge.f K l0 l1 l1) (onceS l1, true) := by
  refine merge_core l0 l1 l1 h0 h1 h1 (fun x => ?_) (fun x y o ps D p hp => ?_)
  · rw [kept_mem]
    constructor
    · rintro (h | h)
      · exact h.2.1
      · exact h.2.elim id id
    · intro h
      by_cases c : x ∈ l0
      · exact .inl ⟨c, h, h⟩
      · exact .inr ⟨c, .inl h⟩
  · rw [D.hps] at hp
    obtain ⟨i, _, rfl⟩ := List.mem_map.1 hp
    unfold mergedS
    split
    · rfl
    · rw [if_pos (.inr rfl)]
theorem merge_right (l0 l1 l2 : List Int) (h0 : l0.length ≤ 1000) (h1 : l1.length ≤ 1000) (h2 : l2.length ≤ 1000) (he : onceS l2 = onceS l0) : Ev (fun K => sequence_Merge.f K l0 l1 l2) (onceS l1, true) := by
  obtain ⟨r, e1, e2, _⟩ := merge_two l0 l1 l2 h0 h1 h2
  have e3 := merge_left l0 l2 l1 h0 h2 h1 he
  obtain ⟨K1, q1⟩ := e2
  obtain ⟨K2, q2⟩ := e3
  have a := q1 (max K1 K2) (by omega)
  have b := q2 (max K1 K2) (by omega)
  rw [a] at b
  injection b with b
  exact Ev.cast b e1
end Go.Proofs.Ytdbgdkbpamekpaa.Pure
