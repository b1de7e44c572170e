/- The division into parts: it is always there, and does not depend on which side is the left one (chapter 32). -/
import Derived.Test.YtdbgdkbpamekpaaPureLcs
namespace Go.Proofs.Ytdbgdkbpamekpaa.Pure
set_option linter.unusedVariables false
open Go.RowKit Go.Proofs.Ytdbgdkbpamekpaa.Q Go.Proofs.YtdbgdkbpamekpaaW.PrintWords Go.Proofs.YtdbgdkbpamekpaaW.PrintLast

theorem sub_filter {s b : List Int} (hs : s.Sublist b) (hn : b.Nodup) : s = b.filter fun v => decide (v ∈ s) := by
 have h1 : s = s.filter fun v => decide (v ∈ s) := by
  symm
  rw [List.filter_eq_self]
  intro a ha
  simpa using ha
 have h2 : (s.filter fun v => decide (v ∈ s)).Sublist (b.filter fun v => decide (v ∈ s)) := hs.filter _
 rw [← h1] at h2
 refine h2.eq_of_length_le ?_
 have h3 : ∀ x, x ∈ (b.filter fun v => decide (v ∈ s)) → x ∈ s := by
  intro x hx
  simpa using (List.mem_filter.1 hx).2
 have n2 : (b.filter fun v => decide (v ∈ s)).Nodup := hn.filter _
 have n1 : s.Nodup := hn.sublist hs
 have := (List.perm_ext_iff_of_nodup n2 n1).2 (fun x => ⟨h3 x, fun hx => List.mem_filter.2 ⟨hs.subset hx, by simpa using hx⟩⟩)
 exact Nat.le_of_eq this.length_eq
theorem olds_sub {a b : List Int} : ∀ {r : List S71} {i k : Nat}, Sub a b i k r → (oldsOf a r).Sublist (a.drop i) ∧ (oldsOf a r).Sublist (b.drop k)
 | [], _, _, _ => ⟨List.nil_sublist _, List.nil_sublist _⟩
 | p :: r, i, k, h => by
  obtain ⟨i', k', rfl, g1, g2, g3, g4, g5, g6⟩ := h
  obtain ⟨h1, h2⟩ := olds_sub g6
  have e1 : rd a (i' : Int) = a[i'] := rd_at g3
  have e2 : a[i'] = b[k'] := by
   rw [List.getElem?_eq_getElem g3, List.getElem?_eq_getElem g4] at g5
   exact Option.some.inj g5
  have d1 : (a.drop i').Sublist (a.drop i) := by
   have := List.drop_sublist (i' - i) (a.drop i)
   rwa [List.drop_drop, show i + (i' - i) = i' by omega] at this
  have d2 : (b.drop k').Sublist (b.drop k) := by
   have := List.drop_sublist (k' - k) (b.drop k)
   rwa [List.drop_drop, show k + (k' - k) = k' by omega] at this
  show ((rd a (i' : Int)) :: oldsOf a r).Sublist _ ∧ ((rd a (i' : Int)) :: oldsOf a r).Sublist _
  rw [e1]
  refine ⟨List.Sublist.trans ?_ d1, List.Sublist.trans ?_ d2⟩
  ·rw [List.drop_eq_getElem_cons g3]
   exact h1.cons_cons _
  ·rw [List.drop_eq_getElem_cons g4, e2]
   exact h2.cons_cons _
theorem cutsA_len (s : List Int) : ∀ (l : List Int) (done : List (List Int)) (last : List Int), (cutsA s l done last).length = done.length + 1 + (l.filter fun v => decide (v ∈ s)).length
 | [], done, last => by simp [cutsA]
 | x :: l, done, last => by
  rw [cutsA]
  by_cases h : x ∈ s
  ·rw [if_pos h, cutsA_len s l, List.filter_cons_of_pos (by simpa using h)]
   simp
   omega
  ·rw [if_neg h, cutsA_len s l, List.filter_cons_of_neg (by simpa using h)]
theorem cutsA_flat (s : List Int) : ∀ (l : List Int) (done : List (List Int)) (last : List Int), (cutsA s l done last).flatten.length ≤ done.flatten.length + last.length + l.length
 | [], done, last => by simp [cutsA]
 | x :: l, done, last => by
  rw [cutsA]
  by_cases h : x ∈ s
  ·rw [if_pos h]
   have := cutsA_flat s l (done ++ [last]) []
   simp at this ⊢
   omega
  ·rw [if_neg h]
   have := cutsA_flat s l done (last ++ [x])
   simp at this ⊢
   omega
theorem le_flat {l : List Int} : ∀ {ls : List (List Int)}, l ∈ ls → l.length ≤ ls.flatten.length
 | [], h => by simp at h
 | a :: ls, h => by
  rcases List.mem_cons.1 h with rfl | h
  ·simp only [List.flatten_cons, List.length_append]
   omega
  ·have := le_flat h
   simp only [List.flatten_cons, List.length_append]
   omega
theorem cuts_getD (s l : List Int) (i : Nat) : ((cutsS s l).getD i []).length ≤ l.length := by
 rcases Nat.lt_or_ge i (cutsS s l).length with h | h
 ·have h1 : (cutsS s l).getD i [] ∈ cutsS s l := by
   rw [List.getD_eq_getElem?_getD, List.getElem?_eq_getElem h]
   exact List.getElem_mem h
  have h2 := le_flat h1
  have h3 := cutsA_flat s l [] []
  unfold cutsS at h2 ⊢
  simp only [List.flatten_nil, List.length_nil, Nat.zero_add] at h3
  omega
 ·rw [List.getD_eq_getElem?_getD, List.getElem?_eq_none h]
  simp
theorem cuts_len {o l : List Int} (hl : l.Nodup) (ho : o.Nodup) (hs : ∀ v ∈ o, v ∈ l) : (cutsS o l).length = o.length + 1 := by
 rw [cutsS, cutsA_len]
 have : (l.filter fun v => decide (v ∈ o)).Perm o := (List.perm_ext_iff_of_nodup (hl.filter _) ho).2 (fun x => by
  rw [List.mem_filter, decide_eq_true_eq]
  exact ⟨fun h => h.2, fun h => ⟨hs x h, h⟩⟩)
 rw [this.length_eq]
 simp
 omega
/-- The two sides of a part, exchanged. -/
def swapP (p : P3) : P3 := ⟨p.f0, p.f2, p.f1⟩
theorem divL_eq (b p q l : List Int) : divL b p q l = (onceS l).filter fun x => decide (x ∈ keptS b p q) := by rw [divL, keepL_eq]; rfl
theorem divL_nodup (b p q l : List Int) : (divL b p q l).Nodup := by rw [divL_eq]; exact (once_nodup l).filter _
theorem divL_len (b p q l : List Int) : (divL b p q l).length ≤ l.length := by
 rw [divL_eq]
 have h1 := List.length_filter_le (fun x => decide (x ∈ keptS b p q)) (onceS l)
 have h2 := onceL_len l []
 unfold onceS at *
 simp at h2
 omega
theorem divL_swap (b p q l : List Int) : divL b q p l = divL b p q l := by rw [divL_eq, divL_eq, kept_swap]
theorem order_eq {b l r : List Int} {x y : List S71} (hn : b.Nodup) (hx : Sub b l 0 0 x) (hy : Sub b r 0 0 y) : divOrder b x y = b.filter fun v => decide (v ∈ oldsOf b x ∧ v ∈ oldsOf b y) := by
 have h1 := (olds_sub hy).1
 rw [List.drop_zero] at h1
 rw [divOrder]
 conv => lhs; rw [sub_filter h1 hn]
 rw [List.filter_filter]
 congr 1
 funext v
 by_cases c1 : v ∈ oldsOf b x <;> by_cases c2 : v ∈ oldsOf b y <;> simp [c1, c2]
theorem order_swap {b l r : List Int} {x y : List S71} (hn : b.Nodup) (hx : Sub b l 0 0 x) (hy : Sub b r 0 0 y) : divOrder b y x = divOrder b x y := by
 rw [order_eq hn hx hy, order_eq hn hy hx]
 congr 1
 funext v
 exact decide_eq_decide.2 And.comm
/-- All that is known of a division: the three lists without what is not kept, the pairs, the stable elements, the parts. -/
structure Division (b l r : List Int) (x y : List S71) (o : List Int) (ps : List P3) : Prop where
 px : Pairs b l x
 py : Pairs b r y
 ho : o = divOrder b x y
 hps : ps = parts3 (cutsS o b) (cutsS o l) (cutsS o r)
 on : o.Nodup
 ob : o.Sublist b
 ol : o.Sublist l
 orr : o.Sublist r
 len : ps.length = o.length + 1
 small : ∀ p ∈ ps, p.f0.length ≤ b.length ∧ p.f1.length ≤ l.length ∧ p.f2.length ≤ r.length
theorem divEnd_some {b l r : List Int} {x y : List S71} (nb : b.Nodup) (nl : l.Nodup) (nr : r.Nodup) (hb : b.length ≤ 1000) (hx : Pairs b l x) (hy : Pairs b r y) :
  ∃ o ps, divEnd b l r x y = some (o, ps) ∧ Division b l r x y o ps := by
 have x1 := (olds_sub hx.sub).1
 have x2 := (olds_sub hx.sub).2
 have y1 := (olds_sub hy.sub).1
 have y2 := (olds_sub hy.sub).2
 rw [List.drop_zero] at x1 x2 y1 y2
 have oy : (divOrder b x y).Sublist (oldsOf b y) := List.filter_sublist
 have ox : (divOrder b x y).Sublist (oldsOf b x) := by
  rw [← order_swap nb hx.sub hy.sub]
  exact List.filter_sublist
 have ob := ox.trans x1
 have ol := ox.trans x2
 have orr := oy.trans y2
 have on := nb.sublist ob
 have c1 := cuts_len nb on (fun v h => ob.subset h)
 have c2 := cuts_len nl on (fun v h => ol.subset h)
 have c3 := cuts_len nr on (fun v h => orr.subset h)
 have ol1 := ob.length_le
 have xl := hx.sub.len (Nat.zero_le _)
 have yl := hy.sub.len (Nat.zero_le _)
 have inb : ∀ (z : List S71) (m : List Int), Sub b m 0 0 z → inB b z = true := by
  intro z m h
  refine List.all_eq_true.2 fun p hp => ?_
  obtain ⟨i', k', rfl, _, _, g3, _, _⟩ := h.range p hp
  simp
  omega
 refine ⟨divOrder b x y, parts3 (cutsS (divOrder b x y) b) (cutsS (divOrder b x y) l) (cutsS (divOrder b x y) r), ?_, ⟨hx, hy, rfl, rfl, on, ob, ol, orr, by simp [parts3, c1], ?_⟩⟩
 ·unfold divEnd
  rw [if_pos ⟨inb x l hx.sub, inb y r hy.sub, by omega, by omega, by omega, by omega, by omega⟩]
 ·intro p hp
  obtain ⟨i, _, rfl⟩ := List.mem_map.1 hp
  exact ⟨cuts_getD _ _ _, cuts_getD _ _ _, cuts_getD _ _ _⟩
theorem div_ev (l0 l1 l2 : List Int) (h0 : l0.length ≤ 1000) (h1 : l1.length ≤ 1000) (h2 : l2.length ≤ 1000) :
  ∃ x y o ps, Ev (fun K => sequence_divide.f K l0 l1 l2) (o, ps) ∧ Ev (fun K => sequence_divide.f K l0 l2 l1) (o, ps.map swapP) ∧ Division (divL l0 l1 l2 l0) (divL l0 l1 l2 l1) (divL l0 l1 l2 l2) x y o ps := by
 have d0 := divL_len l0 l1 l2 l0
 have d1 := divL_len l0 l1 l2 l1
 have d2 := divL_len l0 l1 l2 l2
 obtain ⟨x, ex, px⟩ := lcs_ev (a := divL l0 l1 l2 l0) (b := divL l0 l1 l2 l1) (by omega) (by omega)
 obtain ⟨y, ey, py⟩ := lcs_ev (a := divL l0 l1 l2 l0) (b := divL l0 l1 l2 l2) (by omega) (by omega)
 have nb := divL_nodup l0 l1 l2 l0
 have nl := divL_nodup l0 l1 l2 l1
 have nr := divL_nodup l0 l1 l2 l2
 obtain ⟨o, ps, e, D⟩ := divEnd_some nb nl nr (by omega) px py
 obtain ⟨o', ps', e', D'⟩ := divEnd_some nb nr nl (by omega) py px
 have eo : o' = o := by rw [D'.ho, D.ho]; exact order_swap nb px.sub py.sub
 subst eo
 have eps : ps' = ps.map swapP := by
  have c1 := cuts_len nb D.on (fun v h => D.ob.subset h)
  rw [D.hps, D'.hps]
  simp only [parts3, List.map_map]
  rfl
 subst eps
 refine ⟨x, y, o', ps, ?_, ?_, D⟩
 ·unfold sequence_divide.f
  refine Ev.pos (by omega) (ex.bind (ey.bind ?_))
  rw [e]
  exact Ev.now _
 ·unfold sequence_divide.f
  rw [divL_swap l0 l1 l2 l0, divL_swap l0 l1 l2 l1, divL_swap l0 l1 l2 l2]
  refine Ev.pos (by omega) (ey.bind (ex.bind ?_))
  rw [e']
  exact Ev.now _
theorem joinA_some {mg : P3 → Option (List Int)} {M : Nat} (hM : M ≤ 10000) : ∀ (ps : List P3) (ord out : List Int), (∀ p ∈ ps, smallP p = true ∧ ((mg p).getD []).length ≤ M) → out.length + ps.length * (M + 1) ≤ 1000000000 →
  ∃ res, joinA mg ps ord out = some res ∧ res.1.length ≤ out.length + ps.length * (M + 1)
 | [], ord, out, _, _ => ⟨(out, true), rfl, by simp⟩
 | p :: ps, ord, out, h, hb => by
  obtain ⟨h1, h2⟩ := h p List.mem_cons_self
  rw [List.length_cons, Nat.add_mul] at hb
  rw [joinA, if_pos ⟨h1, by omega, by omega⟩]
  cases hm : mg p with
  | none => exact ⟨_, rfl, by simp⟩
  | some l =>
   rw [hm] at h2
   simp only [Option.getD_some] at h2
   have ht : (ord.take 1).length ≤ 1 := by rw [List.length_take]; omega
   obtain ⟨res, e, hr⟩ := joinA_some hM ps ord.tail (out ++ l ++ ord.take 1) (fun q hq => h q (List.mem_cons_of_mem _ hq)) (by simp only [List.length_append]; omega)
   refine ⟨res, e, ?_⟩
   simp only [List.length_append] at hr
   rw [List.length_cons, Nat.add_mul]
   omega
theorem smallP_swap (p : P3) : smallP (swapP p) = smallP p := decide_eq_decide.2 (by simp only [swapP]; constructor <;> rintro ⟨a, b, c⟩ <;> exact ⟨a, c, b⟩)
theorem joinA_swap {mg : P3 → Option (List Int)} (hm : ∀ p, mg (swapP p) = mg p) : ∀ (ps : List P3) (ord out : List Int), joinA mg (ps.map swapP) ord out = joinA mg ps ord out
 | [], ord, out => rfl
 | p :: ps, ord, out => by
  rw [List.map_cons, joinA, joinA, hm, smallP_swap]
  cases mg p with
  | none => rfl
  | some l => simp only [joinA_swap hm ps]
theorem mergedS_swap (p : P3) : mergedS (swapP p) = mergedS p := by
 obtain ⟨f0, f1, f2⟩ := p
 rw [show mergedS (swapP ⟨f0, f1, f2⟩) = (if f2 = f0 then some f1 else if f1 = f0 ∨ f2 = f1 then some f2 else none) from rfl, show mergedS ⟨f0, f1, f2⟩ = (if f1 = f0 then some f2 else if f2 = f0 ∨ f1 = f2 then some f1 else none) from rfl]
 by_cases a : f1 = f0
 ·by_cases b : f2 = f0
  ·rw [if_pos b, if_pos a, a, b]
  ·rw [if_neg b, if_pos (.inl a), if_pos a]
 ·by_cases b : f2 = f0
  ·rw [if_pos b, if_neg a, if_pos (.inl b)]
  ·by_cases c : f1 = f2
   ·rw [if_neg b, if_neg a, if_pos (.inr c.symm), if_pos (.inr c), c]
   ·rw [if_neg b, if_neg a, if_neg (by rintro (h | h); exact a h; exact c h.symm), if_neg (by rintro (h | h); exact b h; exact c h)]
theorem mgS_swap {oth : P3 → Option (List Int)} (h : ∀ p, oth (swapP p) = oth p) (p : P3) : mgS oth (swapP p) = mgS oth p := by
 unfold mgS
 rw [mergedS_swap, h]
theorem mergedS_len (p : P3) (M : Nat) (h1 : p.f1.length ≤ M) (h2 : p.f2.length ≤ M) : ((mergedS p).getD []).length ≤ M := by
 unfold mergedS
 split
 ·exact h2
 ·split
  ·exact h1
  ·simp
theorem join_ev {oth : P3 → Option (List Int)} {M : Nat} (hM : M ≤ 10000) (hs : ∀ p, oth (swapP p) = oth p) (l0 l1 l2 : List Int) (h0 : l0.length ≤ 1000) (h1 : l1.length ≤ 1000) (h2 : l2.length ≤ 1000) (hM0 : l1.length ≤ M ∧ l2.length ≤ M)
  (ho : ∀ p : P3, p.f0.length ≤ l0.length → p.f1.length ≤ l1.length → p.f2.length ≤ l2.length → ((oth p).getD []).length ≤ M) :
  ∃ x y o ps res, Division (divL l0 l1 l2 l0) (divL l0 l1 l2 l1) (divL l0 l1 l2 l2) x y o ps ∧ joinA (mgS oth) ps o [] = some res ∧ res.1.length ≤ 100000000 ∧ Ev (fun K => joinF K oth l0 l1 l2) res ∧ Ev (fun K => joinF K oth l0 l2 l1) res := by
 obtain ⟨x, y, o, ps, e1, e2, D⟩ := div_ev l0 l1 l2 h0 h1 h2
 have d0 := divL_len l0 l1 l2 l0
 have d1 := divL_len l0 l1 l2 l1
 have d2 := divL_len l0 l1 l2 l2
 have hol := D.ob.length_le
 have hlen := D.len
 obtain ⟨res, hr, hb⟩ := joinA_some (mg := mgS oth) hM ps o [] (fun p hp => by
  obtain ⟨s0, s1, s2⟩ := D.small p hp
  refine ⟨decide_eq_true ⟨by omega, by omega, by omega⟩, ?_⟩
  unfold mgS
  cases hm : mergedS p with
  | none => exact ho p (by omega) (by omega) (by omega)
  | some l =>
   have := mergedS_len p M (by omega) (by omega)
   rw [hm] at this
   exact this) (by
  have : ps.length * (M + 1) ≤ 1001 * 10001 := Nat.mul_le_mul (by omega) (by omega)
  simp
  omega)
 have hb2 : ps.length * (M + 1) ≤ 1001 * 10001 := Nat.mul_le_mul (by omega) (by omega)
 refine ⟨x, y, o, ps, res, D, hr, by simp at hb; omega, ?_, ?_⟩
 ·unfold joinF
  refine e1.bind ?_
  simp only [hr]
  exact Ev.now _
 ·unfold joinF
  refine e2.bind ?_
  simp only [joinA_swap (mgS_swap hs), hr]
  exact Ev.now _
/- Merge and Free are there for all lists, and do not depend on which side is the left one (chapter 32). -/

theorem merge_two (l0 l1 l2 : List Int) (h0 : l0.length ≤ 1000) (h1 : l1.length ≤ 1000) (h2 : l2.length ≤ 1000) :
  ∃ r, Ev (fun K => sequence_Merge.f K l0 l1 l2) r ∧ Ev (fun K => sequence_Merge.f K l0 l2 l1) r ∧ r.1.length ≤ 100000000 := by
 obtain ⟨x, y, o, ps, res, D, hr, hb, e1, e2⟩ := join_ev (oth := fun _ => none) (M := 1000) (by decide) (fun _ => rfl) l0 l1 l2 h0 h1 h2 ⟨h1, h2⟩ (fun p _ _ _ => by simp)
 obtain ⟨out, ok⟩ := res
 have key : ∀ kp : List Int, ∃ r : List Int × Bool, (if ok = false then some (([] : List Int), false) else if out.length ≤ 2000000000 then (if (onceS out).length = out.length then (if out.length = kp.length then some (out, true) else some ([], false)) else some ([], false)) else none) = some r ∧ r.1.length ≤ 100000000 := by
  intro kp
  dsimp only at hb
  cases ok with
  | false => exact ⟨_, if_pos rfl, by simp⟩
  | true =>
   rw [if_neg (by simp), if_pos (by omega)]
   by_cases c1 : (onceS out).length = out.length
   ·rw [if_pos c1]
    by_cases c2 : out.length = kp.length
    ·rw [if_pos c2]
     exact ⟨_, rfl, hb⟩
    ·rw [if_neg c2]
     exact ⟨_, rfl, by simp⟩
   ·rw [if_neg c1]
    exact ⟨_, rfl, by simp⟩
 obtain ⟨r, hr, hl⟩ := key (keptS l0 l1 l2)
 refine ⟨r, ?_, ?_, hl⟩
 ·unfold sequence_Merge.f
  exact e1.bind (Ev.known hr (Ev.now _) |> fun h => by simpa [hr] using (Ev.now r))
 ·unfold sequence_Merge.f
  rw [kept_swap l0 l2 l1]
  exact e2.bind (by simpa [hr] using (Ev.now r))
theorem sortK_congr {ks : List ByteArray} {l m : List Int} (hp : l.Perm m) : sortK ks l = sortK ks m := by
 have hO := swo_ltK ks
 have s1 : (sortK ks m).Pairwise (fun x y => ltK ks y x = false) := by
  have := List.pairwise_mergeSort (le := fun x y : Int => !ltK ks y x) (fun a b c h1 h2 => by
   simp only [Bool.not_eq_true'] at *
   exact hO.ntrans _ _ _ h2 h1) (fun a b => by
   cases h : ltK ks b a with
   | false => simp
   | true =>
    cases h2 : ltK ks a b with
    | false => simp
    | true =>
     have := hO.trans _ _ _ h h2
     rw [hO.irrefl] at this
     cases this) m
  exact this.imp (fun h => by simpa using h)
 exact sortK_eq (hp.trans (List.mergeSort_perm _ _).symm) s1
theorem othS_swap (base : List Int) (ks : List ByteArray) (p : P3) : othS base ks (swapP p) = othS base ks p := by
 unfold othS
 simp only [swapP]
 congr 2
 rw [keptN_eq, keptN_eq]
 refine sortK_congr ?_
 simp only [List.nil_append]
 refine (List.perm_ext_iff_of_nodup ((once_nodup _).filter _) ((once_nodup _).filter _)).2 fun x => ?_
 simp only [List.mem_filter, once_mem, List.mem_append, decide_eq_true_eq]
 constructor <;> rintro ⟨h, h2⟩ <;> exact ⟨h.symm, h2⟩
theorem once_len (l : List Int) : (onceS l).length ≤ l.length := by
 have := onceL_len l []
 unfold onceS
 simpa using this
theorem othS_len (base : List Int) (ks : List ByteArray) (p : P3) : ((othS base ks p).getD []).length ≤ p.f0.length + (p.f1.length + p.f2.length) := by
 unfold othS
 simp only [Option.getD_some, List.length_append, sortK_len]
 have h1 := keptN_len base (onceS (p.f1 ++ p.f2)) []
 have h2 := once_len (p.f1 ++ p.f2)
 rw [List.length_append] at h2
 simp at h1
 omega
theorem free_two (l0 l1 l2 : List Int) (ks : List ByteArray) (h0 : l0.length ≤ 1000) (h1 : l1.length ≤ 1000) (h2 : l2.length ≤ 1000) :
  ∃ r, Ev (fun K => sequence_Free.f K l0 l1 l2 ks) r ∧ Ev (fun K => sequence_Free.f K l0 l2 l1 ks) r ∧ r.1.length ≤ 200000000 := by
 obtain ⟨m, m1, m2, ml⟩ := merge_two l0 l1 l2 h0 h1 h2
 obtain ⟨x, y, o, ps, res, D, hr, hb, e1, e2⟩ := join_ev (oth := othS l0 ks) (M := 3000) (by decide) (othS_swap l0 ks) l0 l1 l2 h0 h1 h2 ⟨by omega, by omega⟩ (fun p q0 q1 q2 => by
  have := othS_len l0 ks p
  omega)
 cases hm : m.2 with
 | true =>
  refine ⟨(m.1, true), ?_, ?_, by dsimp only; omega⟩
  ·unfold sequence_Free.f
   exact m1.bind (Ev.pos hm (Ev.now _))
  ·unfold sequence_Free.f
   exact m2.bind (Ev.pos hm (Ev.now _))
 | false =>
  refine ⟨(keptN (onceS res.1) (sortI (keptS l0 l1 l2)) (onceS res.1), false), ?_, ?_, ?_⟩
  ·unfold sequence_Free.f
   exact m1.bind (Ev.neg (by rw [hm]; simp) (e1.bind (Ev.pos (by omega) (Ev.now _))))
  ·unfold sequence_Free.f
   rw [kept_swap l0 l2 l1]
   exact m2.bind (Ev.neg (by rw [hm]; simp) (e2.bind (Ev.pos (by omega) (Ev.now _))))
  ·have q1 := keptN_len (onceS res.1) (sortI (keptS l0 l1 l2)) (onceS res.1)
   have q2 := once_len res.1
   have q3 := keptS_len l0 l1 l2
   rw [sortI_len] at q1
   dsimp only
   omega
/- Merge where one side is the base, or both sides are equal (chapter 32). -/

def inter : List (List Int) → List Int → List Int
 | [], _ => []
 | l :: ls, o => l ++ o.take 1 ++ inter ls o.tail
theorem join_inter {mg : P3 → Option (List Int)} : ∀ (ps : List P3) (ms : List (List Int)) (ord out : List Int) (r : List Int × Bool), ps.map mg = ms.map some → joinA mg ps ord out = some r → r = (out ++ inter ms ord, true)
 | [], ms, ord, out, r, h, e => by
  cases ms with
  | nil =>
   simp only [joinA, Option.some.injEq] at e
   rw [← e, inter, List.append_nil]
  | cons m ms => simp at h
 | p :: ps, ms, ord, out, r, h, e => by
  cases ms with
  | nil => simp at h
  | cons m ms =>
   rw [List.map_cons, List.map_cons, List.cons.injEq] at h
   rw [joinA] at e
   split at e
   ·rw [h.1] at e
    dsimp only at e
    have := join_inter ps ms ord.tail (out ++ m ++ ord.take 1) r h.2 e
    rw [this, inter]
    simp only [List.append_assoc]
   ·cases e
theorem cutsA_done (s : List Int) : ∀ (l : List Int) (done : List (List Int)) (last : List Int), cutsA s l done last = done ++ cutsA s l [] last
 | [], done, last => by simp [cutsA]
 | x :: l, done, last => by
  rw [cutsA, cutsA]
  by_cases h : x ∈ s
  ·rw [if_pos h, if_pos h, cutsA_done s l (done ++ [last]), cutsA_done s l ([] ++ [last])]
   simp
  ·rw [if_neg h, if_neg h, cutsA_done s l done]
theorem inter_cuts (s : List Int) : ∀ (l last o : List Int), o.Sublist l → l.Nodup → (∀ x ∈ l, x ∈ s ↔ x ∈ o) → inter (cutsA s l [] last) o = last ++ l
 | [], last, o, h, _, _ => by
  have : o = [] := List.eq_nil_of_sublist_nil h
  subst this
  simp [cutsA, inter]
 | x :: l, last, o, h, hn, hs => by
  have hx : x ∉ l := (List.nodup_cons.1 hn).1
  have hl := (List.nodup_cons.1 hn).2
  rw [cutsA]
  by_cases c : x ∈ s
  ·rw [if_pos c, cutsA_done]
   have hxo := (hs x List.mem_cons_self).1 c
   cases h with
   | cons _ h => exact absurd (h.subset hxo) hx
   | cons_cons _ h =>
    rename_i o'
    have ih := inter_cuts s l [] o' h hl (fun y hy => by
     rw [hs y (List.mem_cons_of_mem _ hy), List.mem_cons]
     exact ⟨fun g => g.resolve_left (fun e => hx (e ▸ hy)), .inr⟩)
    show inter (last :: cutsA s l [] []) (x :: o') = _
    rw [inter]
    simp only [List.take_succ_cons, List.take_zero, List.tail_cons]
    rw [ih]
    simp
  ·rw [if_neg c]
   have hxo : x ∉ o := fun g => c ((hs x List.mem_cons_self).2 g)
   have h' : o.Sublist l := by
    cases h with
    | cons _ h => exact h
    | cons_cons _ h => exact absurd List.mem_cons_self hxo
   rw [inter_cuts s l (last ++ [x]) o h' hl (fun y hy => hs y (List.mem_cons_of_mem _ hy))]
   simp
theorem map_getD (z : List (List Int)) : (List.range z.length).map (fun i => z.getD i []) = z := by
 apply List.ext_getElem
 ·simp
 ·intro i h1 h2
  simp [List.getD_eq_getElem?_getD, List.getElem?_eq_getElem (show i < z.length by simpa using h1)]
theorem parts_f2 {b l r : List Int} {x y : List S71} {o : List Int} {ps : List P3} (nb : b.Nodup) (nr : r.Nodup) (D : Division b l r x y o ps) : ps.map (fun p => p.f2) = cutsS o r := by
 have c1 := cuts_len nb D.on (fun v h => D.ob.subset h)
 have c3 := cuts_len nr D.on (fun v h => D.orr.subset h)
 rw [D.hps, parts3, List.map_map, c1, ← c3]
 exact map_getD _
/-- A merge in which every part is that of the right side. -/
theorem merge_core (l0 l1 l2 : List Int) (h0 : l0.length ≤ 1000) (h1 : l1.length ≤ 1000) (h2 : l2.length ≤ 1000) (hk : ∀ x, x ∈ keptS l0 l1 l2 ↔ x ∈ l2)
  (hm : ∀ x y o ps, Division (divL l0 l1 l2 l0) (divL l0 l1 l2 l1) (divL l0 l1 l2 l2) x y o ps → ∀ p ∈ ps, mergedS p = some p.f2) : Ev (fun K => sequence_Merge.f K l0 l1 l2) (onceS l2, true) := by
 obtain ⟨x, y, o, ps, res, D, hr, hb, e1, e2⟩ := join_ev (oth := fun _ => none) (M := 1000) (by decide) (fun _ => rfl) l0 l1 l2 h0 h1 h2 ⟨h1, h2⟩ (fun p _ _ _ => by simp)
 have hR : divL l0 l1 l2 l2 = onceS l2 := by
  rw [divL_eq, List.filter_eq_self]
  intro a ha
  rw [decide_eq_true_eq, hk]
  exact (once_mem l2 a).1 ha
 have hf2 := parts_f2 (divL_nodup l0 l1 l2 l0) (divL_nodup l0 l1 l2 l2) D
 have hmap : ps.map (mgS fun _ => none) = (cutsS o (divL l0 l1 l2 l2)).map some := by
  rw [← hf2, List.map_map]
  refine List.map_congr_left fun p hp => ?_
  simp [mgS, hm x y o ps D p hp]
 have hres := join_inter ps _ o [] res hmap hr
 have hi := inter_cuts o (divL l0 l1 l2 l2) [] o D.orr (divL_nodup l0 l1 l2 l2) (fun _ _ => Iff.rfl)
 unfold cutsS at hres
 rw [hi, List.nil_append, List.nil_append, hR] at hres
 subst hres
 have hlen : (onceS l2).length = (keptS l0 l1 l2).length :=
  ((List.perm_ext_iff_of_nodup (once_nodup l2) (kept_nodup l0 l1 l2)).2 (fun a => by rw [once_mem, hk])).length_eq
 have hol := once_len l2
 unfold sequence_Merge.f
 refine e1.bind ?_
 dsimp only
 rw [if_neg (by simp), if_pos (by omega), if_pos (by rw [once_of_nodup (once_nodup l2)]), if_pos hlen]
 exact Ev.now _
theorem f1_f0 {l0 l1 l2 : List Int} (h : divL l0 l1 l2 l1 = divL l0 l1 l2 l0) {x y : List S71} {o : List Int} {ps : List P3} (D : Division (divL l0 l1 l2 l0) (divL l0 l1 l2 l1) (divL l0 l1 l2 l2) x y o ps) : ∀ p ∈ ps, mergedS p = some p.f2 := by
 intro p hp
 rw [D.hps, h] at hp
 obtain ⟨i, _, rfl⟩ := List.mem_map.1 hp
 exact if_pos rfl
theorem merge_left (l0 l1 l2 : List Int) (h0 : l0.length ≤ 1000) (h1 : l1.length ≤ 1000) (h2 : l2.length ≤ 1000) (he : onceS l1 = onceS l0) : Ev (fun K => sequence_Merge.f K l0 l1 l2) (onceS l2, true) := by
 have hmem : ∀ x, x ∈ l1 ↔ x ∈ l0 := fun x => by rw [← once_mem, he, once_mem]
 refine merge_core l0 l1 l2 h0 h1 h2 (fun x => ?_) (fun x y o ps D => f1_f0 (by rw [divL_eq, divL_eq, he]) D)
 rw [kept_mem, hmem]
 constructor
 ·rintro (h | h)
  ·exact h.2.2
  ·exact h.2.resolve_left h.1
 ·intro h
  by_cases c : x ∈ l0
  ·exact .inl ⟨c, c, h⟩
  ·exact .inr ⟨c, .inr h⟩
theorem merge_both (l0 l1 : List Int) (h0 : l0.length ≤ 1000) (h1 : l1.length ≤ 1000) : Ev (fun K => sequence_Merge.f K l0 l1 l1) (onceS l1, true) := by
 refine merge_core l0 l1 l1 h0 h1 h1 (fun x => ?_) (fun x y o ps D p hp => ?_)
 ·rw [kept_mem]
  constructor
  ·rintro (h | h)
   ·exact h.2.1
   ·exact h.2.elim id id
  ·intro h
   by_cases c : x ∈ l0
   ·exact .inl ⟨c, h, h⟩
   ·exact .inr ⟨c, .inl h⟩
 ·rw [D.hps] at hp
  obtain ⟨i, _, rfl⟩ := List.mem_map.1 hp
  unfold mergedS
  split
  ·rfl
  ·rw [if_pos (.inr rfl)]
theorem merge_right (l0 l1 l2 : List Int) (h0 : l0.length ≤ 1000) (h1 : l1.length ≤ 1000) (h2 : l2.length ≤ 1000) (he : onceS l2 = onceS l0) : Ev (fun K => sequence_Merge.f K l0 l1 l2) (onceS l1, true) := by
 obtain ⟨r, e1, e2, _⟩ := merge_two l0 l1 l2 h0 h1 h2
 have e3 := merge_left l0 l2 l1 h0 h2 h1 he
 obtain ⟨K1, q1⟩ := e2
 obtain ⟨K2, q2⟩ := e3
 have a := q1 (max K1 K2) (by omega)
 have b := q2 (max K1 K2) (by omega)
 rw [a] at b
 injection b with b
 exact Ev.cast b e1
end Go.Proofs.Ytdbgdkbpamekpaa.Pure
