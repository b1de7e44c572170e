/- The division into parts: it is always there, and does not depend on which side is the left one (chapter 32). -/
import Derived.Test.YtdbgdkbpamekpaaPureLcsFill
namespace Go.Proofs.Ytdbgdkbpamekpaa.Pure
set_option linter.unusedVariables false
open Go.RowKit Go.Proofs.Ytdbgdkbpamekpaa.Q Go.Proofs.YtdbgdkbpamekpaaW.PrintWords Go.Proofs.YtdbgdkbpamekpaaW.PrintLast

theorem sub_filter {s b : List Int} (hs : s.Sublist b) (hn : b.Nodup) : s = b.filter fun v => decide (v ∈ s) := by
  have h1 : s = s.filter fun v => decide (v ∈ s) := by
    symm
    rw [List.filter_eq_self]
    intro a ha
    simpa using ha
  have h2 : (s.filter fun v => decide (v ∈ s)).Sublist (b.filter fun v => decide (v ∈ s)) := hs.filter _
  rw [← h1] at h2
  refine h2.eq_of_length_le ?_
  have h3 : ∀ x, x ∈ (b.filter fun v => decide (v ∈ s)) → x ∈ s := by
    intro x hx
    simpa using (List.mem_filter.1 hx).2
  have n2 : (b.filter fun v => decide (v ∈ s)).Nodup := hn.filter _
  have n1 : s.Nodup := hn.sublist hs
  have := (List.perm_ext_iff_of_nodup n2 n1).2 (fun x => ⟨h3 x, fun hx => List.mem_filter.2 ⟨hs.subset hx, by simpa using hx⟩⟩)
  exact Nat.le_of_eq this.length_eq
theorem olds_sub {a b : List Int} : ∀ {r : List S71} {i k : Nat}, Sub a b i k r → (oldsOf a r).Sublist (a.drop i) ∧ (oldsOf a r).Sublist (b.drop k)
  | [], _, _, _ => ⟨List.nil_sublist _, List.nil_sublist _⟩
  | p :: r, i, k, h => by
    obtain ⟨i', k', rfl, g1, g2, g3, g4, g5, g6⟩ := h
    obtain ⟨h1, h2⟩ := olds_sub g6
    have e1 : rd a (i' : Int) = a[i'] := rd_at g3
    have e2 : a[i'] = b[k'] := by
      rw [List.getElem?_eq_getElem g3, List.getElem?_eq_getElem g4] at g5
      exact Option.some.inj g5
    have d1 : (a.drop i').Sublist (a.drop i) := by
      have := List.drop_sublist (i' - i) (a.drop i)
      rwa [List.drop_drop, show i + (i' - i) = i' by omega] at this
    have d2 : (b.drop k').Sublist (b.drop k) := by
      have := List.drop_sublist (k' - k) (b.drop k)
      rwa [List.drop_drop, show k + (k' - k) = k' by omega] at this
    show ((rd a (i' : Int)) :: oldsOf a r).Sublist _ ∧ ((rd a (i' : Int)) :: oldsOf a r).Sublist _
    rw [e1]
    refine ⟨List.Sublist.trans ?_ d1, List.Sublist.trans ?_ d2⟩
    · rw [List.drop_eq_getElem_cons g3]
      exact h1.cons_cons _
    · rw [List.drop_eq_getElem_cons g4, e2]
      exact h2.cons_cons _
theorem cutsA_len (s : List Int) : ∀ (l : List Int) (done : List (List Int)) (last : List Int), (cutsA s l done last).length = done.length + 1 + (l.filter fun v => decide (v ∈ s)).length
  | [], done, last => by simp [cutsA]
  | x :: l, done, last => by
    rw [cutsA]
    by_cases h : x ∈ s
    · rw [if_pos h, cutsA_len s l, List.filter_cons_of_pos (by simpa using h)]
      simp
      omega
    · rw [if_neg h, cutsA_len s l, List.filter_cons_of_neg (by simpa using h)]
theorem cutsA_flat (s : List Int) : ∀ (l : List Int) (done : List (List Int)) (last : List Int), (cutsA s l done last).flatten.length ≤ done.flatten.length + last.length + l.length
  | [], done, last => by simp [cutsA]
  | x :: l, done, last => by
    rw [cutsA]
    by_cases h : x ∈ s
    · rw [if_pos h]
      have := cutsA_flat s l (done ++ [last]) []
      simp at this ⊢
      omega
    · rw [if_neg h]
      have := cutsA_flat s l done (last ++ [x])
      simp at this ⊢
      omega
theorem le_flat {l : List Int} : ∀ {ls : List (List Int)}, l ∈ ls → l.length ≤ ls.flatten.length
  | [], h => by simp at h
  | a :: ls, h => by
    rcases List.mem_cons.1 h with rfl | h
    · simp only [List.flatten_cons, List.length_append]
      omega
    · have := le_flat h
      simp only [List.flatten_cons, List.length_append]
      omega
theorem cuts_getD (s l : List Int) (i : Nat) : ((cutsS s l).getD i []).length ≤ l.length := by
  rcases Nat.lt_or_ge i (cutsS s l).length with h | h
  · have h1 : (cutsS s l).getD i [] ∈ cutsS s l := by
      rw [List.getD_eq_getElem?_getD, List.getElem?_eq_getElem h]
      exact List.getElem_mem h
    have h2 := le_flat h1
    have h3 := cutsA_flat s l [] []
    unfold cutsS at h2 ⊢
    simp only [List.flatten_nil, List.length_nil, Nat.zero_add] at h3
    omega
  · rw [List.getD_eq_getElem?_getD, List.getElem?_eq_none h]
    simp
theorem cuts_len {o l : List Int} (hl : l.Nodup) (ho : o.Nodup) (hs : ∀ v ∈ o, v ∈ l) : (cutsS o l).length = o.length + 1 := by
  rw [cutsS, cutsA_len]
  have : (l.filter fun v => decide (v ∈ o)).Perm o := (List.perm_ext_iff_of_nodup (hl.filter _) ho).2 (fun x => by
    rw [List.mem_filter, decide_eq_true_eq]
    exact ⟨fun h => h.2, fun h => ⟨hs x h, h⟩⟩)
  rw [this.length_eq]
  simp
  omega
/-- The two sides of a part, exchanged. -/
def swapP (p : P3) : P3 := ⟨p.f0, p.f2, p.f1⟩
theorem divL_eq (b p q l : List Int) : divL b p q l = (onceS l).filter fun x => decide (x ∈ keptS b p q) := by rw [divL, keepL_eq]; rfl
theorem divL_nodup (b p q l : List Int) : (divL b p q l).Nodup := by rw [divL_eq]; exact (once_nodup l).filter _
theorem divL_len (b p q l : List Int) : (divL b p q l).length ≤ l.length := by
  rw [divL_eq]
  have h1 := List.length_filter_le (fun x => decide (x ∈ keptS b p q)) (onceS l)
  have h2 := onceL_len l []
  unfold onceS at *
  simp at h2
  omega
theorem divL_swap (b p q l : List Int) : divL b q p l = divL b p q l := by rw [divL_eq, divL_eq, kept_swap]
theorem order_eq {b l r : List Int} {x y : List S71} (hn : b.Nodup) (hx : Sub b l 0 0 x) (hy : Sub b r 0 0 y) : divOrder b x y = b.filter fun v => decide (v ∈ oldsOf b x ∧ v ∈ oldsOf b y) := by
  have h1 := (olds_sub hy).1
  rw [List.drop_zero] at h1
  rw [divOrder]
  conv => lhs; rw [sub_filter h1 hn]
  rw [List.filter_filter]
  congr 1
  funext v
  by_cases c1 : v ∈ oldsOf b x <;> by_cases c2 : v ∈ oldsOf b y <;> simp [c1, c2]
theorem order_swap {b l r : List Int} {x y : List S71} (hn : b.Nodup) (hx : Sub b l 0 0 x) (hy : Sub b r 0 0 y) : divOrder b y x = divOrder b x y := by
  rw [order_eq hn hx hy, order_eq hn hy hx]
  congr 1
  funext v
  exact decide_eq_decide.2 And.comm
/-- All that is known of a division: the three lists without what is not kept, the pairs, the stable elements, the parts. -/
structure Division (b l r : List Int) (x y : List S71) (o : List Int) (ps : List P3) : Prop where
  px : Pairs b l x
  py : Pairs b r y
  ho : o = divOrder b x y
  hps : ps = parts3 (cutsS o b) (cutsS o l) (cutsS o r)
  on : o.Nodup
  ob : o.Sublist b
  ol : o.Sublist l
  orr : o.Sublist r
  len : ps.length = o.length + 1
  small : ∀ p ∈ ps, p.f0.length ≤ b.length ∧ p.f1.length ≤ l.length ∧ p.f2.length ≤ r.length
theorem divEnd_some {b l r : List Int} {x y : List S71} (nb : b.Nodup) (nl : l.Nodup) (nr : r.Nodup) (hb : b.length ≤ 1000) (hx : Pairs b l x) (hy : Pairs b r y) :
    ∃ o ps, divEnd b l r x y = some (o, ps) ∧ Division b l r x y o ps := by
  have x1 := (olds_sub hx.sub).1
  have x2 := (olds_sub hx.sub).2
  have y1 := (olds_sub hy.sub).1
  have y2 := (olds_sub hy.sub).2
  rw [List.drop_zero] at x1 x2 y1 y2
  have oy : (divOrder b x y).Sublist (oldsOf b y) := List.filter_sublist
  have ox : (divOrder b x y).Sublist (oldsOf b x) := by
    rw [← order_swap nb hx.sub hy.sub]
    exact List.filter_sublist
  have ob := ox.trans x1
  have ol := ox.trans x2
  have orr := oy.trans y2
  have on := nb.sublist ob
  have c1 := cuts_len nb on (fun v h => ob.subset h)
  have c2 := cuts_len nl on (fun v h => ol.subset h)
  have c3 := cuts_len nr on (fun v h => orr.subset h)
  have ol1 := ob.length_le
  have xl := hx.sub.len (Nat.zero_le _)
  have yl := hy.sub.len (Nat.zero_le _)
  have inb : ∀ (z : List S71) (m : List Int), Sub b m 0 0 z → inB b z = true := by
    intro z m h
    refine List.all_eq_true.2 fun p hp => ?_
    obtain ⟨i', k', rfl, _, _, g3, _, _⟩ := h.range p hp
    simp
    omega
  refine ⟨divOrder b x y, parts3 (cutsS (divOrder b x y) b) (cutsS (divOrder b x y) l) (cutsS (divOrder b x y) r), ?_, ⟨hx, hy, rfl, rfl, on, ob, ol, orr, by simp [parts3, c1], ?_⟩⟩
  · unfold divEnd
    rw [if_pos ⟨inb x l hx.sub, inb y r hy.sub, by omega, by omega, by omega, by omega, by omega⟩]
  · intro p hp
    obtain ⟨i, _, rfl⟩ := List.mem_map.1 hp
    exact ⟨cuts_getD _ _ _, cuts_getD _ _ _, cuts_getD _ _ _⟩
theorem div_ev (l0 l1 l2 : List Int) (h0 : l0.length ≤ 1000) (h1 : l1.length ≤ 1000) (h2 : l2.length ≤ 1000) :
    ∃ x y o ps, Ev (fun K => sequence_divide.f K l0 l1 l2) (o, ps) ∧ Ev (fun K => sequence_divide.f K l0 l2 l1) (o, ps.map swapP) ∧ Division (divL l0 l1 l2 l0) (divL l0 l1 l2 l1) (divL l0 l1 l2 l2) x y o ps := by
  have d0 := divL_len l0 l1 l2 l0
  have d1 := divL_len l0 l1 l2 l1
  have d2 := divL_len l0 l1 l2 l2
  obtain ⟨x, ex, px⟩ := lcs_ev (a := divL l0 l1 l2 l0) (b := divL l0 l1 l2 l1) (by omega) (by omega)
  obtain ⟨y, ey, py⟩ := lcs_ev (a := divL l0 l1 l2 l0) (b := divL l0 l1 l2 l2) (by omega) (by omega)
  have nb := divL_nodup l0 l1 l2 l0
  have nl := divL_nodup l0 l1 l2 l1
  have nr := divL_nodup l0 l1 l2 l2
  obtain ⟨o, ps, e, D⟩ := divEnd_some nb nl nr (by omega) px py
  obtain ⟨o', ps', e', D'⟩ := divEnd_some nb nr nl (by omega) py px
  have eo : o' = o := by rw [D'.ho, D.ho]; exact order_swap nb px.sub py.sub
  subst eo
  have eps : ps' = ps.map swapP := by
    have c1 := cuts_len nb D.on (fun v h => D.ob.subset h)
    rw [D.hps, D'.hps]
    simp only [parts3, List.map_map]
    rfl
  subst eps
  refine ⟨x, y, o', ps, ?_, ?_, D⟩
  · unfold sequence_divide.f
    refine Ev.pos (by omega) (ex.bind (ey.bind ?_))
    rw [e]
    exact Ev.now _
  · unfold sequence_divide.f
    rw [divL_swap l0 l1 l2 l0, divL_swap l0 l1 l2 l1, divL_swap l0 l1 l2 l2]
    refine Ev.pos (by omega) (ey.bind (ex.bind ?_))
    rw [e']
    exact Ev.now _
theorem joinA_some {mg : P3 → Option (List Int)} {M : Nat} (hM : M ≤ 10000) : ∀ (ps : List P3) (ord out : List Int), (∀ p ∈ ps, smallP p = true ∧ ((mg p).getD []).length ≤ M) → out.length + ps.length * (M + 1) ≤ 1000000000 →
    ∃ res, joinA mg ps ord out = some res ∧ res.1.length ≤ out.length + ps.length * (M + 1)
  | [], ord, out, _, _ => ⟨(out, true), rfl, by simp⟩
  | p :: ps, ord, out, h, hb => by
    obtain ⟨h1, h2⟩ := h p List.mem_cons_self
    rw [List.length_cons, Nat.add_mul] at hb
    rw [joinA, if_pos ⟨h1, by omega, by omega⟩]
    cases hm : mg p with
    | none => exact ⟨_, rfl, by simp⟩
    | some l =>
      rw [hm] at h2
      simp only [Option.getD_some] at h2
      have ht : (ord.take 1).length ≤ 1 := by rw [List.length_take]; omega
      obtain ⟨res, e, hr⟩ := joinA_some hM ps ord.tail (out ++ l ++ ord.take 1) (fun q hq => h q (List.mem_cons_of_mem _ hq)) (by simp only [List.length_append]; omega)
      refine ⟨res, e, ?_⟩
      simp only [List.length_append] at hr
      rw [List.length_cons, Nat.add_mul]
      omega
theorem smallP_swap (p : P3) : smallP (swapP p) = smallP p := decide_eq_decide.2 (by simp only [swapP]; constructor <;> rintro ⟨a, b, c⟩ <;> exact ⟨a, c, b⟩)
theorem joinA_swap {mg : P3 → Option (List Int)} (hm : ∀ p, mg (swapP p) = mg p) : ∀ (ps : List P3) (ord out : List Int), joinA mg (ps.map swapP) ord out = joinA mg ps ord out
  | [], ord, out => rfl
  | p :: ps, ord, out => by
    rw [List.map_cons, joinA, joinA, hm, smallP_swap]
    cases mg p with
    | none => rfl
    | some l => simp only [joinA_swap hm ps]
theorem mergedS_swap (p : P3) : mergedS (swapP p) = mergedS p := by
  obtain ⟨f0, f1, f2⟩ := p
  rw [show mergedS (swapP ⟨f0, f1, f2⟩) = (if f2 = f0 then some f1 else if f1 = f0 ∨ f2 = f1 then some f2 else none) from rfl, show mergedS ⟨f0, f1, f2⟩ = (if f1 = f0 then some f2 else if f2 = f0 ∨ f1 = f2 then some f1 else none) from rfl]
  by_cases a : f1 = f0
  · by_cases b : f2 = f0
    · rw [if_pos b, if_pos a, a, b]
    · rw [if_neg b, if_pos (.inl a), if_pos a]
  · by_cases b : f2 = f0
    · rw [if_pos b, if_neg a, if_pos (.inl b)]
    · by_cases c : f1 = f2
      · rw [if_neg b, if_neg a, if_pos (.inr c.symm), if_pos (.inr c), c]
      · rw [if_neg b, if_neg a, if_neg (by rintro (h | h); exact a h; exact c h.symm), if_neg (by rintro (h | h); exact b h; exact c h)]
theorem mgS_swap {oth : P3 → Option (List Int)} (h : ∀ p, oth (swapP p) = oth p) (p : P3) : mgS oth (swapP p) = mgS oth p := by
  unfold mgS
  rw [mergedS_swap, h]
theorem mergedS_len (p : P3) (M : Nat) (h1 : p.f1.length ≤ M) (h2 : p.f2.length ≤ M) : ((mergedS p).getD []).length ≤ M := by
  unfold mergedS
  split
  · exact h2
  · split
    · exact h1
    · simp
theorem join_ev {oth : P3 → Option (List Int)} {M : Nat} (hM : M ≤ 10000) (hs : ∀ p, oth (swapP p) = oth p) (l0 l1 l2 : List Int) (h0 : l0.length ≤ 1000) (h1 : l1.length ≤ 1000) (h2 : l2.length ≤ 1000) (hM0 : l1.length ≤ M ∧ l2.length ≤ M)
    (ho : ∀ p : P3, p.f0.length ≤ l0.length → p.f1.length ≤ l1.length → p.f2.length ≤ l2.length → ((oth p).getD []).length ≤ M) :
    ∃ x y o ps res, Division (divL l0 l1 l2 l0) (divL l0 l1 l2 l1) (divL l0 l1 l2 l2) x y o ps ∧ joinA (mgS oth) ps o [] = some res ∧ res.1.length ≤ 100000000 ∧ Ev (fun K => joinF K oth l0 l1 l2) res ∧ Ev (fun K => joinF K oth l0 l2 l1) res := by
  obtain ⟨x, y, o, ps, e1, e2, D⟩ := div_ev l0 l1 l2 h0 h1 h2
  have d0 := divL_len l0 l1 l2 l0
  have d1 := divL_len l0 l1 l2 l1
  have d2 := divL_len l0 l1 l2 l2
  have hol := D.ob.length_le
  have hlen := D.len
  obtain ⟨res, hr, hb⟩ := joinA_some (mg := mgS oth) hM ps o [] (fun p hp => by
    obtain ⟨s0, s1, s2⟩ := D.small p hp
    refine ⟨decide_eq_true ⟨by omega, by omega, by omega⟩, ?_⟩
    unfold mgS
    cases hm : mergedS p with
    | none => exact ho p (by omega) (by omega) (by omega)
    | some l =>
      have := mergedS_len p M (by omega) (by omega)
      rw [hm] at this
      exact this) (by
    have : ps.length * (M + 1) ≤ 1001 * 10001 := Nat.mul_le_mul (by omega) (by omega)
    simp
    omega)
  have hb2 : ps.length * (M + 1) ≤ 1001 * 10001 := Nat.mul_le_mul (by omega) (by omega)
  refine ⟨x, y, o, ps, res, D, hr, by simp at hb; omega, ?_, ?_⟩
  · unfold joinF
    refine e1.bind ?_
    simp only [hr]
    exact Ev.now _
  · unfold joinF
    refine e2.bind ?_
    simp only [joinA_swap (mgS_swap hs), hr]
    exact Ev.now _
end Go.Proofs.Ytdbgdkbpamekpaa.Pure
