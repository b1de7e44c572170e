/- ChangeIndependent returns true: proved here by steps through the program's text; no condition but those that stand in each theorem. -/
import Derived.WalkSpells
import Derived.Test.YtcfjdehpbckomaaQ0
import Derived.Test.YtcfjdehpbckomaaQ15
import Derived.Test.YtcfjdehpbckomaaQ8
import Derived.Test.YtcfjdehpbckomaaQ11
import Derived.Test.YtcfjdehpbckomaaQ12
import Derived.Test.YtcfjdehpbckomaaQ14
import Derived.Test.YtcfjdehpbckomaaQ5
import Derived.Test.YtcfjdehpbckomaaQ6
import Derived.Test.YtcfjdehpbckomaaQ4
import Derived.Test.YtcfjdehpbckomaaQ7
namespace Go.Proofs.Ytcfjdehpbckomaa.RL
set_option linter.unusedVariables false
open Go.RowKit Go.Proofs.YtcfjdehpbckomaaW.dS Go.Proofs.YtcfjdehpbckomaaW.jm Go.Proofs.YtcfjdehpbckomaaW.mm Go.Proofs.Ytcfjdehpbckomaa.Q
attribute [local go_sem] mU na nt mX m6 nu mP mW
theorem Ev.pos {α : Type} {c : Prop} [Decidable c] {A B : Nat → Option α} {r : α} (h : c) (k : Ev A r) : Ev (fun n => if c then A n else B n) r := by simpa only [if_pos h] using k
theorem Ev.neg {α : Type} {c : Prop} [Decidable c] {A B : Nat → Option α} {r : α} (h : ¬ c) (k : Ev B r) : Ev (fun n => if c then A n else B n) r := by simpa only [if_neg h] using k
theorem Ev.cast {α : Type} {g : Nat → Option α} {r r' : α} (h : r = r') (k : Ev g r) : Ev g r' := h ▸ k
theorem Ev.known {α β : Type} {o : Option α} {f : Nat → α → Option β} {a : α} {r : β} (h : o = some a) (k : Ev (fun n => f n a) r) : Ev (fun n => o.bind (f n)) r := by subst h; exact k
set_option maxRecDepth 100000 in
theorem Z8 : lQ.g = some true := by decide +kernel
theorem afV : lQ.f = some true := by unfold lQ.f; rw [if_pos Z8]
theorem Uu : Ev (fun _ => (lQ.f).bind fun t => some t) true := by rw [afV]; exact Ev.now true
theorem lM {i n : Nat} (h : i < n) (hn : n ≤ 140737488351232) : wrap64 ((i : Int) + 1) = ((i + 1 : Nat) : Int) := by unfold wrap64; omega
theorem A_ {l : List Int} {i : Nat} (h : i < l.length) : rd l (i : Int) = l[i] := by simp [rd, List.getD_eq_getElem?_getD, List.getElem?_eq_getElem h]
theorem H9 {l : List aw} {i : Nat} (h : i < l.length) : aq l (i : Int) = l[i] := by simp [aq, List.getD_eq_getElem?_getD, List.getElem?_eq_getElem h]
def mv (c d : aw) : Bool := decide (c.f0 = d.f0) && ph c.f1 d.f1
theorem Kt (a : Int) : ∀ l : List Int, (kK a l).length ≤ l.length + 1
  | [] => by simp [kK]
  | b :: l => by
    rw [kK]
    split
    · simp
    · split
      · simp
      · have := Kt a l
        simp only [List.length_cons]
        omega
def ox (c : aw) (y : List aw) (out : List Int) : List Int := y.foldl (fun o d => if mv c d = true then kK c.f0 o else o) out
def ou (x y : List aw) (out : List Int) : List Int := x.foldl (fun o c => ox c y o) out
theorem NI (c : aw) : ∀ (y : List aw) (out : List Int), (ox c y out).length ≤ out.length + y.length
  | [], out => by simp [ox]
  | d :: y, out => by
    have := NI c y (if mv c d = true then kK c.f0 out else out)
    simp only [ox, List.foldl_cons, List.length_cons] at this ⊢
    have h2 : (if mv c d = true then kK c.f0 out else out).length ≤ out.length + 1 := by
      split
      · exact Kt _ _
      · omega
    omega
theorem Yj (c : aw) : ∀ (y : List aw) (out : List Int), out.Pairwise (· < ·) → (ox c y out).Pairwise (· < ·)
  | [], out, h => h
  | d :: y, out, h => by
    refine Yj c y (if mv c d = true then kK c.f0 out else out) ?_
    split
    · exact PP _ _ h
    · exact h
theorem Ku (y : List aw) : ∀ (x : List aw) (out : List Int), out.Pairwise (· < ·) → (ou x y out).Pairwise (· < ·)
  | [], out, h => h
  | c :: x, out, h => Ku y x _ (Yj c y out h)
theorem Y8 (c : aw) (a : Int) : ∀ (y : List aw) (out : List Int), a ∈ ox c y out ↔ a ∈ out ∨ (a = c.f0 ∧ ∃ d ∈ y, mv c d = true)
  | [], out => by simp [ox]
  | d :: y, out => by
    have h := Y8 c a y (if mv c d = true then kK c.f0 out else out)
    have e : ox c (d :: y) out = ox c y (if mv c d = true then kK c.f0 out else out) := rfl
    rw [e, h]
    by_cases hc : mv c d = true
    · rw [if_pos hc, JY]
      constructor
      · rintro ((h | h) | ⟨h, z, hz, hz2⟩)
        · exact .inr ⟨h, d, by simp, hc⟩
        · exact .inl h
        · exact .inr ⟨h, z, List.mem_cons_of_mem _ hz, hz2⟩
      · rintro (h | ⟨h, _⟩)
        · exact .inl (.inr h)
        · exact .inl (.inl h)
    · rw [if_neg hc]
      constructor
      · rintro (h | ⟨h, z, hz, hz2⟩)
        · exact .inl h
        · exact .inr ⟨h, z, List.mem_cons_of_mem _ hz, hz2⟩
      · rintro (h | ⟨h, z, hz, hz2⟩)
        · exact .inl h
        · rcases List.mem_cons.1 hz with rfl | hz
          · exact absurd hz2 hc
          · exact .inr ⟨h, z, hz, hz2⟩
theorem IW (y : List aw) (a : Int) : ∀ (x : List aw) (out : List Int), a ∈ ou x y out ↔ a ∈ out ∨ ∃ c ∈ x, a = c.f0 ∧ ∃ d ∈ y, mv c d = true
  | [], out => by simp [ou]
  | c :: x, out => by
    have e : ou (c :: x) y out = ou x y (ox c y out) := rfl
    rw [e, IW y a x, Y8]
    constructor
    · rintro ((h | h) | ⟨z, hz, h⟩)
      · exact .inl h
      · exact .inr ⟨c, by simp, h⟩
      · exact .inr ⟨z, List.mem_cons_of_mem _ hz, h⟩
    · rintro (h | ⟨z, hz, h⟩)
      · exact .inl (.inl h)
      · rcases List.mem_cons.1 hz with rfl | hz
        · exact .inl (.inr h)
        · exact .inr ⟨z, hz, h⟩
theorem MC (x : List aw) (a f : Int) : ∀ n, n ≤ x.length → (f ∈ (cK (jG x n) a).getD [] ↔ ∃ i, ∃ h : i < x.length, i < n ∧ x[i].f0 = a ∧ x[i].f1 = f)
  | 0, _ => by simp [jG, cK]
  | n + 1, hn => by
    have hx : x.getD n pq = x[n] := by rw [List.getD_eq_getElem?_getD, List.getElem?_eq_getElem (by omega), Option.getD_some]
    have ih := MC x a f n (by omega)
    rw [jG, hx, sh]
    by_cases e : a = x[n].f0
    · rw [if_pos e, Option.getD_some, List.mem_append, List.mem_singleton, ← e, ih]
      constructor
      · rintro (⟨i, h, h1, h2⟩ | h)
        · exact ⟨i, h, by omega, h2⟩
        · exact ⟨n, by omega, by omega, e.symm, h.symm⟩
      · rintro ⟨i, h, h1, h2, h3⟩
        by_cases hin : i = n
        · subst hin; exact .inr h3.symm
        · exact .inl ⟨i, h, by omega, h2, h3⟩
    · rw [if_neg e, ih]
      constructor
      · rintro ⟨i, h, h1, h2⟩
        exact ⟨i, h, by omega, h2⟩
      · rintro ⟨i, h, h1, h2, h3⟩
        have : i ≠ n := by rintro rfl; exact e h2.symm
        exact ⟨i, h, by omega, h2, h3⟩
theorem VH (G : List (Int × List Int)) (y : List aw) (a : Int) : ∀ n, n ≤ y.length → (a ∈ lm G y n ↔ ∃ i, ∃ h : i < y.length, i < n ∧ y[i].f0 = a ∧ ((cK G a).getD []).any (fun f => ph f y[i].f1) = true)
  | 0, _ => by simp [lm]
  | n + 1, hn => by
    have hy : y.getD n pq = y[n] := by rw [List.getD_eq_getElem?_getD, List.getElem?_eq_getElem (by omega), Option.getD_some]
    have ih := VH G y a n (by omega)
    have step : (∃ i, ∃ h : i < y.length, i < n + 1 ∧ y[i].f0 = a ∧ ((cK G a).getD []).any (fun f => ph f y[i].f1) = true) ↔ (a ∈ lm G y n ∨ (y[n].f0 = a ∧ ((cK G a).getD []).any (fun f => ph f y[n].f1) = true)) := by
      rw [ih]
      constructor
      · rintro ⟨i, h, h1, h2, h3⟩
        by_cases hin : i = n
        · subst hin; exact .inr ⟨h2, h3⟩
        · exact .inl ⟨i, h, by omega, h2, h3⟩
      · rintro (⟨i, h, h1, h2⟩ | h)
        · exact ⟨i, h, by omega, h2⟩
        · exact ⟨n, by omega, by omega, h⟩
    rw [step, lm, hy]
    by_cases hc : ((cK G y[n].f0).getD []).any (fun f => ph f y[n].f1) = true
    · rw [if_pos hc]
      by_cases hm : y[n].f0 ∈ lm G y n
      · rw [if_pos hm]
        constructor
        · exact .inl
        · rintro (h | ⟨h, _⟩)
          · exact h
          · rw [← h]; exact hm
      · rw [if_neg hm, List.mem_append, List.mem_singleton]
        constructor
        · rintro (h | h)
          · exact .inl h
          · exact .inr ⟨h.symm, by rw [h]; exact hc⟩
        · rintro (h | ⟨h, _⟩)
          · exact .inl h
          · exact .inr h.symm
    · rw [if_neg hc]
      constructor
      · exact .inl
      · rintro (h | ⟨h, h2⟩)
        · exact h
        · rw [← h] at h2; exact absurd h2 hc
theorem ada (x y : List aw) : mh (lm (jG x x.length) y y.length) = ou x y [] := by
  refine Kb (AZ _) (Ku y x [] List.Pairwise.nil) (fun a => ?_)
  rw [zc, VH _ _ _ _ (Nat.le_refl _), IW]
  constructor
  · rintro ⟨i, h, _, h1, h2⟩
    obtain ⟨f, hf, ho⟩ := List.any_eq_true.1 h2
    obtain ⟨j, hj, _, h3, h4⟩ := (MC x a f x.length (Nat.le_refl _)).1 hf
    refine .inr ⟨x[j], List.getElem_mem hj, h3.symm, y[i], List.getElem_mem h, ?_⟩
    unfold mv
    rw [h3, h1, h4, decide_eq_true rfl, ho]
    rfl
  · rintro (h | ⟨c, hc, rfl, d, hd, hcl⟩)
    · cases h
    · obtain ⟨j, hj, rfl⟩ := List.getElem_of_mem hc
      obtain ⟨i, hi, rfl⟩ := List.getElem_of_mem hd
      unfold mv at hcl
      rw [Bool.and_eq_true, decide_eq_true_eq] at hcl
      refine ⟨i, hi, hi, hcl.1.symm, List.any_eq_true.2 ⟨x[j].f1, ?_, hcl.2⟩⟩
      exact (MC x _ _ x.length (Nat.le_refl _)).2 ⟨j, hj, hj, rfl, rfl⟩
theorem ahz (y : List aw) : ∀ (x : List aw) (out : List Int), (ou x y out).length ≤ out.length + x.length * y.length
  | [], out => by simp [ou]
  | c :: x, out => by
    have e : ou (c :: x) y out = ou x y (ox c y out) := rfl
    have h1 := ahz y x (ox c y out)
    have h2 := NI c y out
    rw [e, List.length_cons, Nat.add_mul]
    omega
theorem Zn (c d : aw) : xu.f c.f0 c.f1 d.f0 d.f1 = some (mv c d) := by
  unfold xu.f mv ph
  by_cases h : c.f0 = d.f0
  · rw [if_pos h, decide_eq_true h, Bool.true_and]
    by_cases h2 : c.f1 = d.f1
    · rw [if_pos h2, if_pos h2]
      by_cases h3 : c.f1 = 1
      · rw [if_pos h3, decide_eq_false (fun z => z h3)]; rfl
      · rw [if_neg h3, decide_eq_true h3, Bool.true_and]
        congr 1
        by_cases h4 : c.f1 = 2 <;> simp [h4]
    · rw [if_neg h2, if_neg h2]
      by_cases h3 : c.f1 = 2
      · rw [if_pos h3, decide_eq_true h3]; rfl
      · rw [if_neg h3, decide_eq_false h3, Bool.false_or]
        rfl
  · rw [if_neg h, decide_eq_false h]; rfl
theorem UU (l : List Int) (n : Int) (hl : l.length ≤ 1000000) : ∀ (d i : Nat) (out : List Int), i + d = l.length → out.length ≤ i + 1 → Ev (fun k => d6.l0 k l n out true (i : Int)) (out ++ l.drop i) := by
  intro d
  induction d with
  | zero =>
    intro i out hi ho
    refine Ev.step (fun k => by rw [d6.l0]) (Ev.neg (by omega) (Ev.pos rfl ?_))
    rw [List.drop_of_length_le (by omega), List.append_nil]
    exact Ev.now _
  | succ d ih =>
    intro i out hi ho
    have h : i < l.length := by omega
    refine Ev.step (fun k => by rw [d6.l0]) (Ev.pos (by omega) (Ev.pos rfl ?_))
    refine Ev.step (fun k => by rw [d6.j1]) (Ev.neg (by simp) (Ev.pos (by omega) (Ev.pos (by omega) (Ev.pos (by omega) ?_))))
    rw [A_ h, lM h (by omega)]
    refine Ev.cast ?_ (ih (i + 1) (out ++ [l[i]]) (by omega) (by simp; omega))
    rw [List.drop_eq_getElem_cons h, List.append_assoc]
    rfl
theorem aeI (l : List Int) (n : Int) (hl : l.length ≤ 1000000) : ∀ (d i : Nat) (out : List Int), i + d = l.length → out.length ≤ i → Ev (fun k => d6.l0 k l n out false (i : Int)) (out ++ kK n (l.drop i)) := by
  intro d
  induction d with
  | zero =>
    intro i out hi ho
    refine Ev.step (fun k => by rw [d6.l0]) (Ev.neg (by omega) (Ev.neg (by simp) (Ev.pos (by omega) ?_)))
    rw [List.drop_of_length_le (by omega)]
    exact Ev.now _
  | succ d ih =>
    intro i out hi ho
    have h : i < l.length := by omega
    refine Ev.step (fun k => by rw [d6.l0]) (Ev.pos (by omega) (Ev.neg (by simp) (Ev.pos (by omega) ?_)))
    rw [A_ h, List.drop_eq_getElem_cons h]
    by_cases c : n ≤ l[i]
    · rw [decide_eq_true c]
      refine Ev.step (fun k => by rw [d6.j1]) ?_
      refine Ev.pos rfl (Ev.pos (by omega) (Ev.known rfl (Ev.pos (by omega) (Ev.pos (by omega) ?_))))
      rw [A_ h, lM h (by omega)]
      by_cases e : n = l[i]
      · refine Ev.pos e (Ev.cast ?_ (UU l n hl d (i + 1) (out ++ [n]) (by omega) (by simp; omega)))
        rw [kK, if_neg (by omega), if_pos e, List.append_assoc, e]
        rfl
      · refine Ev.neg e (Ev.pos (by simp; omega) (Ev.cast ?_ (UU l n hl d (i + 1) (out ++ [n] ++ [l[i]]) (by omega) (by simp; omega))))
        rw [kK, if_pos (by omega), List.append_assoc, List.append_assoc]
        rfl
    · rw [decide_eq_false c]
      refine Ev.step (fun k => by rw [d6.j1]) (Ev.neg (by simp) (Ev.pos (by omega) (Ev.pos (by omega) (Ev.pos (by omega) ?_))))
      rw [A_ h, lM h (by omega)]
      refine Ev.cast ?_ (ih (i + 1) (out ++ [l[i]]) (by omega) (by simp; omega))
      rw [kK, if_neg (by omega), if_neg (by omega), List.append_assoc]
      rfl
theorem acw (l : List Int) (n : Int) (hl : l.length ≤ 1000000) : Ev (fun k => d6.f k l n) (kK n l) := by
  unfold d6.f
  exact Ev.cast (by simp) (aeI l n hl l.length 0 [] (by omega) (by simp))
theorem aiZ (x y : List aw) (hx : x.length ≤ 500) (hy : y.length ≤ 500) (i : Nat) (hi : i < x.length) (R : List Int) : ∀ (d j : Nat) (out : List Int), j + d = y.length → out.length ≤ 500 * i + j → Ev (fun k => ec.l0 k x y (ox x[i] (y.drop j) out) ((i + 1 : Nat) : Int)) R → Ev (fun k => ec.l1 k x y out (i : Int) (j : Int)) R := by
  intro d
  induction d with
  | zero =>
    intro j out hj ho hR
    refine Ev.step (fun k => by rw [ec.l1]) (Ev.neg (by omega) ?_)
    rw [lM hi (by omega)]
    rw [List.drop_of_length_le (by omega)] at hR
    exact hR
  | succ d ih =>
    intro j out hj ho hR
    have h : j < y.length := by omega
    refine Ev.step (fun k => by rw [ec.l1]) (Ev.pos (by omega) (Ev.pos (by omega) (Ev.pos (by omega) (Ev.pos (by omega) ?_))))
    rw [H9 hi, H9 h]
    refine Ev.known (Zn _ _) ?_
    rw [lM h (by omega)]
    rw [List.drop_eq_getElem_cons h] at hR
    by_cases c : mv x[i] y[j] = true
    · refine Ev.pos c ((acw out x[i].f0 (by omega)).bind (ih (j + 1) _ (by omega) (by have := Kt x[i].f0 out; omega) ?_))
      simpa only [ox, List.foldl_cons, if_pos c] using hR
    · refine Ev.neg c (ih (j + 1) _ (by omega) (by omega) ?_)
      simpa only [ox, List.foldl_cons, if_neg c] using hR
theorem adX (x y : List aw) (hx : x.length ≤ 500) (hy : y.length ≤ 500) : ∀ (d i : Nat) (out : List Int), i + d = x.length → out.length ≤ 500 * i → Ev (fun k => ec.l0 k x y out (i : Int)) (ou (x.drop i) y out) := by
  intro d
  induction d with
  | zero =>
    intro i out hi ho
    refine Ev.step (fun k => by rw [ec.l0]) (Ev.neg (by omega) ?_)
    rw [List.drop_of_length_le (by omega)]
    exact Ev.now _
  | succ d ih =>
    intro i out hi ho
    have h : i < x.length := by omega
    refine Ev.step (fun k => by rw [ec.l0]) (Ev.pos (by omega) ?_)
    refine aiZ x y hx hy i h _ y.length 0 out (by omega) (by omega) ?_
    rw [List.drop_eq_getElem_cons h, List.drop_zero]
    exact ih (i + 1) _ (by omega) (by have := NI x[i] y out; omega)
theorem aiF (x y : List aw) (hx : x.length ≤ 500) (hy : y.length ≤ 500) : Ev (fun k => ec.f k x y) (ou x y []) := by
  unfold ec.f
  exact adX x y hx hy x.length 0 [] (by omega) (by simp)
theorem an3 {a : Int} (h : (Lit.int .i64 a).wf = true) : vK a = true := by
  have h1 : IntKind.i64.min = -9223372036854775808 := by decide
  have h2 : IntKind.i64.max = 9223372036854775807 := by decide
  simp only [Lit.wf, h1, h2, Bool.and_eq_true, decide_eq_true_eq] at h
  unfold vK
  simp only [Bool.and_eq_true, decide_eq_true_eq]
  omega
theorem agU (x y : List aw) (hx : x.length ≤ 10000000) (hy : y.length ≤ 10000000) (hw : ∀ c ∈ y, vK c.f0 = true) : mf.f x y = some (ou x y []) := by
  unfold mf.f
  rw [ada, decide_eq_true hx, decide_eq_true hy, (List.all_eq_true.2 hw : y.all (fun c => vK c.f0) = true)]
  rfl
theorem IN (l : List aX) (i : Nat) (h : i < l.length) : dp l (i : Int) = l[i] := by
  unfold dp
  simp [List.getD_eq_getElem?_getD, List.getElem?_eq_getElem h]
theorem axH (y : aX) : (⟨y.f0, y.f1, y.f2, y.f3⟩ : aX) = y := by cases y; rfl
theorem TF (l : List aX) (i : Nat) (h : i < l.length) : cz (l.drop i) = fz l[i] ++ cz (l.drop (i + 1)) := by
  rw [List.drop_eq_getElem_cons h, cz]
theorem aaK (x : aX) : ∀ y ∈ fz x, (fz y).length ≤ (fz x).length ∧ ∀ z ∈ fz y, z ∈ fz x := by
  induction x using s9 with
  | h x ih =>
  intro y hy
  rw [l5 x, List.mem_cons] at hy
  rcases hy with rfl | hy
  · exact ⟨Nat.le_refl _, fun z hz => hz⟩
  · have key : ∀ l : List aX, (∀ v ∈ l, v ∈ x.f3) → y ∈ cz l → (fz y).length ≤ (cz l).length ∧ ∀ z ∈ fz y, z ∈ cz l := by
      intro l
      induction l with
      | nil => intro _ h; simp [cz] at h
      | cons v l ihl =>
        intro hv h
        rw [cz, List.mem_append] at h
        rcases h with h | h
        · obtain ⟨h1, h2⟩ := ih v (hv v (by simp)) y h
          rw [cz, List.length_append]
          exact ⟨by omega, fun z hz => List.mem_append.2 (Or.inl (h2 z hz))⟩
        · obtain ⟨h1, h2⟩ := ihl (fun u hu => hv u (by simp [hu])) h
          rw [cz, List.length_append]
          exact ⟨by omega, fun z hz => List.mem_append.2 (Or.inr (h2 z hz))⟩
    obtain ⟨h1, h2⟩ := key x.f3 (fun v hv => hv) hy
    rw [l5 x, List.length_cons]
    exact ⟨by omega, fun z hz => List.mem_cons_of_mem _ (h2 z hz)⟩
theorem akn {x y : aX} (h : y ∈ x.f3) : y ∈ fz x := by
  rw [l5]
  refine List.mem_cons_of_mem _ ?_
  generalize x.f3 = l at h
  induction l with
  | nil => simp at h
  | cons v l ih =>
    rw [cz, List.mem_append]
    rcases List.mem_cons.1 h with rfl | h
    · exact Or.inl (by rw [l5]; simp)
    · exact Or.inr (ih h)
theorem abn (x : aX) : ∀ (n v : Int), n ≤ 1000 → v ≤ 1000 → ∃ r, Ev (fun k => d9.f k x.f0 x.f1 x.f2 x.f3 n v) r ∧ (0 ≤ r → ((fz x).length : Int) + r = n) := by
  induction x using s9 with
  | h x ih =>
  intro n v hn hv
  have bad : ∃ r, Ev (fun k => d9.j0 k n v true x.f0 x.f1 x.f2 x.f3) r ∧ (0 ≤ r → ((fz x).length : Int) + r = n) := ⟨-1, Ev.step (fun k => by rw [d9.j0, if_pos rfl]) (Ev.now _), fun h => by omega⟩
  by_cases h1 : n < 1
  · obtain ⟨r, e, q⟩ := bad
    exact ⟨r, Ev.step (fun k => by rw [d9.f, if_pos h1]) e, q⟩
  by_cases h2 : v < 1
  · obtain ⟨r, e, q⟩ := bad
    exact ⟨r, Ev.step (fun k => by rw [d9.f, if_neg h1, if_pos h2]) e, q⟩
  by_cases h3 : (x.f3.length : Int) > n
  · obtain ⟨r, e, q⟩ := bad
    exact ⟨r, Ev.step (fun k => by rw [d9.f, if_neg h1, if_neg h2, decide_eq_true h3]) e, q⟩
  have wn : wrap64 (n - 1) = n - 1 := by unfold wrap64; omega
  have wv : wrap64 (v - 1) = v - 1 := by unfold wrap64; omega
  have loop : ∀ (g i : Nat) (m : Int), i + g = x.f3.length → 0 ≤ m → m ≤ 1000 → ∃ r, Ev (fun k => d9.l0 k v m (i : Int) x.f0 x.f1 x.f2 x.f3) r ∧ (0 ≤ r → ((cz (x.f3.drop i)).length : Int) + r = m) := by
    intro g
    induction g with
    | zero =>
      intro i m hi _ _
      refine ⟨m, Ev.step (fun k => by rw [d9.l0, if_neg (by omega)]) (Ev.now _), fun _ => ?_⟩
      rw [List.drop_of_length_le (by omega), cz]
      simp
    | succ g F1 =>
      intro i m hi h0 hm
      have hil : i < x.f3.length := by omega
      have wu : wrap64 ((i : Int) + 1) = ((i + 1 : Nat) : Int) := by unfold wrap64; omega
      obtain ⟨r, e, q⟩ := ih x.f3[i] (List.getElem_mem hil) m (v - 1) hm (by omega)
      by_cases hr : r < 0
      · exact ⟨-1, Ev.step (fun k => by rw [d9.l0, if_pos (by omega), if_pos (by omega), IN _ i hil, wv]) (e.bind (Ev.pos hr (Ev.now _))), fun h => by omega⟩
      · obtain ⟨r2, e2, q2⟩ := F1 (i + 1) r (by omega) (by omega) (by have := q (by omega); omega)
        refine ⟨r2, Ev.step (fun k => by rw [d9.l0, if_pos (by omega), if_pos (by omega), IN _ i hil, wv, wu]) (e.bind (Ev.neg hr e2)), fun h => ?_⟩
        rw [TF _ i hil, List.length_append]
        have := q (by omega)
        have := q2 h
        omega
  obtain ⟨r, e, q⟩ := loop x.f3.length 0 (n - 1) (by omega) (by omega) (by omega)
  have e1 : Ev (fun k => d9.j0 k n v false x.f0 x.f1 x.f2 x.f3) r := Ev.step (fun k => by rw [d9.j0, if_neg (by decide), wn]; rfl) e
  refine ⟨r, Ev.step (fun k => by rw [d9.f, if_neg h1, if_neg h2, decide_eq_false h3]) e1, fun h => ?_⟩
  have := q h
  rw [List.drop_zero] at this
  rw [l5, List.length_cons]
  omega
def FC (y : aX) : Prop := y.f1.size ≤ 1000 ∧ y.f2.length ≤ 1000
theorem ahk (x : aX) : (fz x).length ≤ 100 → ∀ (b : Int), b ≤ 1000 → ∃ r, Ev (fun k => df.f k x.f0 x.f1 x.f2 x.f3 b) r ∧ (0 ≤ r → r ≤ b ∧ ∀ y ∈ fz x, FC y) := by
  induction x using s9 with
  | h x ih =>
  intro hx b hb
  have hk : x.f3.length ≤ 100 := by
    have h2 := JS x.f3
    rw [l5, List.length_cons] at hx
    omega
  have bad : ∃ r, Ev (fun k => df.j0 k b true x.f0 x.f1 x.f2 x.f3) r ∧ (0 ≤ r → r ≤ b ∧ ∀ y ∈ fz x, FC y) := ⟨-1, Ev.step (fun k => by rw [df.j0, if_pos rfl]) (Ev.now _), fun h => by omega⟩
  by_cases h1 : (x.f1.size : Int) > b
  · obtain ⟨r, e, q⟩ := bad
    exact ⟨r, Ev.step (fun k => by rw [df.f, if_pos h1]) e, q⟩
  by_cases h2 : (x.f2.length : Int) > b
  · obtain ⟨r, e, q⟩ := bad
    exact ⟨r, Ev.step (fun k => by rw [df.f, if_neg h1, decide_eq_true h2]) e, q⟩
  have ahp : ∀ (g i : Nat) (m : Int), i + g = x.f3.length → 0 ≤ m → m ≤ b → ∃ r, Ev (fun k => df.l1 k m (i : Int) x.f0 x.f1 x.f2 x.f3) r ∧ (0 ≤ r → r ≤ b ∧ ∀ y ∈ cz (x.f3.drop i), FC y) := by
    intro g
    induction g with
    | zero =>
      intro i m hi _ hm
      refine ⟨m, Ev.step (fun k => by rw [df.l1, if_neg (by omega)]) (Ev.now _), fun _ => ⟨hm, ?_⟩⟩
      rw [List.drop_of_length_le (by omega), cz]
      simp
    | succ g F1 =>
      intro i m hi h0 hm
      have hil : i < x.f3.length := by omega
      have wu : wrap64 ((i : Int) + 1) = ((i + 1 : Nat) : Int) := by unfold wrap64; omega
      obtain ⟨r, e, q⟩ := ih x.f3[i] (List.getElem_mem hil) (Nat.le_trans (aaK x _ (akn (List.getElem_mem hil))).1 hx) m (by omega)
      by_cases hr : r < 0
      · exact ⟨-1, Ev.step (fun k => by rw [df.l1, if_pos (by omega), if_pos (by omega), IN _ i hil]) (e.bind (Ev.pos hr (Ev.now _))), fun h => by omega⟩
      · obtain ⟨q1, q3⟩ := q (by omega)
        obtain ⟨r2, e2, q2⟩ := F1 (i + 1) r (by omega) (by omega) (by omega)
        refine ⟨r2, Ev.step (fun k => by rw [df.l1, if_pos (by omega), if_pos (by omega), IN _ i hil, wu]) (e.bind (Ev.neg hr e2)), fun h => ⟨(q2 h).1, fun y hy => ?_⟩⟩
        rw [TF _ i hil, List.mem_append] at hy
        rcases hy with hy | hy
        · exact q3 y hy
        · exact (q2 h).2 y hy
  have aa2 : ∀ (g i : Nat) (m : Int), i + g = x.f2.length → 0 ≤ m → m ≤ b → ∃ r, Ev (fun k => df.l0 k m (i : Int) x.f0 x.f1 x.f2 x.f3) r ∧ (0 ≤ r → r ≤ b ∧ ∀ y ∈ cz x.f3, FC y) := by
    intro g
    induction g with
    | zero =>
      intro i m hi h0 hm
      obtain ⟨r, e, q⟩ := ahp x.f3.length 0 m (by omega) h0 hm
      exact ⟨r, Ev.step (fun k => by rw [df.l0, if_neg (by omega)]; rfl) e, by rwa [List.drop_zero] at q⟩
    | succ g F1 =>
      intro i m hi h0 hm
      have hil : i < x.f2.length := by omega
      have wu : wrap64 ((i : Int) + 1) = ((i + 1 : Nat) : Int) := by unfold wrap64; omega
      by_cases hz : ((eY ByteArray.empty x.f2 (i : Int)).size : Int) ≥ m
      · exact ⟨-1, Ev.step (fun k => by rw [df.l0, if_pos (by omega), if_pos (by omega), if_pos hz]) (Ev.now _), fun h => by omega⟩
      · have w1 : wrap64 (m - ((eY ByteArray.empty x.f2 (i : Int)).size : Int)) = m - ((eY ByteArray.empty x.f2 (i : Int)).size : Int) := by unfold wrap64; omega
        have w2 : wrap64 (m - ((eY ByteArray.empty x.f2 (i : Int)).size : Int) - 1) = m - ((eY ByteArray.empty x.f2 (i : Int)).size : Int) - 1 := by unfold wrap64; omega
        obtain ⟨r, e, q⟩ := F1 (i + 1) (m - ((eY ByteArray.empty x.f2 (i : Int)).size : Int) - 1) (by omega) (by omega) (by omega)
        exact ⟨r, Ev.step (fun k => by rw [df.l0, if_pos (by omega), if_pos (by omega), if_neg hz, w1, w2, wu]) e, q⟩
  have ws : wrap64 (b - (x.f1.size : Int)) = b - (x.f1.size : Int) := by unfold wrap64; omega
  obtain ⟨r, e, q⟩ := aa2 x.f2.length 0 (b - (x.f1.size : Int)) (by omega) (by omega) (by omega)
  have e1 : Ev (fun k => df.j0 k b false x.f0 x.f1 x.f2 x.f3) r := Ev.step (fun k => by rw [df.j0, if_neg (by decide), ws]; rfl) e
  refine ⟨r, Ev.step (fun k => by rw [df.f, if_neg h1, decide_eq_false h2]) e1, fun h => ⟨(q h).1, fun y hy => ?_⟩⟩
  rw [l5, List.mem_cons] at hy
  rcases hy with rfl | hy
  · exact ⟨by omega, by omega⟩
  · exact (q h).2 y hy
def j5 (x : aX) : Prop := (fz x).length ≤ 60 ∧ ∀ y ∈ fz x, FC y
theorem ZR (x : aX) : ∃ b, Ev (fun k => qe.f k x.f0 x.f1 x.f2 x.f3 60 60 1000) b ∧ (b = true → j5 x) := by
  unfold qe.f ql.f
  obtain ⟨r, e, q⟩ := abn x 60 60 (by omega) (by omega)
  have eF : Ev (fun k => (d9.f k x.f0 x.f1 x.f2 x.f3 60 60).bind fun t228 => some (decide (t228 ≥ 0))) (decide (r ≥ 0)) := e.bind (Ev.now _)
  by_cases h : r ≥ 0
  · obtain ⟨s, e2, q2⟩ := ahk x (by have := q h; omega) 1000 (by omega)
    refine ⟨decide (s ≥ 0), eF.bind (Ev.pos (decide_eq_true h) (e2.bind (Ev.now _))), fun hs => ?_⟩
    have hs := of_decide_eq_true hs
    exact ⟨by have := q h; omega, (q2 hs).2⟩
  · exact ⟨false, eF.bind (Ev.neg (by simp [h]) (Ev.now _)), fun h => by cases h⟩
theorem XX (c d : aw) : mv c d = mv d c := by
  unfold mv ph
  by_cases h : c.f0 = d.f0
  · rw [decide_eq_true h, decide_eq_true h.symm, Bool.true_and, Bool.true_and]
    by_cases e : c.f1 = d.f1
    · rw [if_pos e, if_pos e.symm, e]
    · rw [if_neg e, if_neg (fun z => e z.symm), Bool.or_comm]
  · rw [decide_eq_false h, decide_eq_false (show ¬ d.f0 = c.f0 from fun z => h z.symm), Bool.false_and, Bool.false_and]
theorem TE {c d : aw} (h : mv c d = true) : c.f0 = d.f0 := by
  unfold mv at h
  rw [Bool.and_eq_true, decide_eq_true_eq] at h
  exact h.1
theorem ahY (x y : List aw) : ou x y [] = ou y x [] := by
  refine Kb (Ku y x [] List.Pairwise.nil) (Ku x y [] List.Pairwise.nil) (fun a => ?_)
  rw [IW, IW]
  constructor
  · rintro (h | ⟨c, hc, rfl, d, hd, h⟩)
    · exact .inl h
    · exact .inr ⟨d, hd, TE h, c, hc, by rw [XX]; exact h⟩
  · rintro (h | ⟨c, hc, rfl, d, hd, h⟩)
    · exact .inl h
    · exact .inr ⟨d, hd, TE h, c, hc, by rw [XX]; exact h⟩
def ls (rows : List bC) (ids : List Int) (count : Int) (K : List (Int × Int)) (n : Nat) : Prop :=
  ∀ i, i < n → 0 ≤ ids.getD i 0 ∧ ids.getD i 0 < count ∧ (∀ j, j < i → ids.getD j 0 ≠ ids.getD i 0) ∧ (ids.getD i 0 = 0 → i = 0) ∧ (cK K (ids.getD i 0) = none ∨ cK K (ids.getD i 0) = some (rows.getD i z70).f1)
structure AgS (rows : List bC) (ids : List Int) (K : List (Int × Int)) (n : Nat) (seen : List (Int × Bool)) (K' : List (Int × Int)) : Prop where
  s : ∀ a, (cK seen a).getD false = true ↔ ∃ i, i < n ∧ ids.getD i 0 = a
  h : ∀ i, i < n → cK K' (ids.getD i 0) = some (rows.getD i z70).f1
  o : ∀ a, (∀ i, i < n → ids.getD i 0 ≠ a) → cK K' a = cK K a
theorem zR (rows : List bC) (ids : List Int) (count : Int) (K : List (Int × Int)) : ∀ n, ((gI rows ids count K n).1 = true ↔ ls rows ids count K n) ∧ (ls rows ids count K n → AgS rows ids K n (gI rows ids count K n).2.1 (gI rows ids count K n).2.2)
  | 0 => ⟨⟨fun _ i hi => absurd hi (Nat.not_lt_zero i), fun _ => rfl⟩, fun _ => ⟨fun a => ⟨fun h => by simp [gI, cK] at h, fun ⟨i, hi, _⟩ => absurd hi (Nat.not_lt_zero i)⟩, fun i hi => absurd hi (Nat.not_lt_zero i), fun _ _ => rfl⟩⟩
  | n + 1 => by
    obtain ⟨h1, h2⟩ := zR rows ids count K n
    have down : ls rows ids count K (n + 1) → ls rows ids count K n := fun h i hi => h i (by omega)
    rw [gI]
    by_cases hok : (gI rows ids count K n).1 = false
    · rw [if_pos hok]
      have hn : ¬ ls rows ids count K n := fun h => by rw [h1.2 h] at hok; cases hok
      exact ⟨⟨fun h => (by rw [hok] at h; cases h), fun h => absurd (down h) hn⟩, fun h => absurd (down h) hn⟩
    · rw [if_neg hok]
      have hC : ls rows ids count K n := h1.1 (by simpa using hok)
      have hS := h2 hC
      by_cases hA : ids.getD n 0 < 0 ∨ count ≤ ids.getD n 0 ∨ (cK (gI rows ids count K n).2.1 (ids.getD n 0)).getD false = true
      · rw [if_pos hA]
        have hn : ¬ ls rows ids count K (n + 1) := fun h => by
          obtain ⟨b1, b2, b3, _⟩ := h n (by omega)
          rcases hA with hA | hA | hA
          · omega
          · omega
          · obtain ⟨i, hi, he⟩ := (hS.s _).1 hA
            exact b3 i hi he
        exact ⟨⟨fun h => (by cases h), fun h => absurd h hn⟩, fun h => absurd h hn⟩
      · rw [if_neg hA]
        have hne : ∀ i, i < n → ids.getD i 0 ≠ ids.getD n 0 := fun i hi he => hA (.inr (.inr ((hS.s _).2 ⟨i, hi, he⟩)))
        have hK := hS.o _ hne
        by_cases hB : (cK (gI rows ids count K n).2.2 (ids.getD n 0)).isSome = true ∧ (cK (gI rows ids count K n).2.2 (ids.getD n 0)).getD 0 ≠ (rows.getD n z70).f1
        · rw [if_pos hB]
          have hn : ¬ ls rows ids count K (n + 1) := fun h => by
            obtain ⟨_, _, _, _, b5⟩ := h n (by omega)
            rcases b5 with b | b <;> rw [hK, b] at hB
            · exact absurd hB.1 (by simp)
            · exact hB.2 rfl
          exact ⟨⟨fun h => (by cases h), fun h => absurd h hn⟩, fun h => absurd h hn⟩
        · rw [if_neg hB]
          dsimp only
          have hB2 : cK K (ids.getD n 0) = none ∨ cK K (ids.getD n 0) = some (rows.getD n z70).f1 := by
            rw [hK] at hB
            cases e : cK K (ids.getD n 0) with
            | none => exact .inl rfl
            | some v => exact .inr (by rw [e] at hB; exact congrArg some (Decidable.of_not_not fun z => hB ⟨rfl, z⟩))
          refine ⟨⟨fun h i hi => ?_, fun h => ?_⟩, fun h => ⟨fun a => ?_, fun i hi => ?_, fun a ha => ?_⟩⟩
          · by_cases e : i = n
            · subst e
              refine ⟨by omega, by omega, hne, fun z => ?_, hB2⟩
              rw [decide_eq_true z] at h
              simpa using h
            · exact hC i (by omega)
          · obtain ⟨_, _, _, b4, _⟩ := h n (by omega)
            by_cases z : ids.getD n 0 = 0
            · have e0 := b4 z
              subst e0
              simp
            · rw [decide_eq_false z]
              rfl
          · rw [sh]
            by_cases e : a = ids.getD n 0
            · rw [if_pos e]
              exact ⟨fun _ => ⟨n, by omega, e.symm⟩, fun _ => rfl⟩
            · rw [if_neg e, hS.s]
              exact ⟨fun ⟨i, hi, hx⟩ => ⟨i, by omega, hx⟩, fun ⟨i, hi, hx⟩ => ⟨i, by have : i ≠ n := (fun z => e (by rw [← hx, z])); omega, hx⟩⟩
          · rw [sh]
            by_cases e : i = n
            · rw [e, if_pos rfl]
            · rw [if_neg (hne i (by omega))]
              exact hS.h i (by omega)
          · rw [sh, if_neg (fun z => ha n (by omega) z.symm)]
            exact hS.o a (fun i hi => ha i (by omega))
theorem Hx {κ β : Type} [DecidableEq κ] (k : κ) (v : β) (l : List (κ × β)) (h : (l.map (fun p => p.1)).Nodup) : ((fG l k v).map (fun p => p.1)).Nodup := by
  rw [Iw]
  split
  · exact h
  · rename_i hk
    rw [List.nodup_append]
    exact ⟨h, by simp, fun a ha b hb e => hk (by rw [List.mem_singleton] at hb; rw [← hb, ← e]; exact ha)⟩
theorem T0 (rows : List bC) (ids : List Int) (count : Int) (K : List (Int × Int)) (h : (K.map (fun p => p.1)).Nodup) : ∀ n, ((gI rows ids count K n).2.2.map (fun p => p.1)).Nodup
  | 0 => h
  | n + 1 => by
    have ih := T0 rows ids count K h n
    rw [gI]
    split
    · exact ih
    · split
      · exact ih
      · split
        · exact ih
        · exact Hx _ _ _ ih
theorem X6 (rows : List bC) (ids : List Int) (count : Int) (K : List (Int × Int)) : ∀ n, (gI rows ids count K n).2.2.length ≤ K.length + n
  | 0 => Nat.le_refl _
  | n + 1 => by
    have ih := X6 rows ids count K n
    rw [gI]
    split
    · omega
    · split
      · exact Nat.le_trans ih (by omega)
      · split
        · exact Nat.le_trans ih (by omega)
        · exact Nat.le_trans (Jz _ _ _) (by omega)
theorem O_ (rows : List bC) : ∀ n, ((iV rows n).map (fun p => p.1)).Nodup
  | 0 => List.nodup_nil
  | n + 1 => by rw [iV]; exact Hx _ _ _ (O_ rows n)
theorem P2 (rows : List bC) : ∀ n, (iV rows n).length ≤ n
  | 0 => Nat.le_refl _
  | n + 1 => by rw [iV]; exact Nat.le_trans (Jz _ _ _) (by have := P2 rows n; omega)
theorem vZ {rows : List bC} {ids : List Int} {count : Int} {K : List (Int × Int)} {k0 k1 : Int} : oG rows ids count K k0 k1 = true ↔ rows.length = ids.length ∧ ls rows ids count K ids.length ∧ (ids.getD 0 0 = 0 ↔ k0 = k1) := by
  unfold oG
  by_cases h : rows.length = ids.length
  · rw [if_pos h, Bool.and_eq_true, (zR rows ids count K ids.length).1, beq_iff_eq, decide_eq_decide]
    exact ⟨fun ⟨a, b⟩ => ⟨h, a, b⟩, fun ⟨_, a, b⟩ => ⟨a, b⟩⟩
  · rw [if_neg h]
    exact ⟨fun z => (by cases z), fun z => absurd z.1 h⟩
theorem IP {rows : List bC} {ids : List Int} {count : Int} {K : List (Int × Int)} (h : rows.length = ids.length) : gT rows ids count K = (gI rows ids count K ids.length).2.2 := by unfold gT; rw [if_pos h]
theorem HD (rows : List bC) (ids : List Int) (count : Int) (K : List (Int × Int)) : (gT rows ids count K).length ≤ K.length + ids.length := by
  unfold gT
  split
  · exact X6 _ _ _ _ _
  · omega
theorem acE {Y U : List bC} {lf rt : List Int} {count : Int} {K : List (Int × Int)} (hY : Y.length = lf.length) (hU : U.length = rt.length)
    (hL : ls Y lf count K lf.length) (hR : ls U rt count (gT Y lf count K) rt.length) : ls U rt count K rt.length ∧ ls Y lf count (gT U rt count K) lf.length := by
  have sL := (zR Y lf count K lf.length).2 hL
  rw [IP hY] at hR
  have h0 : ls U rt count K rt.length := fun i hi => by
    obtain ⟨b1, b2, b3, b4, b5⟩ := hR i hi
    refine ⟨b1, b2, b3, b4, ?_⟩
    by_cases hj : ∃ j, j < lf.length ∧ lf.getD j 0 = rt.getD i 0
    · obtain ⟨j, hj, he⟩ := hj
      have k1 := sL.h j hj
      have k2 := (hL j hj).2.2.2.2
      rw [he] at k1 k2
      rw [k1] at b5
      rcases b5 with b5 | b5
      · cases b5
      · rw [b5] at k2; exact k2
    · rw [sL.o _ (fun j hj' he => hj ⟨j, hj', he⟩)] at b5
      exact b5
  have sR := (zR U rt count K rt.length).2 h0
  refine ⟨h0, fun i hi => ?_⟩
  obtain ⟨b1, b2, b3, b4, b5⟩ := hL i hi
  refine ⟨b1, b2, b3, b4, ?_⟩
  rw [IP hU]
  by_cases hj : ∃ j, j < rt.length ∧ rt.getD j 0 = lf.getD i 0
  · obtain ⟨j, hj, he⟩ := hj
    have k1 := sR.h j hj
    have k2 := (hR j hj).2.2.2.2
    rw [he] at k1 k2
    rw [sL.h i hi] at k2
    rcases k2 with k2 | k2
    · cases k2
    · rw [k1]; exact .inr k2.symm
  · rw [sR.o _ (fun j hj' he => hj ⟨j, hj', he⟩)]
    exact b5
theorem Cd (rows : List bC) (ids : List Int) (count : Int) (K : List (Int × Int)) (h : (K.map (fun p => p.1)).Nodup) : ((gT rows ids count K).map (fun p => p.1)).Nodup := by
  unfold gT
  split
  · exact T0 _ _ _ _ h _
  · exact h
theorem BK {rows : List bC} {ids : List Int} {count : Int} {K : List (Int × Int)} (hl : rows.length = ids.length) (h : ls rows ids count K ids.length) (a : Int) : a ∈ (gT rows ids count K).map (fun p => p.1) ↔ (a ∈ K.map (fun p => p.1) ∨ ∃ i, i < ids.length ∧ ids.getD i 0 = a) := by
  have s := (zR rows ids count K ids.length).2 h
  rw [IP hl]
  by_cases hj : ∃ i, i < ids.length ∧ ids.getD i 0 = a
  · refine ⟨fun _ => .inr hj, fun _ => ?_⟩
    obtain ⟨i, hi, rfl⟩ := hj
    refine Decidable.of_not_not fun z => ?_
    rw [← tq, s.h i hi] at z
    cases z
  · have e := s.o a (fun i hi he => hj ⟨i, hi, he⟩)
    constructor
    · intro ha
      refine .inl (Decidable.of_not_not fun z => ?_)
      rw [← tq, ← e, tq] at z
      exact z ha
    · rintro (ha | ha)
      · refine Decidable.of_not_not fun z => ?_
        rw [← tq, e, tq] at z
        exact z ha
      · exact absurd ha hj
theorem Vv {x y u : aX} {b lf rt : List Int} {count : Int} (h : lB x y u b lf rt count = true) : lB x u y b rt lf count = true := by
  unfold lB at h ⊢
  simp only [Bool.and_eq_true, decide_eq_true_eq] at h ⊢
  obtain ⟨h1, h2, h3, h4, h5, h6⟩ := h
  obtain ⟨l1, l2, l3⟩ := vZ.1 h4
  obtain ⟨r1, r2, r3⟩ := vZ.1 h5
  obtain ⟨s1, s2⟩ := acE l1 r1 l2 r2
  refine ⟨h1, h2, h3, vZ.2 ⟨r1, s1, r3⟩, vZ.2 ⟨l1, s2, l3⟩, ?_⟩
  refine Eq.trans (congrArg Int.ofNat ?_) h6
  have n0 := O_ (bk x (-1) 0) b.length
  have p := (List.perm_ext_iff_of_nodup (Cd (bk y (-1) 0) lf count _ (Cd (bk u (-1) 0) rt count _ n0)) (Cd (bk u (-1) 0) rt count _ (Cd (bk y (-1) 0) lf count _ n0))).2 (fun a => by
    rw [BK l1 s2, BK r1 s1, BK r1 r2, BK l1 l2, or_assoc, or_assoc, or_comm (a := ∃ i, i < rt.length ∧ rt.getD i 0 = a)])
  have q := p.length_eq
  rw [List.length_map, List.length_map] at q
  exact q
theorem Zb (x y u : aX) (b lf rt : List Int) (count : Int) : lB x u y b rt lf count = lB x y u b lf rt count := by
  cases e : lB x y u b lf rt count with
  | true => exact Vv e
  | false =>
    cases e2 : lB x u y b rt lf count with
    | false => rfl
    | true => rw [Vv e2] at e; cases e
theorem agn {x y u : aX} {b lf rt : List Int} {count : Int} (h : lB x y u b lf rt count = true) : count ≤ b.length + lf.length + rt.length ∧ (∀ a ∈ b, 0 ≤ a ∧ a < count) ∧ (∀ a ∈ lf, 0 ≤ a ∧ a < count) ∧ (∀ a ∈ rt, 0 ≤ a ∧ a < count) := by
  unfold lB at h
  simp only [Bool.and_eq_true, decide_eq_true_eq] at h
  obtain ⟨h1, h2, h3, h4, h5, h6⟩ := h
  obtain ⟨l1, l2, l3⟩ := vZ.1 h4
  obtain ⟨r1, r2, r3⟩ := vZ.1 h5
  have q1 := HD (bk u (-1) 0) rt count (gT (bk y (-1) 0) lf count (iV (bk x (-1) 0) b.length))
  have q2 := HD (bk y (-1) 0) lf count (iV (bk x (-1) 0) b.length)
  have q3 := P2 (bk x (-1) 0) b.length
  have key : ∀ l : List Int, (∀ i, i < l.length → 0 ≤ l.getD i 0 ∧ l.getD i 0 < count) → ∀ a ∈ l, 0 ≤ a ∧ a < count := fun l hl a ha => by
    obtain ⟨i, hi, rfl⟩ := List.getElem_of_mem ha
    have := hl i hi
    rw [List.getD_eq_getElem?_getD, List.getElem?_eq_getElem hi, Option.getD_some] at this
    exact this
  refine ⟨by omega, key b (fun i hi => ?_), key lf (fun i hi => ⟨(l2 i hi).1, (l2 i hi).2.1⟩), key rt (fun i hi => ⟨(r2 i hi).1, (r2 i hi).2.1⟩)⟩
  rw [h3 i hi]
  omega
theorem Zr {x y : List (Int × gZ)} {l : List Int} {c : aw} (h : c ∈ lA x y l) : c.f0 ∈ l := by
  unfold lA at h
  obtain ⟨id, hid, hc⟩ := List.mem_flatMap.1 h
  have : c.f0 = id := by
    unfold jb at hc
    split at hc
    · simp only [List.mem_cons, List.not_mem_nil, or_false] at hc
      rcases hc with rfl | rfl <;> rfl
    · rw [List.mem_singleton] at hc; rw [hc]
    · rw [List.mem_singleton] at hc; rw [hc]
    · simp only [List.mem_append] at hc
      rcases hc with hc | hc | hc | hc <;> split at hc <;> first | (cases hc; done) | (rw [List.mem_singleton] at hc; rw [hc])
  rw [this]
  exact hid
theorem xW {x : aX} (h : j5 x) : j7 x = true := by
  unfold j7
  rw [Bool.and_eq_true, decide_eq_true_eq, List.all_eq_true]
  exact ⟨by have := h.1; omega, fun y hy => decide_eq_true (by have := (h.2 y hy).2; omega)⟩
theorem UQ : ∀ l : List Int, (mh l).length ≤ l.length
  | [] => Nat.le_refl _
  | a :: l => by
    have h1 := Kt a (mh l)
    have h2 := UQ l
    show (kK a (mh l)).length ≤ l.length + 1
    omega
def qI (x y : aX) (b o : List Int) : List aw := lA (eX (bk x (-1) 0) b b.length) (eX (bk y (-1) 0) o o.length) (mh (b ++ o))
def rc (x y : aX) (b o : List Int) : Bool := k5 (bk x (-1) 0) b && k5 (bk y (-1) 0) o
theorem Wq {x y : aX} {b o : List Int} (hx : j5 x) (hy : j5 y) (hb : b.length ≤ 60) (ho : o.length ≤ 60) :
    ib.f x.f0 x.f1 x.f2 x.f3 y.f0 y.f1 y.f2 y.f3 b o = some (if rc x y b o = true then (qI x y b o, 0) else ([], 15)) := by
  have h1 := xW hx
  have h2 := xW hy
  cases x
  cases y
  unfold ib.f
  rw [if_pos (by rw [h1, h2, decide_eq_true (show b.length ≤ 400000 by omega), decide_eq_true (show o.length ≤ 400000 by omega)]; rfl)]
  rfl
theorem KL (x y : aX) (b o : List Int) (hb : b.length ≤ 60) (ho : o.length ≤ 60) : (qI x y b o).length ≤ 480 := by
  have h1 := PL (eX (bk x (-1) 0) b b.length) (eX (bk y (-1) 0) o o.length) (mh (b ++ o))
  have h2 := UQ (b ++ o)
  rw [List.length_append] at h2
  unfold qI
  omega
theorem Oy (x : aX) : ∃ t, Ev (fun k => ig.f k x.f0 x.f1 x.f2 x.f3) t ∧ (t = true → j5 x) := by
  obtain ⟨t, e, q⟩ := ZR x
  exact ⟨t, e.bind (Ev.now _), q⟩
theorem afc {x y u : aX} (b lf rt : List Int) (cnt : Int) (hx : j5 x) (hy : j5 y) (hu : j5 u) :
    uV.f x.f0 x.f1 x.f2 x.f3 y.f0 y.f1 y.f2 y.f3 u.f0 u.f1 u.f2 u.f3 b lf rt cnt = some (if lB x y u b lf rt cnt = true then 0 else 15) := by
  have h1 := xW hx
  have h2 := xW hy
  have h3 := xW hu
  cases x
  cases y
  cases u
  unfold uV.f
  rw [if_pos (by rw [h1, h2, h3]; rfl)]
def sb (x y u : aX) (b lf rt : List Int) (cnt : Int) : Bool × Int :=
  if lB x y u b lf rt cnt = true then
    (if rc x y b lf = true then (if rc x u b rt = true then (((ou (qI x y b lf) (qI x u b rt) []).length : Int) == 0, 0) else (false, 15)) else (false, 15))
  else (false, 15)
theorem ahy {x y u : aX} {b lf rt : List Int} (cnt : Int) (hx : j5 x) (hy : j5 y) (hu : j5 u) (hb : b.length ≤ 60) (hl : lf.length ≤ 60) (hr : rt.length ≤ 60) :
    j6.f x.f0 x.f1 x.f2 x.f3 y.f0 y.f1 y.f2 y.f3 u.f0 u.f1 u.f2 u.f3 b lf rt cnt = some (sb x y u b lf rt cnt) := by
  unfold j6.f sb
  rw [afc b lf rt cnt hx hy hu, Option.bind_some]
  by_cases hI : lB x y u b lf rt cnt = true
  · rw [if_pos hI, if_pos hI, if_pos rfl, Wq hx hy hb hl, Option.bind_some]
    by_cases h1 : rc x y b lf = true
    · rw [if_pos h1, if_pos h1, if_pos rfl, Wq hx hu hb hr, Option.bind_some]
      by_cases h2 : rc x u b rt = true
      · rw [if_pos h2, if_pos h2, if_pos rfl]
        have q1 := KL x y b lf hb hl
        have q2 := KL x u b rt hb hr
        obtain ⟨i0, i1, i2, i3⟩ := agn hI
        rw [agU (qI x y b lf) (qI x u b rt) (by omega) (by omega) (fun c hc => ?_), Option.bind_some]
        have m := Zr hc
        rw [zc, List.mem_append] at m
        have m2 : 0 ≤ c.f0 ∧ c.f0 < cnt := m.elim (i1 _) (i3 _)
        unfold vK
        simp only [Bool.and_eq_true, decide_eq_true_eq]
        omega
      · rw [if_neg h2, if_neg h2, if_neg (by decide)]
    · rw [if_neg h1, if_neg h1, if_neg (by decide)]
  · rw [if_neg hI, if_neg hI, if_neg (by decide)]
theorem as_ (x y u : aX) (b lf rt : List Int) (cnt : Int) : sb x u y b rt lf cnt = sb x y u b lf rt cnt := by
  unfold sb
  rw [Zb, ahY]
  cases rc x y b lf <;> cases rc x u b rt <;> rfl
theorem U3 (rows : List bC) (ids : List Int) : ∀ (n i : Nat), i < n → ∃ f, cK (eX rows ids n) (ids.getD i 0) = some f
  | 0, i, h => absurd h (Nat.not_lt_zero i)
  | n + 1, i, h => by
    rw [eX, sh]
    by_cases e : ids.getD i 0 = ids.getD n 0
    · exact ⟨_, if_pos e⟩
    · rw [if_neg e]
      exact U3 rows ids n i (by have : i ≠ n := (fun z => e (by rw [z])); omega)
theorem afP (x : aX) (b : List Int) : qI x x b b = [] := by
  unfold qI lA
  rw [List.flatMap_eq_nil_iff]
  intro a ha
  rw [zc, List.mem_append, or_self] at ha
  obtain ⟨i, hi, rfl⟩ := List.getElem_of_mem ha
  obtain ⟨f, hf⟩ := U3 (bk x (-1) 0) b b.length i hi
  rw [List.getD_eq_getElem?_getD, List.getElem?_eq_getElem hi, Option.getD_some] at hf
  unfold jb
  rw [hf]
  simp
theorem ak0 (x u : aX) (b rt : List Int) (cnt : Int) (h : (sb x x u b b rt cnt).2 = 0) : (sb x x u b b rt cnt).1 = true := by
  unfold sb at h ⊢
  split at h
  · rename_i h1
    rw [if_pos h1]
    split at h
    · rename_i h2
      rw [if_pos h2]
      split at h
      · rename_i h3
        rw [if_pos h3, afP]
        rfl
      · cases h
    · cases h
  · cases h
theorem aiV (x y u : aX) (b lf rt : List Int) (cnt : Int) : ∃ t, Ev (fun k => oA.f k x.f0 x.f1 x.f2 x.f3 y.f0 y.f1 y.f2 y.f3 u.f0 u.f1 u.f2 u.f3 b lf rt cnt) t ∧ (t = true → j5 x ∧ j5 y ∧ j5 u ∧ b.length ≤ 60 ∧ lf.length ≤ 60 ∧ rt.length ≤ 60) := by
  unfold oA.f
  obtain ⟨t1, e1, q1⟩ := Oy x
  obtain ⟨t2, e2, q2⟩ := Oy y
  obtain ⟨t3, e3, q3⟩ := Oy u
  by_cases h1 : t1 = true
  · by_cases h2 : t2 = true
    · by_cases h3 : t3 = true
      · by_cases h4 : (b.length : Int) ≤ 60
        · by_cases h5 : (lf.length : Int) ≤ 60
          · exact ⟨_, e1.bind (Ev.pos h1 (e2.bind (Ev.pos h2 (e3.bind (Ev.pos h3 (Ev.pos h4 (Ev.pos h5 (Ev.now _)))))))), fun h => ⟨q1 h1, q2 h2, q3 h3, by omega, by omega, by have := of_decide_eq_true h; omega⟩⟩
          · exact ⟨false, e1.bind (Ev.pos h1 (e2.bind (Ev.pos h2 (e3.bind (Ev.pos h3 (Ev.pos h4 (Ev.neg h5 (Ev.now _)))))))), fun h => by cases h⟩
        · exact ⟨false, e1.bind (Ev.pos h1 (e2.bind (Ev.pos h2 (e3.bind (Ev.pos h3 (Ev.neg h4 (Ev.now _))))))), fun h => by cases h⟩
      · exact ⟨false, e1.bind (Ev.pos h1 (e2.bind (Ev.pos h2 (e3.bind (Ev.neg h3 (Ev.now _)))))), fun h => by cases h⟩
    · exact ⟨false, e1.bind (Ev.pos h1 (e2.bind (Ev.neg h2 (Ev.now _)))), fun h => by cases h⟩
  · exact ⟨false, e1.bind (Ev.neg h1 (Ev.now _)), fun h => by cases h⟩
def tN (c d : aw) : Bool := decide (c.f0 < d.f0) || (decide (c.f0 = d.f0) && decide (c.f1 < d.f1))
def lZ (c d : aw) : Prop := c.f0 < d.f0 ∨ (c.f0 = d.f0 ∧ c.f1 ≤ d.f1)
def pt (c : aw) : List aw → List aw
  | [] => [c]
  | d :: l => if tN c d = true then c :: d :: l else d :: pt c l
theorem BP {c d : aw} : tN c d = true ↔ c.f0 < d.f0 ∨ (c.f0 = d.f0 ∧ c.f1 < d.f1) := by unfold tN; simp
theorem akd {a b c : aw} (h : lZ a b) (k : lZ b c) : lZ a c := by unfold lZ at *; omega
theorem adF {a b : aw} (h : lZ a b) (k : lZ b a) : a = b := by
  unfold lZ at *
  have h0 : a.f0 = b.f0 := by omega
  have h1 : a.f1 = b.f1 := by omega
  cases a
  cases b
  cases h0
  cases h1
  rfl
theorem IS (c : aw) : ∀ l, (pt c l).Perm (c :: l)
  | [] => List.Perm.refl _
  | d :: l => by
    rw [pt]
    split
    · exact List.Perm.refl _
    · exact ((IS c l).cons d).trans (List.Perm.swap c d l)
theorem TJ (c : aw) : ∀ l, l.Pairwise lZ → (pt c l).Pairwise lZ
  | [], _ => List.pairwise_singleton _ _
  | d :: l, h => by
    rw [pt]
    rw [List.pairwise_cons] at h
    split
    · rename_i hc
      have hcd : lZ c d := by have := BP.1 hc; unfold lZ; omega
      rw [List.pairwise_cons, List.pairwise_cons]
      exact ⟨fun a ha => (List.mem_cons.1 ha).elim (fun e => by rw [e]; exact hcd) (fun m => akd hcd (h.1 a m)), h⟩
    · rename_i hc
      have hdc : lZ d c := by
        have h2 : ¬ (c.f0 < d.f0 ∨ (c.f0 = d.f0 ∧ c.f1 < d.f1)) := fun z => hc (BP.2 z)
        unfold lZ
        omega
      rw [List.pairwise_cons]
      exact ⟨fun a ha => (List.mem_cons.1 ((IS c l).mem_iff.1 ha)).elim (fun e => by rw [e]; exact hdc) (fun m => h.1 a m), TJ c l h.2⟩
theorem Ek (c : aw) (l : List aw) : (pt c l).length = l.length + 1 := (IS c l).length_eq
def pD (L out : List aw) : List aw := L.foldl (fun o c => pt c o) out
theorem Ad (L M out : List aw) : pD (L ++ M) out = pD M (pD L out) := List.foldl_append ..
theorem Nl : ∀ L out : List aw, (pD L out).Perm (L ++ out)
  | [], out => List.Perm.refl _
  | c :: L, out => (Nl L (pt c out)).trans (((IS c out).append_left L).trans List.perm_middle)
theorem Tr : ∀ L out : List aw, out.Pairwise lZ → (pD L out).Pairwise lZ
  | [], _, h => h
  | c :: L, out, h => Tr L (pt c out) (TJ c out h)
theorem VW (L out : List aw) : (pD L out).length = L.length + out.length := by rw [(Nl L out).length_eq, List.length_append]
theorem Uw {x y : List (Int × gZ)} {id : Int} {c : aw} (hc : c ∈ jb x y id) : c.f0 = id := by
  unfold jb at hc
  split at hc
  · simp only [List.mem_cons, List.not_mem_nil, or_false] at hc
    rcases hc with rfl | rfl <;> rfl
  · rw [List.mem_singleton] at hc; rw [hc]
  · rw [List.mem_singleton] at hc; rw [hc]
  · simp only [List.mem_append] at hc
    rcases hc with hc | hc | hc | hc <;> split at hc <;> first | (cases hc; done) | (rw [List.mem_singleton] at hc; rw [hc])
theorem aji (x y : List (Int × gZ)) (id : Int) : (jb x y id).Pairwise lZ := by
  unfold jb
  split
  · simp [lZ]
  · exact List.pairwise_singleton _ _
  · exact List.pairwise_singleton _ _
  · split <;> split <;> split <;> split <;> simp [lZ]
theorem aaH (x y : List (Int × gZ)) {l : List Int} (h : l.Pairwise (· < ·)) : (lA x y l).Pairwise lZ := by
  unfold lA
  rw [List.pairwise_flatMap]
  exact ⟨fun a _ => aji x y a, h.imp (fun {a b} hab c hc d hd => .inl (by rw [Uw hc, Uw hd]; exact hab))⟩
theorem akf (x y : List (Int × gZ)) {l m : List Int} (hm : m.Pairwise (· < ·)) (h : l.Perm m) : pD (l.flatMap (jb x y)) [] = lA x y m := by
  refine List.Perm.eq_of_pairwise (le := lZ) (fun a b _ _ => adF) (Tr _ _ List.Pairwise.nil) (aaH x y hm) ?_
  have p := Nl (l.flatMap (jb x y)) []
  rw [List.append_nil] at p
  exact p.trans (h.flatMap_right _)
def uj (ids : List Int) : Prop := ∀ i, i < ids.length → 0 ≤ ids.getD i 0 ∧ ∀ j, j < i → ids.getD j 0 ≠ ids.getD i 0
theorem qH {l : List Int} {i : Nat} (h : i < l.length) : l.getD i 0 = l[i] := by rw [List.getD_eq_getElem?_getD, List.getElem?_eq_getElem h, Option.getD_some]
theorem Us {ids : List Int} (h : uj ids) : ids.Nodup := by
  refine List.pairwise_iff_getElem.2 (fun i j hi hj hij => ?_)
  have := (h j hj).2 i hij
  rw [qH hi, qH hj] at this
  exact this
theorem acj {κ β : Type} [DecidableEq κ] (l : List (κ × β)) (k : κ) (v : β) : (fG l k v).length = if cK l k = none then l.length + 1 else l.length := by
  have h := congrArg List.length (Iw l k v)
  rw [List.length_map] at h
  rw [h]
  by_cases m : k ∈ l.map (fun p => p.1)
  · rw [if_pos m, if_neg (by rw [tq]; exact fun z => z m), List.length_map]
  · rw [if_neg m, if_pos ((tq k l).2 m), List.length_append, List.length_map]
    rfl
theorem In (rows : List bC) (ids : List Int) (a : Int) : ∀ n, cK (eX rows ids n) a = none ↔ ∀ i, i < n → ids.getD i 0 ≠ a
  | 0 => ⟨fun _ i hi => absurd hi (Nat.not_lt_zero i), fun _ => rfl⟩
  | n + 1 => by
    rw [eX, sh]
    by_cases e : a = ids.getD n 0
    · rw [if_pos e]
      exact ⟨fun z => (by cases z), fun z => absurd e.symm (z n (by omega))⟩
    · rw [if_neg e, In rows ids a n]
      exact ⟨fun z i hi => if h : i = n then by rw [h]; exact fun w => e w.symm else z i (by omega), fun z i hi => z i (by omega)⟩
theorem YF (rows : List bC) (ids : List Int) : ∀ n, (eX rows ids n).length ≤ n
  | 0 => Nat.le_refl _
  | n + 1 => by rw [eX]; exact Nat.le_trans (Jz _ _ _) (by have := YF rows ids n; omega)
theorem Y7 (rows : List bC) (ids : List Int) : ∀ n, (eX rows ids n).length = n ↔ ∀ i, i < n → ∀ j, j < i → ids.getD j 0 ≠ ids.getD i 0
  | 0 => ⟨fun _ i hi => absurd hi (Nat.not_lt_zero i), fun _ => rfl⟩
  | n + 1 => by
    have h1 := YF rows ids n
    have h2 := Y7 rows ids n
    have h3 := In rows ids (ids.getD n 0) n
    rw [eX, acj]
    by_cases e : cK (eX rows ids n) (ids.getD n 0) = none
    · rw [if_pos e]
      refine ⟨fun z i hi => ?_, fun z => ?_⟩
      · by_cases h : i = n
        · rw [h]; exact h3.1 e
        · exact h2.1 (by omega) i (by omega)
      · rw [h2.2 (fun i hi => z i (by omega))]
    · rw [if_neg e]
      exact ⟨fun z => by omega, fun z => absurd (h3.2 (z n (by omega))) e⟩
theorem V2 (rows : List bC) (ids : List Int) : k5 rows ids = true ↔ rows.length = ids.length ∧ uj ids := by
  unfold k5 uj
  rw [Bool.and_eq_true, Bool.and_eq_true, decide_eq_true_eq, decide_eq_true_eq, List.all_eq_true, Y7]
  constructor
  · rintro ⟨⟨h1, h2⟩, h3⟩
    refine ⟨h1, fun i hi => ⟨?_, h3 i hi⟩⟩
    rw [qH hi]
    exact of_decide_eq_true (h2 _ (List.getElem_mem hi))
  · rintro ⟨h1, h2⟩
    refine ⟨⟨h1, fun a ha => ?_⟩, fun i hi => (h2 i hi).2⟩
    obtain ⟨i, hi, rfl⟩ := List.getElem_of_mem ha
    have := (h2 i hi).1
    rw [qH hi] at this
    exact decide_eq_true this
theorem JP (rows : List bC) {ids : List Int} (h : uj ids) : ∀ n i, n ≤ ids.length → i < n → cK (eX rows ids n) (ids.getD i 0) = some (eo ids (rows.getD i z70))
  | 0, i, _, hi => absurd hi (Nat.not_lt_zero i)
  | n + 1, i, hn, hi => by
    rw [eX, sh]
    by_cases e : i = n
    · rw [e, if_pos rfl]
    · rw [if_neg ((h n (by omega)).2 i (by omega))]
      exact JP rows h n i (by omega) (by omega)
def Vh (l : List Int) (n r : Int) : Prop := (r = -1 ∧ ∀ i, i < l.length → l.getD i 0 ≠ n) ∨ ∃ i, r = ((i : Nat) : Int) ∧ i < l.length ∧ l.getD i 0 = n ∧ ∀ j, j < i → l.getD j 0 ≠ n
theorem Oo (l : List Int) (n : Int) (hl : l.length ≤ 1000000) : ∃ r, Ev (fun k => gq.f k l n) r ∧ Vh l n r := by
  have loop : ∀ d i, i + d = l.length → (∀ j, j < i → l.getD j 0 ≠ n) → ∃ r, Ev (fun k => gq.l0 k l n (i : Int)) r ∧ Vh l n r := by
    intro d
    induction d with
    | zero =>
      intro i hi hj
      exact ⟨-1, Ev.step (fun k => by rw [gq.l0]) (Ev.neg (by omega) (Ev.now _)), .inl ⟨rfl, fun j h => hj j (by omega)⟩⟩
    | succ d ih =>
      intro i hi hj
      have h : i < l.length := by omega
      by_cases e : l.getD i 0 = n
      · refine ⟨(i : Int), Ev.step (fun k => by rw [gq.l0]) ?_, .inr ⟨i, rfl, h, e, hj⟩⟩
        exact Ev.pos (by omega) (Ev.pos (by omega) (Ev.pos e (Ev.now _)))
      · obtain ⟨r, er, q⟩ := ih (i + 1) (by omega) (fun j hj' => if hh : j = i then by rw [hh]; exact e else hj j (by omega))
        refine ⟨r, Ev.step (fun k => by rw [gq.l0]) ?_, q⟩
        refine Ev.pos (by omega) (Ev.pos (by omega) (Ev.neg e ?_))
        rw [lM h (by omega)]
        exact er
  exact loop l.length 0 (by omega) (fun j hj => absurd hj (Nat.not_lt_zero j))
theorem Xo (ids : List Int) (m : Nat) (hl : ids.length ≤ 1000000) : ∃ t, Ev (fun k => gG.f k ids (m : Int)) t ∧ (t = true ↔ m = ids.length ∧ uj ids) := by
  have loop : ∀ d i, i + d = ids.length → ∃ t, Ev (fun k => gG.l0 k ids (i : Int)) t ∧ (t = true ↔ ∀ a, i ≤ a → a < ids.length → 0 ≤ ids.getD a 0 ∧ ∀ j, j < a → ids.getD j 0 ≠ ids.getD a 0) := by
    intro d
    induction d with
    | zero =>
      intro i hi
      exact ⟨true, Ev.step (fun k => by rw [gG.l0]) (Ev.neg (by omega) (Ev.now _)), fun _ a h1 h2 => by omega, fun _ => rfl⟩
    | succ d ih =>
      intro i hi
      have h : i < ids.length := by omega
      by_cases c : rd ids (i : Int) < 0
      · refine ⟨false, Ev.step (fun k => by rw [gG.l0]) (Ev.pos (by omega) (Ev.pos (by omega) (Ev.pos c (Ev.now _)))), fun z => (by cases z), fun z => ?_⟩
        have := (z i (by omega) h).1
        have c2 : ids.getD i 0 < 0 := c
        omega
      · have c2 : ¬ ids.getD i 0 < 0 := c
        obtain ⟨r, er, q⟩ := Oo ids (rd ids (i : Int)) hl
        by_cases e : r = (i : Int)
        · obtain ⟨t, et, qt⟩ := ih (i + 1) (by omega)
          have first : ∀ j, j < i → ids.getD j 0 ≠ ids.getD i 0 := by
            rcases q with ⟨q, _⟩ | ⟨a, q, _, _, q2⟩
            · omega
            · have : a = i := by omega
              subst this
              exact q2
          refine ⟨t, Ev.step (fun k => by rw [gG.l0]) (Ev.pos (by omega) (Ev.pos (by omega) (Ev.neg c (er.bind (Ev.pos e ?_))))), ?_⟩
          · rw [lM h (by omega)]
            exact et
          · rw [qt]
            exact ⟨fun z a h1 h2 => if hh : a = i then by rw [hh]; exact ⟨by omega, first⟩ else z a (by omega) h2, fun z a h1 h2 => z a (by omega) h2⟩
        · refine ⟨false, Ev.step (fun k => by rw [gG.l0]) (Ev.pos (by omega) (Ev.pos (by omega) (Ev.neg c (er.bind (Ev.neg e (Ev.now _)))))), fun z => (by cases z), fun z => ?_⟩
          have zi := (z i (by omega) h).2
          exfalso
          rcases q with ⟨_, q⟩ | ⟨a, q, q1, q2, q3⟩
          · exact q i h rfl
          · have n1 : a ≠ i := fun w => e (by rw [q, w])
            have n2 : ¬ i < a := fun w => q3 i w rfl
            exact zi a (by omega) q2
  unfold gG.f
  by_cases c : (ids.length : Int) = (m : Int)
  · obtain ⟨t, e, q⟩ := loop ids.length 0 (by omega)
    exact ⟨t, Ev.pos c e, q.trans ⟨fun z => ⟨by omega, fun i hi => z i (Nat.zero_le _) hi⟩, fun z a _ h2 => z.2 a h2⟩⟩
  · exact ⟨false, Ev.neg c (Ev.now _), fun z => (by cases z), fun z => absurd z.1 (by omega)⟩
theorem zY (l : List aw) (id fd : Int) (hl : l.length ≤ 1000000) : Ev (fun k => dK.f k l id fd) (pt ⟨id, fd⟩ l) := by
  have done : ∀ d i (out : List aw), i + d = l.length → out.length ≤ i + 1 → Ev (fun k => dK.l0 k l out true (i : Int) id fd) (out ++ l.drop i) := by
    intro d
    induction d with
    | zero =>
      intro i out hi ho
      refine Ev.step (fun k => by rw [dK.l0]) (Ev.neg (by omega) (Ev.pos rfl ?_))
      rw [List.drop_of_length_le (by omega), List.append_nil]
      exact Ev.now _
    | succ d ih =>
      intro i out hi ho
      have h : i < l.length := by omega
      refine Ev.step (fun k => by rw [dK.l0]) ?_
      refine Ev.pos (by omega) (Ev.pos rfl (Ev.pos (by omega) (Ev.pos (by omega) ?_)))
      rw [H9 h, lM h (by omega)]
      refine Ev.cast ?_ (ih (i + 1) (out ++ [l[i]]) (by omega) (by simp; omega))
      rw [List.drop_eq_getElem_cons h, List.append_assoc]
      rfl
  have loop : ∀ d i (out : List aw), i + d = l.length → out.length ≤ i → Ev (fun k => dK.l0 k l out false (i : Int) id fd) (out ++ pt ⟨id, fd⟩ (l.drop i)) := by
    intro d
    induction d with
    | zero =>
      intro i out hi ho
      refine Ev.step (fun k => by rw [dK.l0]) ?_
      refine Ev.neg (by omega) (Ev.neg (by simp) (Ev.pos (by omega) ?_))
      rw [List.drop_of_length_le (by omega)]
      exact Ev.now _
    | succ d ih =>
      intro i out hi ho
      have h : i < l.length := by omega
      refine Ev.step (fun k => by rw [dK.l0]) ?_
      refine Ev.pos (by omega) (Ev.neg (by simp) (Ev.pos (by omega) ?_))
      rw [H9 h, lM h (by omega), List.drop_eq_getElem_cons h, pt]
      have yes : tN ⟨id, fd⟩ l[i] = true → Ev (fun k => if out.length < 8796093022208 then ((some (out ++ [(⟨id, fd⟩ : aw)] : List aw)).bind fun y => (if y.length < 8796093022208 then (dK.l0 k l (y ++ [(⟨l[i].f0, l[i].f1⟩ : aw)]) true ((i + 1 : Nat) : Int) id fd) else none)) else none) (out ++ if tN ⟨id, fd⟩ l[i] = true then ⟨id, fd⟩ :: l[i] :: l.drop (i + 1) else l[i] :: pt ⟨id, fd⟩ (l.drop (i + 1))) := by
        intro c
        refine Ev.pos (by omega) (Ev.known rfl (Ev.pos (by simp; omega) (Ev.cast ?_ (done d (i + 1) (out ++ [⟨id, fd⟩] ++ [l[i]]) (by omega) (by simp; omega)))))
        rw [if_pos c, List.append_assoc, List.append_assoc]
        rfl
      have no : tN ⟨id, fd⟩ l[i] = false → Ev (fun k => if out.length < 8796093022208 then (dK.l0 k l (out ++ [(⟨l[i].f0, l[i].f1⟩ : aw)]) false ((i + 1 : Nat) : Int) id fd) else none) (out ++ if tN ⟨id, fd⟩ l[i] = true then ⟨id, fd⟩ :: l[i] :: l.drop (i + 1) else l[i] :: pt ⟨id, fd⟩ (l.drop (i + 1))) := by
        intro c
        refine Ev.pos (by omega) (Ev.cast ?_ (ih (i + 1) (out ++ [l[i]]) (by omega) (by simp; omega)))
        rw [if_neg (by rw [c]; decide), List.append_assoc]
        rfl
      by_cases c1 : id < l[i].f0
      · exact Ev.pos c1 (yes (BP.2 (.inl c1)))
      · refine Ev.neg c1 ?_
        by_cases c2 : id = l[i].f0
        · refine Ev.pos c2 ?_
          by_cases c3 : fd < l[i].f1
          · exact Ev.pos c3 (yes (BP.2 (.inr ⟨c2, c3⟩)))
          · refine Ev.neg c3 (no ?_)
            cases q : tN ⟨id, fd⟩ l[i] with
            | false => rfl
            | true => rcases BP.1 q with z | ⟨_, z⟩ <;> first | exact absurd z c1 | exact absurd z c3
        · refine Ev.neg c2 (no ?_)
          cases q : tN ⟨id, fd⟩ l[i] with
          | false => rfl
          | true => rcases BP.1 q with z | ⟨z, _⟩ <;> first | exact absurd z c1 | exact absurd z c2
  exact loop l.length 0 [] (by omega) (by simp)
theorem Yq {rows : List bC} {ids : List Int} {i : Nat} (hi : i < rows.length) (hr : (rows.getD i z70).f0 = -1 ∨ (0 ≤ (rows.getD i z70).f0 ∧ (rows.getD i z70).f0 < (ids.length : Int))) :
    r_.f rows ids (i : Int) = some (eo ids (rows.getD i z70)).par := by
  unfold r_.f
  rw [if_pos (by omega), if_pos (by omega)]
  show (if (rows.getD i z70).f0 < 0 then _ else if 0 ≤ (rows.getD i z70).f0 then if (rows.getD i z70).f0 < (ids.length : Int) then some (ids.getD (rows.getD i z70).f0.toNat 0) else none else none) = _
  unfold eo
  dsimp only
  by_cases c : (rows.getD i z70).f0 < 0
  · rw [if_pos c, if_pos c]
  · rw [if_neg c, if_neg c, if_pos (by omega), if_pos (by omega)]
theorem ZF (g h : List ByteArray) (hg : g.length ≤ 1000000) : ∃ t, Ev (fun k => iE.f k g h) t ∧ (t = true ↔ g = h) := by
  unfold iE.f
  by_cases c : (g.length : Int) = (h.length : Int)
  · have loop : ∀ d i, i + d = g.length → ∃ t, Ev (fun k => iE.l0 k g h (i : Int)) t ∧ (t = true ↔ g.drop i = h.drop i) := by
      intro d
      induction d with
      | zero =>
        intro i hi
        refine ⟨true, Ev.step (fun k => by rw [iE.l0]) (Ev.neg (by omega) (Ev.now _)), fun _ => ?_, fun _ => rfl⟩
        rw [List.drop_of_length_le (by omega), List.drop_of_length_le (by omega)]
      | succ d ih =>
        intro i hi
        have h1 : i < g.length := by omega
        have h2 : i < h.length := by omega
        have e1 : eY ByteArray.empty g (i : Int) = g[i] := by show g.getD i _ = _; rw [List.getD_eq_getElem?_getD, List.getElem?_eq_getElem h1, Option.getD_some]
        have e2 : eY ByteArray.empty h (i : Int) = h[i] := by show h.getD i _ = _; rw [List.getD_eq_getElem?_getD, List.getElem?_eq_getElem h2, Option.getD_some]
        by_cases e : g[i] = h[i]
        · obtain ⟨t, et, q⟩ := ih (i + 1) (by omega)
          refine ⟨t, Ev.step (fun k => by rw [iE.l0]) (Ev.pos (by omega) (Ev.pos (by omega) (Ev.pos (by omega) (Ev.pos (by rw [e1, e2, e]) ?_)))), ?_⟩
          · rw [lM h1 (by omega)]
            exact et
          · rw [q, List.drop_eq_getElem_cons h1, List.drop_eq_getElem_cons h2, List.cons.injEq]
            exact ⟨fun z => ⟨e, z⟩, fun z => z.2⟩
        · refine ⟨false, Ev.step (fun k => by rw [iE.l0]) (Ev.pos (by omega) (Ev.pos (by omega) (Ev.pos (by omega) (Ev.neg (fun z => e (by rw [e1, e2] at z; exact toList_inj.1 z)) (Ev.now _))))), fun z => (by cases z), fun z => ?_⟩
          rw [List.drop_eq_getElem_cons h1, List.drop_eq_getElem_cons h2, List.cons.injEq] at z
          exact absurd z.1 e
    obtain ⟨t, e, q⟩ := loop g.length 0 (by omega)
    exact ⟨t, Ev.pos c e, q⟩
  · exact ⟨false, Ev.neg c (Ev.now _), fun z => (by cases z), fun z => absurd (by rw [z]) c⟩
theorem Z_ (r s : bC) (b o : List Int) (hg : r.f4.length ≤ 1000000) (hr : ∀ k ∈ r.f4, 0 ≤ k ∧ k < (b.length : Int)) (hs : ∀ k ∈ s.f4, 0 ≤ k ∧ k < (o.length : Int)) :
    ∃ t, Ev (fun k => ij.f k r.f0 r.f1 r.f2 r.f3 r.f4 s.f0 s.f1 s.f2 s.f3 s.f4 b o) t ∧ (t = true ↔ r.f4.map (fun k => b.getD k.toNat 0) = s.f4.map (fun k => o.getD k.toNat 0)) := by
  unfold ij.f
  by_cases c : (r.f4.length : Int) = (s.f4.length : Int)
  · have loop : ∀ d i, i + d = r.f4.length → ∃ t, Ev (fun k => ij.l0 k b o (i : Int) r.f0 r.f1 r.f2 r.f3 r.f4 s.f0 s.f1 s.f2 s.f3 s.f4) t ∧ (t = true ↔ (r.f4.drop i).map (fun k => b.getD k.toNat 0) = (s.f4.drop i).map (fun k => o.getD k.toNat 0)) := by
      intro d
      induction d with
      | zero =>
        intro i hi
        refine ⟨true, Ev.step (fun k => by rw [ij.l0]) (Ev.neg (by omega) (Ev.now _)), fun _ => ?_, fun _ => rfl⟩
        rw [List.drop_of_length_le (by omega), List.drop_of_length_le (by omega)]
        rfl
      | succ d ih =>
        intro i hi
        have h1 : i < r.f4.length := by omega
        have h2 : i < s.f4.length := by omega
        have e1 : rd r.f4 (i : Int) = r.f4[i] := A_ h1
        have e2 : rd s.f4 (i : Int) = s.f4[i] := A_ h2
        have b1 := hr _ (List.getElem_mem h1)
        have b2 := hs _ (List.getElem_mem h2)
        by_cases e : b.getD (r.f4[i]).toNat 0 = o.getD (s.f4[i]).toNat 0
        · obtain ⟨t, et, q⟩ := ih (i + 1) (by omega)
          refine ⟨t, Ev.step (fun k => by rw [ij.l0]) (Ev.pos (by omega) (Ev.pos (by omega) (Ev.pos (by omega) (Ev.pos (by omega) (Ev.pos (by omega) (Ev.pos (by omega) (Ev.pos (by omega) (Ev.pos (by rw [e1, e2]; exact e) ?_)))))))), ?_⟩
          · rw [lM h1 (by omega)]
            exact et
          · rw [q, List.drop_eq_getElem_cons h1, List.drop_eq_getElem_cons h2, List.map_cons, List.map_cons, List.cons.injEq]
            exact ⟨fun z => ⟨e, z⟩, fun z => z.2⟩
        · refine ⟨false, Ev.step (fun k => by rw [ij.l0]) (Ev.pos (by omega) (Ev.pos (by omega) (Ev.pos (by omega) (Ev.pos (by omega) (Ev.pos (by omega) (Ev.pos (by omega) (Ev.pos (by omega) (Ev.neg (by rw [e1, e2]; exact e) (Ev.now _))))))))), fun z => (by cases z), fun z => ?_⟩
          rw [List.drop_eq_getElem_cons h1, List.drop_eq_getElem_cons h2, List.map_cons, List.map_cons, List.cons.injEq] at z
          exact absurd z.1 e
    obtain ⟨t, e, q⟩ := loop r.f4.length 0 (by omega)
    exact ⟨t, Ev.pos c e, q⟩
  · exact ⟨false, Ev.neg c (Ev.now _), fun z => (by cases z), fun z => absurd (by have h2 := congrArg List.length z; rw [List.length_map, List.length_map] at h2; omega) c⟩
def e3 (a b : gZ) (id : Int) : List aw := if a.par = b.par then [] else [⟨id, 3⟩]
def e4 (a b : gZ) (id : Int) : List aw := if a.txt = b.txt then [] else [⟨id, 4⟩]
def e5 (a b : gZ) (id : Int) : List aw := if a.gaps = b.gaps then [] else [⟨id, 5⟩]
def e6 (a b : gZ) (id : Int) : List aw := if a.kids = b.kids then [] else [⟨id, 6⟩]
theorem abb (a b : gZ) (id : Int) : (e3 a b id).length ≤ 1 ∧ (e4 a b id).length ≤ 1 ∧ (e5 a b id).length ≤ 1 ∧ (e6 a b id).length ≤ 1 := by
  unfold e3 e4 e5 e6
  refine ⟨?_, ?_, ?_, ?_⟩ <;> split <;> simp
section
variable (X Y : List bC) (b o : List Int) (i kk : Nat) (hb : b.length = X.length) (ho : o.length = Y.length) (hbl : b.length ≤ 60) (L1 : o.length ≤ 60)
  (hX : ∀ r ∈ X, (r.f0 = -1 ∨ (0 ≤ r.f0 ∧ r.f0 < (X.length : Int))) ∧ (∀ k ∈ r.f4, 0 ≤ k ∧ k < (X.length : Int)) ∧ r.f3.length ≤ 1000000 ∧ r.f4.length ≤ 1000000)
  (hY : ∀ r ∈ Y, (r.f0 = -1 ∨ (0 ≤ r.f0 ∧ r.f0 < (Y.length : Int))) ∧ (∀ k ∈ r.f4, 0 ≤ k ∧ k < (Y.length : Int)) ∧ r.f3.length ≤ 1000000 ∧ r.f4.length ≤ 1000000)
  (hi : i < X.length) (hk : kk < Y.length) (R : List aw × Int)
theorem Bk {l : List bC} {n : Nat} (h : n < l.length) : l.getD n z70 ∈ l := by
  rw [List.getD_eq_getElem?_getD, List.getElem?_eq_getElem h, Option.getD_some]
  exact List.getElem_mem h
include hb ho hbl hX hY hi hk in
theorem Wf (out : List aw) (hn : out.length ≤ 1000) (h : Ev (fun k => bp.l0 k b o X Y (pD (e6 (eo b (X.getD i z70)) (eo o (Y.getD kk z70)) (b.getD i 0)) out) ((i + 1 : Nat) : Int)) R) :
    Ev (fun k => bp.j4 k b o X Y out (i : Int) (kk : Int)) R := by
  refine Ev.step (fun k => by rw [bp.j4]) ?_
  obtain ⟨t, e, q⟩ := Z_ (X.getD i z70) (Y.getD kk z70) b o (hX _ (Bk hi)).2.2.2 (by rw [hb]; exact (hX _ (Bk hi)).2.1) (by rw [ho]; exact (hY _ (Bk hk)).2.1)
  refine Ev.pos (by omega) (Ev.pos (by omega) (Ev.pos (by omega) (Ev.pos (by omega) (e.bind ?_))))
  rw [lM hi (by omega)]
  cases t with
  | true =>
    refine Ev.pos rfl ?_
    have := q.1 rfl
    rw [e6, if_pos (show (eo b (X.getD i z70)).kids = (eo o (Y.getD kk z70)).kids from this)] at h
    exact h
  | false =>
    have : ¬ (eo b (X.getD i z70)).kids = (eo o (Y.getD kk z70)).kids := fun z => by cases q.2 z
    rw [e6, if_neg this] at h
    exact Ev.neg (by decide) (Ev.pos (by omega) ((zY out (b.getD i 0) 6 (by omega)).bind h))
include hb ho hbl hX hY hi hk in
theorem VU (out : List aw) (hn : out.length ≤ 999) (h : Ev (fun k => bp.l0 k b o X Y (pD (e5 (eo b (X.getD i z70)) (eo o (Y.getD kk z70)) (b.getD i 0) ++ e6 (eo b (X.getD i z70)) (eo o (Y.getD kk z70)) (b.getD i 0)) out) ((i + 1 : Nat) : Int)) R) :
    Ev (fun k => bp.j3 k b o X Y out (i : Int) (kk : Int)) R := by
  refine Ev.step (fun k => by rw [bp.j3]) ?_
  obtain ⟨t, e, q⟩ := ZF (X.getD i z70).f3 (Y.getD kk z70).f3 (hX _ (Bk hi)).2.2.1
  refine Ev.pos (by omega) (Ev.pos (by omega) (Ev.pos (by omega) (Ev.pos (by omega) (e.bind ?_))))
  rw [Ad] at h
  cases t with
  | true =>
    refine Ev.pos rfl (Wf X Y b o i kk hb ho hbl hX hY hi hk R out (by omega) ?_)
    have := q.1 rfl
    rw [e5, if_pos (show (eo b (X.getD i z70)).gaps = (eo o (Y.getD kk z70)).gaps from this)] at h
    exact h
  | false =>
    have : ¬ (eo b (X.getD i z70)).gaps = (eo o (Y.getD kk z70)).gaps := fun z => by cases q.2 z
    rw [e5, if_neg this] at h
    exact Ev.neg (by decide) (Ev.pos (by omega) ((zY out (b.getD i 0) 5 (by omega)).bind (Wf X Y b o i kk hb ho hbl hX hY hi hk R _ (by rw [Ek]; omega) h)))
include hb ho hbl hX hY hi hk in
theorem Wu (out : List aw) (hn : out.length ≤ 998) (h : Ev (fun k => bp.l0 k b o X Y (pD (e4 (eo b (X.getD i z70)) (eo o (Y.getD kk z70)) (b.getD i 0) ++ (e5 (eo b (X.getD i z70)) (eo o (Y.getD kk z70)) (b.getD i 0) ++ e6 (eo b (X.getD i z70)) (eo o (Y.getD kk z70)) (b.getD i 0))) out) ((i + 1 : Nat) : Int)) R) :
    Ev (fun k => bp.j2 k b o X Y out (i : Int) (kk : Int)) R := by
  refine Ev.step (fun k => by rw [bp.j2]) ?_
  refine Ev.pos (by omega) (Ev.pos (by omega) (Ev.pos (by omega) (Ev.pos (by omega) ?_)))
  rw [Ad] at h
  by_cases c : (X.getD i z70).f2 = (Y.getD kk z70).f2
  · refine Ev.pos (toList_inj.2 c) (VU X Y b o i kk hb ho hbl hX hY hi hk R out (by omega) ?_)
    rw [e4, if_pos (show (eo b (X.getD i z70)).txt = (eo o (Y.getD kk z70)).txt from c)] at h
    exact h
  · rw [e4, if_neg (show ¬ (eo b (X.getD i z70)).txt = (eo o (Y.getD kk z70)).txt from c)] at h
    exact Ev.neg (fun z => c (toList_inj.1 z)) (Ev.pos (by omega) ((zY out (b.getD i 0) 4 (by omega)).bind (VU X Y b o i kk hb ho hbl hX hY hi hk R _ (by rw [Ek]; omega) h)))
include hb ho hbl hX hY hi hk in
theorem Z7 (out : List aw) (hn : out.length ≤ 997) (h : Ev (fun k => bp.l0 k b o X Y (pD (e3 (eo b (X.getD i z70)) (eo o (Y.getD kk z70)) (b.getD i 0) ++ (e4 (eo b (X.getD i z70)) (eo o (Y.getD kk z70)) (b.getD i 0) ++ (e5 (eo b (X.getD i z70)) (eo o (Y.getD kk z70)) (b.getD i 0) ++ e6 (eo b (X.getD i z70)) (eo o (Y.getD kk z70)) (b.getD i 0)))) out) ((i + 1 : Nat) : Int)) R) :
    Ev (fun k => (r_.f X b (i : Int)).bind fun t => (r_.f Y o (kk : Int)).bind fun u => if t = u then bp.j2 k b o X Y out (i : Int) (kk : Int) else (dK.f k out (rd b (i : Int)) 3).bind fun v => bp.j2 k b o X Y v (i : Int) (kk : Int)) R := by
  refine Ev.known (Yq hi (by rw [hb]; exact (hX _ (Bk hi)).1)) (Ev.known (Yq hk (by rw [ho]; exact (hY _ (Bk hk)).1)) ?_)
  rw [Ad] at h
  by_cases c : (eo b (X.getD i z70)).par = (eo o (Y.getD kk z70)).par
  · refine Ev.pos c (Wu X Y b o i kk hb ho hbl hX hY hi hk R out (by omega) ?_)
    rw [e3, if_pos c] at h
    exact h
  · rw [e3, if_neg c] at h
    exact Ev.neg c ((zY out (b.getD i 0) 3 (by omega)).bind (Wu X Y b o i kk hb ho hbl hX hY hi hk R _ (by rw [Ek]; omega) h))
end
theorem Vb {l : List Int} {n : Int} : n ∈ l ↔ ∃ i, i < l.length ∧ l.getD i 0 = n := by
  constructor
  · intro h
    obtain ⟨i, hi, e⟩ := List.getElem_of_mem h
    exact ⟨i, hi, by rw [qH hi, e]⟩
  · rintro ⟨i, hi, e⟩
    rw [qH hi] at e
    rw [← e]
    exact List.getElem_mem hi
section
variable (X Y : List bC) (b o : List Int) (hb : b.length = X.length) (ho : o.length = Y.length) (hbl : b.length ≤ 60) (L1 : o.length ≤ 60) (fb : uj b) (fo : uj o)
  (hX : ∀ r ∈ X, (r.f0 = -1 ∨ (0 ≤ r.f0 ∧ r.f0 < (X.length : Int))) ∧ (∀ k ∈ r.f4, 0 ≤ k ∧ k < (X.length : Int)) ∧ r.f3.length ≤ 1000000 ∧ r.f4.length ≤ 1000000)
  (hY : ∀ r ∈ Y, (r.f0 = -1 ∨ (0 ≤ r.f0 ∧ r.f0 < (Y.length : Int))) ∧ (∀ k ∈ r.f4, 0 ≤ k ∧ k < (Y.length : Int)) ∧ r.f3.length ≤ 1000000 ∧ r.f4.length ≤ 1000000)
include ho hbl L1 fo in
theorem rl1 : ∀ d i (out : List aw), i + d = Y.length → out.length ≤ 240 + i → Ev (fun k => bp.l1 k b o Y out (i : Int)) (pD (((o.drop i).filter (fun a => decide (¬ a ∈ b))).flatMap (jb (eX X b b.length) (eX Y o o.length))) out, 0) := by
  intro d
  induction d with
  | zero =>
    intro i out hi hn
    refine Ev.step (fun k => by rw [bp.l1]) (Ev.neg (by omega) ?_)
    rw [List.drop_of_length_le (by omega)]
    exact Ev.now _
  | succ d ih =>
    intro i out hi hn
    have h : i < Y.length := by omega
    have h2 : i < o.length := by omega
    obtain ⟨r, er, q⟩ := Oo b (o.getD i 0) (by omega)
    refine Ev.step (fun k => by rw [bp.l1]) ?_
    refine Ev.pos (by omega) (Ev.pos (by omega) (Ev.pos (by omega) (er.bind ?_)))
    rw [lM h (by omega), List.drop_eq_getElem_cons h2, List.filter_cons]
    rcases q with ⟨q, q2⟩ | ⟨j, q, q1, q2, _⟩
    · have nm : ¬ o[i] ∈ b := fun z => by
        obtain ⟨j, hj, e⟩ := Vb.1 z
        exact q2 j hj (by rw [e, qH h2])
      have c : jb (eX X b b.length) (eX Y o o.length) o[i] = [⟨o.getD i 0, 1⟩] := by
        have g1 : cK (eX X b b.length) o[i] = none := (In X b o[i] b.length).2 (fun j hj => by rw [← qH h2]; exact q2 j hj)
        have g2 := JP Y fo o.length i (Nat.le_refl _) h2
        rw [qH h2] at g2
        unfold jb
        rw [g1, g2, qH h2]
      rw [if_pos (decide_eq_true nm), List.flatMap_cons, c, Ad]
      exact Ev.pos (by omega) ((zY out (o.getD i 0) 1 (by omega)).bind (ih (i + 1) _ (by omega) (by rw [Ek]; omega)))
    · have nm : ¬ (decide (¬ o[i] ∈ b) = true) := fun z => of_decide_eq_true z (Vb.2 ⟨j, q1, by rw [q2, qH h2]⟩)
      rw [if_neg nm]
      exact Ev.neg (by omega) (ih (i + 1) _ (by omega) (by omega))
include hb ho hbl L1 fb fo hX hY in
theorem rl0 (R : List aw × Int) : ∀ d i (out : List aw), i + d = X.length → out.length ≤ 4 * i → Ev (fun k => bp.l1 k b o Y (pD ((b.drop i).flatMap (jb (eX X b b.length) (eX Y o o.length))) out) 0) R → Ev (fun k => bp.l0 k b o X Y out (i : Int)) R := by
  intro d
  induction d with
  | zero =>
    intro i out hi hn hR
    rw [List.drop_of_length_le (by omega)] at hR
    refine Ev.step (fun k => by rw [bp.l0]) ?_
    exact Ev.neg (by omega) hR
  | succ d ih =>
    intro i out hi hn hR
    have h : i < X.length := by omega
    have h2 : i < b.length := by omega
    obtain ⟨r, er, q⟩ := Oo o (b.getD i 0) (by omega)
    have g1 := JP X fb b.length i (Nat.le_refl _) h2
    refine Ev.step (fun k => by rw [bp.l0]) ?_
    refine Ev.pos (by omega) (Ev.pos (by omega) (Ev.pos (by omega) (er.bind ?_)))
    rw [lM h (by omega)]
    rw [List.drop_eq_getElem_cons h2, List.flatMap_cons, ← qH h2, Ad] at hR
    rcases q with ⟨q, q2⟩ | ⟨j, q, q1, q2, _⟩
    · have c : jb (eX X b b.length) (eX Y o o.length) (b.getD i 0) = [⟨b.getD i 0, 2⟩] := by
        have g2 : cK (eX Y o o.length) (b.getD i 0) = none := (In Y o _ o.length).2 q2
        unfold jb
        rw [g1, g2]
      rw [c] at hR
      exact Ev.pos (by omega) ((zY out (b.getD i 0) 2 (by omega)).bind (ih (i + 1) _ (by omega) (by rw [Ek]; omega) hR))
    · have g2 := JP Y fo o.length j (Nat.le_refl _) q1
      rw [q2] at g2
      have c : jb (eX X b b.length) (eX Y o o.length) (b.getD i 0) = e3 (eo b (X.getD i z70)) (eo o (Y.getD j z70)) (b.getD i 0) ++ (e4 (eo b (X.getD i z70)) (eo o (Y.getD j z70)) (b.getD i 0) ++ (e5 (eo b (X.getD i z70)) (eo o (Y.getD j z70)) (b.getD i 0) ++ e6 (eo b (X.getD i z70)) (eo o (Y.getD j z70)) (b.getD i 0))) := by
        unfold jb
        rw [g1, g2]
        rfl
      rw [c] at hR
      have el := abb (eo b (X.getD i z70)) (eo o (Y.getD j z70)) (b.getD i 0)
      refine Ev.neg (by omega) ?_
      subst q
      have hk : j < Y.length := by omega
      refine Z7 X Y b o i j hb ho hbl hX hY h hk R out (by omega) ?_
      exact ih (i + 1) _ (by omega) (by rw [VW]; simp only [List.length_append]; omega) hR
end
theorem W6 (x : aX) (hx : j5 x) : ∀ r ∈ bk x (-1) 0, (r.f0 = -1 ∨ (0 ≤ r.f0 ∧ r.f0 < ((bk x (-1) 0).length : Int))) ∧ (∀ k ∈ r.f4, 0 ≤ k ∧ k < ((bk x (-1) 0).length : Int)) ∧ r.f3.length ≤ 1000000 ∧ r.f4.length ≤ 1000000 := fun r hr =>
  ⟨(LD x r hr).1, (LD x r hr).2, Ut x (xW hx) r hr, Pw x (xW hx) r hr⟩
theorem DP {x : aX} (hx : j5 x) : mc.f x.f0 x.f1 x.f2 x.f3 = some (bk x (-1) 0) := by
  have h := hx.1
  cases x
  unfold mc.f
  rw [if_pos (Nat.le_trans h (by decide))]
theorem ado {b o : List Int} (fb : uj b) (fo : uj o) : (b ++ o.filter (fun a => decide (¬ a ∈ b))).Perm (mh (b ++ o)) := by
  refine (List.perm_ext_iff_of_nodup ?_ ((AZ (b ++ o)).imp (fun h => Int.ne_of_lt h))).2 (fun a => ?_)
  · rw [List.nodup_append]
    refine ⟨Us fb, List.Pairwise.filter _ (Us fo), fun x hx y hy e => ?_⟩
    rw [List.mem_filter] at hy
    exact of_decide_eq_true hy.2 (by rw [← e]; exact hx)
  · rw [zc, List.mem_append, List.mem_append, List.mem_filter, decide_eq_true_eq]
    by_cases h : a ∈ b
    · exact ⟨fun _ => .inl h, fun _ => .inl h⟩
    · exact ⟨fun z => z.elim .inl (fun w => .inr w.1), fun z => z.elim .inl (fun w => .inr ⟨w, h⟩)⟩
theorem T' {x y : aX} {b o : List Int} (hx : j5 x) (hy : j5 y) (hb : b.length ≤ 60) (ho : o.length ≤ 60) :
    Ev (fun k => bp.f k x.f0 x.f1 x.f2 x.f3 y.f0 y.f1 y.f2 y.f3 b o) (if rc x y b o = true then (qI x y b o, 0) else ([], 15)) := by
  unfold bp.f
  refine Ev.known (DP hx) (Ev.known (DP hy) ?_)
  obtain ⟨t, et, qt⟩ := Xo b (bk x (-1) 0).length (by omega)
  obtain ⟨u, eu, qu⟩ := Xo o (bk y (-1) 0).length (by omega)
  have fx : k5 (bk x (-1) 0) b = t := by rw [Bool.eq_iff_iff, V2, qt]
  have fy : k5 (bk y (-1) 0) o = u := by rw [Bool.eq_iff_iff, V2, qu]
  have bad : Ev (fun k => bp.j0 k b o (bk x (-1) 0) (bk y (-1) 0) true) ([], 15) := Ev.step (fun k => by rw [bp.j0]) (Ev.pos rfl (Ev.now _))
  refine et.bind ?_
  unfold rc
  rw [fx, fy]
  cases t with
  | false => exact Ev.neg (by decide) bad
  | true =>
    refine Ev.pos rfl (eu.bind ?_)
    cases u with
    | false => exact bad
    | true =>
      obtain ⟨hlx, fb⟩ := qt.1 rfl
      obtain ⟨Yo, fo⟩ := qu.1 rfl
      refine Ev.step (fun k => by rw [bp.j0]) (Ev.neg (by decide) ?_)
      refine rl0 (bk x (-1) 0) (bk y (-1) 0) b o hlx.symm Yo.symm hb ho fb fo (W6 x hx) (W6 y hy) _ (bk x (-1) 0).length 0 [] (by omega) (by simp) ?_
      refine Ev.cast ?_ (rl1 (bk x (-1) 0) (bk y (-1) 0) b o Yo.symm hb ho fo (bk y (-1) 0).length 0 _ (by omega) ?_)
      · rw [← Ad, List.drop_zero, List.drop_zero, ← List.flatMap_append, akf _ _ (AZ (b ++ o)) (ado fb fo)]
        rfl
      · have h1 := PL (eX (bk x (-1) 0) b b.length) (eX (bk y (-1) 0) o o.length) b
        rw [VW, List.drop_zero]
        unfold lA at h1
        simp only [List.length_nil]
        omega
theorem JV (rows : List bC) (a : Int) : ∀ n, cK (iV rows n) a = if 0 ≤ a ∧ a < (n : Int) then some (rows.getD a.toNat z70).f1 else none
  | 0 => by rw [if_neg (by omega)]; rfl
  | n + 1 => by
    rw [iV, sh, JV rows a n]
    by_cases e : a = (n : Int)
    · rw [if_pos e, if_pos (by omega)]
      subst e
      rfl
    · rw [if_neg e]
      by_cases c : 0 ≤ a ∧ a < (n : Int)
      · rw [if_pos c, if_pos (by omega)]
      · rw [if_neg c, if_neg (by omega)]
def Compat (Y U : List bC) (lf rt : List Int) : Prop := ∀ i, i < lf.length → ∀ k, k < rt.length → rt.getD k 0 = lf.getD i 0 → (U.getD k z70).f1 = (Y.getD i z70).f1
theorem Wc {Y U : List bC} {lf rt : List Int} {count : Int} {K : List (Int × Int)} (hY : Y.length = lf.length) (hL : ls Y lf count K lf.length) :
    ls U rt count (gT Y lf count K) rt.length ↔ ls U rt count K rt.length ∧ Compat Y U lf rt := by
  have sL := (zR Y lf count K lf.length).2 hL
  rw [IP hY]
  constructor
  · intro hR
    refine ⟨fun i hi => ?_, fun i hi k hk e => ?_⟩
    · obtain ⟨b1, b2, b3, b4, b5⟩ := hR i hi
      refine ⟨b1, b2, b3, b4, ?_⟩
      by_cases hj : ∃ j, j < lf.length ∧ lf.getD j 0 = rt.getD i 0
      · obtain ⟨j, hj, he⟩ := hj
        have k1 := sL.h j hj
        have k2 := (hL j hj).2.2.2.2
        rw [he] at k1 k2
        rw [k1] at b5
        rcases b5 with b5 | b5
        · cases b5
        · rw [b5] at k2; exact k2
      · rw [sL.o _ (fun j hj' he => hj ⟨j, hj', he⟩)] at b5
        exact b5
    · have b5 := (hR k hk).2.2.2.2
      rw [e, sL.h i hi] at b5
      rcases b5 with b5 | b5
      · cases b5
      · exact (Option.some.inj b5).symm
  · rintro ⟨hR, hC⟩ i hi
    obtain ⟨b1, b2, b3, b4, b5⟩ := hR i hi
    refine ⟨b1, b2, b3, b4, ?_⟩
    by_cases hj : ∃ j, j < lf.length ∧ lf.getD j 0 = rt.getD i 0
    · obtain ⟨j, hj, he⟩ := hj
      have k1 := sL.h j hj
      rw [he] at k1
      rw [k1]
      exact .inr (congrArg some (hC j hj i hi he.symm).symm)
    · rw [sL.o _ (fun j hj' he => hj ⟨j, hj', he⟩)]
      exact b5
def yE (X O : List bC) (ids : List Int) (cnt : Int) : Prop := ids.length = O.length ∧ (∀ i, i < ids.length → 0 ≤ ids.getD i 0 ∧ ids.getD i 0 < cnt ∧ (∀ j, j < i → ids.getD j 0 ≠ ids.getD i 0) ∧ (ids.getD i 0 < (X.length : Int) → (X.getD (ids.getD i 0).toNat z70).f1 = (O.getD i z70).f1)) ∧
  (if (X.getD 0 z70).f1 = (O.getD 0 z70).f1 then ids.getD 0 0 = 0 else ∀ i, i < ids.length → ids.getD i 0 ≠ 0)
theorem Vk {X O : List bC} {ids : List Int} {cnt : Int} (hO : 0 < O.length) : yE X O ids cnt ↔ O.length = ids.length ∧ ls O ids cnt (iV X X.length) ids.length ∧ (ids.getD 0 0 = 0 ↔ (O.getD 0 z70).f1 = (X.getD 0 z70).f1) := by
  constructor
  · rintro ⟨h1, h2, h3⟩
    refine ⟨h1.symm, fun i hi => ?_, ?_⟩
    · obtain ⟨b1, b2, b3, b4⟩ := h2 i hi
      refine ⟨b1, b2, b3, fun z => ?_, ?_⟩
      · split at h3
        · exact Decidable.of_not_not fun n => b3 0 (by omega) (by rw [h3, z])
        · exact absurd z (h3 i hi)
      · rw [JV]
        by_cases c : 0 ≤ ids.getD i 0 ∧ ids.getD i 0 < (X.length : Int)
        · rw [if_pos c, b4 c.2]; exact .inr rfl
        · rw [if_neg c]; exact .inl rfl
    · split at h3
      · rename_i e
        exact ⟨fun _ => e.symm, fun _ => h3⟩
      · rename_i e
        exact ⟨fun z => absurd z (h3 0 (by omega)), fun z => absurd z.symm e⟩
  · rintro ⟨h1, h2, h3⟩
    refine ⟨h1.symm, fun i hi => ?_, ?_⟩
    · obtain ⟨b1, b2, b3, b4, b5⟩ := h2 i hi
      refine ⟨b1, b2, b3, fun c => ?_⟩
      rw [JV, if_pos ⟨b1, c⟩] at b5
      rcases b5 with b5 | b5
      · cases b5
      · exact Option.some.inj b5
    · split
      · rename_i e
        exact h3.2 e.symm
      · rename_i e
        intro i hi z
        have hz := (h2 i hi).2.2.2.1 z
        subst hz
        exact e (h3.1 z).symm
theorem Yu {x y u : aX} {b lf rt : List Int} {cnt : Int} (hb : b.length = (bk x (-1) 0).length) (hc : ((bk x (-1) 0).length : Int) ≤ cnt)
    (hY : (bk y (-1) 0).length = lf.length) (hU : (bk u (-1) 0).length = rt.length) (hL : ls (bk y (-1) 0) lf cnt (iV (bk x (-1) 0) b.length) lf.length)
    (hR : ls (bk u (-1) 0) rt cnt (gT (bk y (-1) 0) lf cnt (iV (bk x (-1) 0) b.length)) rt.length) :
    ((gT (bk u (-1) 0) rt cnt (gT (bk y (-1) 0) lf cnt (iV (bk x (-1) 0) b.length))).length : Int) = cnt ↔
    cnt ≤ ((bk x (-1) 0).length : Int) + (lf.length : Int) + (rt.length : Int) ∧ ∀ id : Int, ((bk x (-1) 0).length : Int) ≤ id → id < cnt → (∃ i, i < lf.length ∧ lf.getD i 0 = id) ∨ ∃ i, i < rt.length ∧ rt.getD i 0 = id := by
  have nd := Cd (bk u (-1) 0) rt cnt _ (Cd (bk y (-1) 0) lf cnt _ (O_ (bk x (-1) 0) b.length))
  have key : ∀ a, a ∈ (gT (bk u (-1) 0) rt cnt (gT (bk y (-1) 0) lf cnt (iV (bk x (-1) 0) b.length))).map (fun p => p.1) ↔ ((0 ≤ a ∧ a < (b.length : Int)) ∨ ∃ i, i < lf.length ∧ lf.getD i 0 = a) ∨ ∃ i, i < rt.length ∧ rt.getD i 0 = a := fun a => by
    rw [BK hU hR, BK hY hL]
    have k0 : a ∈ (iV (bk x (-1) 0) b.length).map (fun p => p.1) ↔ 0 ≤ a ∧ a < (b.length : Int) := by
      have g := tq a (iV (bk x (-1) 0) b.length)
      rw [JV] at g
      by_cases c : 0 ≤ a ∧ a < (b.length : Int)
      · rw [if_pos c] at g
        exact ⟨fun _ => c, fun _ => Decidable.of_not_not fun z => by cases g.2 z⟩
      · rw [if_neg c] at g
        exact ⟨fun z => absurd z (g.1 rfl), fun z => absurd z c⟩
    rw [k0]
  have q1 := HD (bk u (-1) 0) rt cnt (gT (bk y (-1) 0) lf cnt (iV (bk x (-1) 0) b.length))
  have q2 := HD (bk y (-1) 0) lf cnt (iV (bk x (-1) 0) b.length)
  have q3 := P2 (bk x (-1) 0) b.length
  generalize gT (bk u (-1) 0) rt cnt (gT (bk y (-1) 0) lf cnt (iV (bk x (-1) 0) b.length)) = K2 at nd key q1 ⊢
  have rng : ∀ a : Int, a ∈ (List.range cnt.toNat).map (fun n : Nat => (n : Int)) ↔ 0 ≤ a ∧ a < cnt := fun a => by
    rw [List.mem_map]
    constructor
    · rintro ⟨n, hn, rfl⟩
      have := List.mem_range.1 hn
      omega
    · intro h
      exact ⟨a.toNat, List.mem_range.2 (by omega), by omega⟩
  have sub : ∀ a, a ∈ K2.map (fun p => p.1) → 0 ≤ a ∧ a < cnt := fun a ha => by
    rcases (key a).1 ha with (h | ⟨i, hi, rfl⟩) | ⟨i, hi, rfl⟩
    · omega
    · exact ⟨(hL i hi).1, (hL i hi).2.1⟩
    · exact ⟨(hR i hi).1, (hR i hi).2.1⟩
  constructor
  · intro h
    refine ⟨by omega, fun id h1 h2 => ?_⟩
    have hm : id ∈ K2.map (fun p => p.1) := Decidable.of_not_not fun z => by
      have n2 : (id :: K2.map (fun p => p.1)).Nodup := List.nodup_cons.2 ⟨z, nd⟩
      have l := n2.length_le_of_subset (l₂ := (List.range cnt.toNat).map (fun n : Nat => (n : Int))) (fun a ha => (rng a).2 ((List.mem_cons.1 ha).elim (fun e => by rw [e]; omega) (sub a)))
      rw [List.length_cons, List.length_map, List.length_map, List.length_range] at l
      omega
    rcases (key id).1 hm with (z | z) | z
    · omega
    · exact .inl z
    · exact .inr z
  · rintro ⟨_, h⟩
    have nr : ((List.range cnt.toNat).map (fun n : Nat => (n : Int))).Nodup := by
      refine List.Pairwise.map _ (fun a b hab e => hab (by omega)) List.nodup_range
    have l1 := nr.length_le_of_subset (l₂ := K2.map (fun p => p.1)) (fun a ha => by
      have := (rng a).1 ha
      refine (key a).2 ?_
      by_cases c : a < (b.length : Int)
      · exact .inl (.inl ⟨this.1, c⟩)
      · exact (h a (by omega) this.2).elim (fun z => .inl (.inr z)) .inr)
    have l2 := nd.length_le_of_subset (l₂ := (List.range cnt.toNat).map (fun n : Nat => (n : Int))) (fun a ha => (rng a).2 (sub a ha))
    rw [List.length_map, List.length_map, List.length_range] at l1 l2
    omega
def RC (x y u : aX) (b lf rt : List Int) (cnt : Int) : Prop :=
  b.length = (bk x (-1) 0).length ∧ yE (bk x (-1) 0) (bk y (-1) 0) lf cnt ∧ yE (bk x (-1) 0) (bk u (-1) 0) rt cnt ∧ cnt ≤ ((bk x (-1) 0).length : Int) + (lf.length : Int) + (rt.length : Int) ∧
  (∀ i, i < b.length → b.getD i 0 = (i : Int) ∧ (i : Int) < cnt) ∧ Compat (bk y (-1) 0) (bk u (-1) 0) lf rt ∧
  ∀ id : Int, ((bk x (-1) 0).length : Int) ≤ id → id < cnt → (∃ i, i < lf.length ∧ lf.getD i 0 = id) ∨ ∃ i, i < rt.length ∧ rt.getD i 0 = id
theorem AC (x : aX) : 0 < (bk x (-1) 0).length ∧ ((bk x (-1) 0).getD 0 z70).f1 = x.f0 := by
  rw [vC]
  exact ⟨Nat.succ_pos _, rfl⟩
theorem YW (x y u : aX) (b lf rt : List Int) (cnt : Int) : lB x y u b lf rt cnt = true ↔ RC x y u b lf rt cnt := by
  unfold lB RC
  simp only [Bool.and_eq_true, decide_eq_true_eq]
  obtain ⟨px, kx⟩ := AC x
  obtain ⟨py, ky⟩ := AC y
  obtain ⟨pu, ku⟩ := AC u
  rw [vZ, vZ, Vk py, Vk pu, kx, ky, ku]
  constructor
  · rintro ⟨h1, h2, h3, ⟨l1, l2, l3⟩, ⟨r1, r2, r3⟩, h6⟩
    have c := (Yu h1 h2 l1 r1 l2 r2).1 h6
    have k := (Wc l1 l2).1 r2
    rw [h1] at l2 k
    exact ⟨h1, ⟨l1, l2, l3⟩, ⟨r1, k.1, r3⟩, c.1, fun i hi => ⟨h3 i hi, by omega⟩, k.2, c.2⟩
  · rintro ⟨h1, ⟨l1, l2, l3⟩, ⟨r1, r2, r3⟩, c1, h3, k, c2⟩
    have h2 : ((bk x (-1) 0).length : Int) ≤ cnt := by
      have := (h3 ((bk x (-1) 0).length - 1) (by omega)).2
      omega
    rw [← h1] at l2 r2
    have Tj := (Wc (U := bk u (-1) 0) (rt := rt) l1 l2).2 ⟨r2, k⟩
    exact ⟨h1, h2, fun i hi => (h3 i hi).1, ⟨l1, l2, l3⟩, ⟨r1, Tj, r3⟩, (Yu h1 h2 l1 r1 l2 Tj).2 ⟨c1, c2⟩⟩
theorem GX (l : List Int) (n : Int) (hl : l.length ≤ 1000000) : ∃ r, Ev (fun k => dh.f k l n) r ∧ ((r = -1 ∧ ∀ i, i < l.length → l.getD i 0 ≠ n) ∨ ∃ i, r = ((i : Nat) : Int) ∧ i < l.length ∧ l.getD i 0 = n ∧ ∀ j, j < i → l.getD j 0 ≠ n) := by
  have loop : ∀ d i, i + d = l.length → (∀ j, j < i → l.getD j 0 ≠ n) → ∃ r, Ev (fun k => dh.l0 k l n (i : Int)) r ∧ ((r = -1 ∧ ∀ i, i < l.length → l.getD i 0 ≠ n) ∨ ∃ i, r = ((i : Nat) : Int) ∧ i < l.length ∧ l.getD i 0 = n ∧ ∀ j, j < i → l.getD j 0 ≠ n) := by
    intro d
    induction d with
    | zero =>
      intro i hi hj
      exact ⟨-1, Ev.step (fun k => by rw [dh.l0]) (Ev.neg (by omega) (Ev.now _)), .inl ⟨rfl, fun j h => hj j (by omega)⟩⟩
    | succ d ih =>
      intro i hi hj
      have h : i < l.length := by omega
      by_cases e : l.getD i 0 = n
      · refine ⟨(i : Int), Ev.step (fun k => by rw [dh.l0]) ?_, .inr ⟨i, rfl, h, e, hj⟩⟩
        exact Ev.pos (by omega) (Ev.pos (by omega) (Ev.pos e (Ev.now _)))
      · obtain ⟨r, er, q⟩ := ih (i + 1) (by omega) (fun j hj' => if hh : j = i then by rw [hh]; exact e else hj j (by omega))
        refine ⟨r, Ev.step (fun k => by rw [dh.l0]) ?_, q⟩
        refine Ev.pos (by omega) (Ev.pos (by omega) (Ev.neg e ?_))
        rw [lM h (by omega)]
        exact er
  exact loop l.length 0 (by omega) (fun j hj => absurd hj (Nat.not_lt_zero j))
theorem Ua (X O : List bC) (ids : List Int) (cnt : Int) (hX : 0 < X.length) (hO : 0 < O.length) (hl : ids.length ≤ 1000000) : ∃ t, Ev (fun k => cV.f k X O ids cnt) t ∧ (t = true ↔ yE X O ids cnt) := by
  obtain ⟨z, ez, qz⟩ := GX ids 0 hl
  unfold cV.f yE
  by_cases hlen : (ids.length : Int) = (O.length : Int)
  · have loop : ∀ d i, i + d = ids.length → ∃ t, Ev (fun k => cV.l0 k X O ids cnt (i : Int)) t ∧ (t = true ↔ (∀ a, i ≤ a → a < ids.length → 0 ≤ ids.getD a 0 ∧ ids.getD a 0 < cnt ∧ (∀ j, j < a → ids.getD j 0 ≠ ids.getD a 0) ∧ (ids.getD a 0 < (X.length : Int) → (X.getD (ids.getD a 0).toNat z70).f1 = (O.getD a z70).f1)) ∧
        (if (X.getD 0 z70).f1 = (O.getD 0 z70).f1 then ids.getD 0 0 = 0 else ∀ i, i < ids.length → ids.getD i 0 ≠ 0)) := by
      intro d
      induction d with
      | zero =>
        intro i hi
        by_cases c : (X.getD 0 z70).f1 = (O.getD 0 z70).f1
        · refine ⟨z == 0, ?_, ?_⟩
          · refine Ev.step (fun k => by rw [cV.l0]) ?_
            exact Ev.neg (by omega) (ez.bind (Ev.pos (by omega) (Ev.pos (by omega) (Ev.pos c (Ev.now _)))))
          · rw [if_pos c, beq_iff_eq]
            refine ⟨fun e => ⟨fun a h1 h2 => by omega, ?_⟩, fun e => ?_⟩
            · rcases qz with ⟨q, _⟩ | ⟨a, q, _, q2, _⟩
              · omega
              · have : a = 0 := by omega
                subst this
                exact q2
            · rcases qz with ⟨_, q⟩ | ⟨a, q, _, _, q3⟩
              · exact absurd e.2 (q 0 (by omega))
              · have : a = 0 := Decidable.of_not_not fun n => q3 0 (by omega) e.2
                rw [q, this]
                rfl
        · refine ⟨decide (z < 0), ?_, ?_⟩
          · refine Ev.step (fun k => by rw [cV.l0]) ?_
            exact Ev.neg (by omega) (ez.bind (Ev.pos (by omega) (Ev.pos (by omega) (Ev.neg c (Ev.now _)))))
          · rw [if_neg c, decide_eq_true_eq]
            refine ⟨fun e => ⟨fun a h1 h2 => by omega, ?_⟩, fun e => ?_⟩
            · rcases qz with ⟨_, q⟩ | ⟨a, q, _⟩
              · exact q
              · omega
            · rcases qz with ⟨q, _⟩ | ⟨a, q, q1, q2, _⟩
              · omega
              · exact absurd q2 (e.2 a q1)
      | succ d ih =>
        intro i hi
        have h : i < ids.length := by omega
        have hiO : i < O.length := by omega
        have e0 : rd ids (i : Int) = ids.getD i 0 := rfl
        have bad : Ev (fun k => cV.j1 k X O ids cnt (i : Int) true) false := Ev.step (fun k => by rw [cV.j1]) (Ev.pos rfl (Ev.now _))
        by_cases c1 : ids.getD i 0 < 0
        · refine ⟨false, ?_, fun z => (by cases z), fun z => absurd (z.1 i (Nat.le_refl _) h).1 (by omega)⟩
          refine Ev.step (fun k => by rw [cV.l0, e0]) ?_
          exact Ev.pos (by omega) (Ev.pos (by omega) (Ev.pos c1 bad))
        · by_cases c2 : ids.getD i 0 ≥ cnt
          · refine ⟨false, ?_, fun z => (by cases z), fun z => absurd (z.1 i (Nat.le_refl _) h).2.1 (by omega)⟩
            refine Ev.step (fun k => by rw [cV.l0, e0]) ?_
            exact Ev.pos (by omega) (Ev.pos (by omega) (Ev.neg c1 (Ev.pos c2 bad)))
          · obtain ⟨r, er, q⟩ := GX ids (ids.getD i 0) hl
            have run : ∀ t, Ev (fun k => cV.j1 k X O ids cnt (i : Int) (r != (i : Int))) t → Ev (fun k => cV.l0 k X O ids cnt (i : Int)) t := by
              intro t ht
              refine Ev.step (fun k => by rw [cV.l0, e0]) ?_
              exact Ev.pos (by omega) (Ev.pos (by omega) (Ev.neg c1 (Ev.neg c2 (er.bind ht))))
            by_cases e : r = (i : Int)
            · have first : ∀ j, j < i → ids.getD j 0 ≠ ids.getD i 0 := by
                rcases q with ⟨q, _⟩ | ⟨a, q, _, _, q2⟩
                · omega
                · have : a = i := by omega
                  subst this
                  exact q2
              rw [show (r != (i : Int)) = false from by rw [e]; simp] at run
              obtain ⟨t, et, qt⟩ := ih (i + 1) (by omega)
              by_cases c3 : ids.getD i 0 < (X.length : Int)
              · by_cases c4 : (X.getD (ids.getD i 0).toNat z70).f1 = (O.getD i z70).f1
                · refine ⟨t, run t ?_, ?_⟩
                  · refine Ev.step (fun k => by rw [cV.j1, e0, lM h (by omega)]) ?_
                    exact Ev.neg (by decide) (Ev.pos (by omega) (Ev.pos (by omega) (Ev.pos c3 (Ev.pos (by omega) (Ev.pos (by omega) (Ev.pos c4 et))))))
                  · rw [qt]
                    exact ⟨fun z => ⟨fun a h1 h2 => if hh : a = i then by rw [hh]; exact ⟨by omega, by omega, first, fun _ => c4⟩ else z.1 a (by omega) h2, z.2⟩, fun z => ⟨fun a h1 h2 => z.1 a (by omega) h2, z.2⟩⟩
                · refine ⟨false, run false ?_, fun z => (by cases z), fun z => absurd ((z.1 i (Nat.le_refl _) h).2.2.2 c3) c4⟩
                  refine Ev.step (fun k => by rw [cV.j1, e0]) ?_
                  exact Ev.neg (by decide) (Ev.pos (by omega) (Ev.pos (by omega) (Ev.pos c3 (Ev.pos (by omega) (Ev.pos (by omega) (Ev.neg c4 (Ev.now _)))))))
              · refine ⟨t, run t ?_, ?_⟩
                · refine Ev.step (fun k => by rw [cV.j1, e0, lM h (by omega)]) ?_
                  exact Ev.neg (by decide) (Ev.pos (by omega) (Ev.pos (by omega) (Ev.neg c3 et)))
                · rw [qt]
                  exact ⟨fun z => ⟨fun a h1 h2 => if hh : a = i then by rw [hh]; exact ⟨by omega, by omega, first, fun w => absurd w c3⟩ else z.1 a (by omega) h2, z.2⟩, fun z => ⟨fun a h1 h2 => z.1 a (by omega) h2, z.2⟩⟩
            · refine ⟨false, run false ?_, fun z => (by cases z), fun z => ?_⟩
              · rw [show (r != (i : Int)) = true from bne_iff_ne.2 e]
                exact bad
              · have zi := (z.1 i (Nat.le_refl _) h).2.2.1
                exfalso
                rcases q with ⟨_, q⟩ | ⟨a, q, q1, q2, q3⟩
                · exact q i h rfl
                · have n1 : a ≠ i := fun w => e (by rw [q, w])
                  have n2 : ¬ i < a := fun w => q3 i w rfl
                  exact zi a (by omega) q2
    obtain ⟨t, e, q⟩ := loop ids.length 0 (by omega)
    exact ⟨t, Ev.pos hlen e, q.trans ⟨fun w => ⟨by omega, fun i hi => w.1 i (Nat.zero_le _) hi, w.2⟩, fun w => ⟨fun a _ h2 => w.2.1 a h2, w.2.2⟩⟩⟩
  · exact ⟨false, Ev.neg hlen (Ev.now _), fun w => (by cases w), fun w => absurd w.1 (by omega)⟩
theorem wrap_small {a : Int} (h0 : 0 ≤ a) (h1 : a ≤ 1000000) : wrap64 a = a := by unfold wrap64; omega
def Id (lf rt : List Int) (m : Nat) (cnt : Int) : Prop := ∀ id : Int, (m : Int) ≤ id → id < cnt → (∃ i, i < lf.length ∧ lf.getD i 0 = id) ∨ ∃ i, i < rt.length ∧ rt.getD i 0 = id
theorem ck2 (b lf rt : List Int) (cnt : Int) (hl : lf.length ≤ 60) (hr : rt.length ≤ 60) (hc : cnt ≤ 1000) : ∀ d m : Nat, m ≤ 1000 → cnt ≤ (m : Int) + (d : Int) → ∃ t, Ev (fun k => cn.l2 k (m : Int) b lf rt cnt) t ∧ (t = 0 ∨ t = 15) ∧ (t = 0 ↔ Id lf rt m cnt) := by
  intro d
  induction d with
  | zero =>
    intro m hm h
    refine ⟨0, ?_, .inl rfl, fun _ id h1 h2 => by omega, fun _ => rfl⟩
    refine Ev.step (fun k => by rw [cn.l2]) ?_
    exact Ev.neg (by omega) (Ev.now _)
  | succ d ih =>
    intro m hm h
    by_cases c : (m : Int) < cnt
    · obtain ⟨r, er, q⟩ := GX lf (m : Int) (by omega)
      obtain ⟨s, es, p⟩ := GX rt (m : Int) (by omega)
      obtain ⟨t, et, q1, q2⟩ := ih (m + 1) (by omega) (by omega)
      have hw : wrap64 ((m : Int) + 1) = ((m + 1 : Nat) : Int) := by unfold wrap64; omega
      have go : (∃ i, i < lf.length ∧ lf.getD i 0 = (m : Int)) ∨ (∃ i, i < rt.length ∧ rt.getD i 0 = (m : Int)) → (t = 0 ↔ Id lf rt m cnt) := fun w => by
        rw [q2]
        exact ⟨fun z id h1 h2 => if hh : id = (m : Int) then by rw [hh]; exact w else z id (by omega) h2, fun z id h1 h2 => z id (by omega) h2⟩
      by_cases c2 : r < 0
      · have nl : ∀ i, i < lf.length → lf.getD i 0 ≠ (m : Int) := by
          rcases q with ⟨_, q⟩ | ⟨a, q, _⟩
          · exact q
          · omega
        by_cases c3 : s < 0
        · have nr : ∀ i, i < rt.length → rt.getD i 0 ≠ (m : Int) := by
            rcases p with ⟨_, p⟩ | ⟨a, p, _⟩
            · exact p
            · omega
          refine ⟨15, ?_, .inr rfl, fun z => by omega, fun z => ?_⟩
          · refine Ev.step (fun k => by rw [cn.l2]) ?_
            exact Ev.pos c (er.bind (Ev.pos c2 (es.bind (Ev.pos c3 (Ev.now _)))))
          · rcases z (m : Int) (by omega) c with ⟨i, hi, e⟩ | ⟨i, hi, e⟩
            · exact absurd e (nl i hi)
            · exact absurd e (nr i hi)
        · refine ⟨t, ?_, q1, go ?_⟩
          · refine Ev.step (fun k => by rw [cn.l2, hw]) ?_
            exact Ev.pos c (er.bind (Ev.pos c2 (es.bind (Ev.neg c3 et))))
          · rcases p with ⟨p, _⟩ | ⟨a, _, p1, p2, _⟩
            · omega
            · exact .inr ⟨a, p1, p2⟩
      · refine ⟨t, ?_, q1, go ?_⟩
        · refine Ev.step (fun k => by rw [cn.l2, hw]) ?_
          exact Ev.pos c (er.bind (Ev.neg c2 et))
        · rcases q with ⟨q, _⟩ | ⟨a, _, p1, p2, _⟩
          · omega
          · exact .inl ⟨a, p1, p2⟩
    · refine ⟨0, ?_, .inl rfl, fun _ id h1 h2 => by omega, fun _ => rfl⟩
      refine Ev.step (fun k => by rw [cn.l2]) ?_
      exact Ev.neg c (Ev.now _)
theorem ck1 (X Y U : List bC) (b lf rt : List Int) (cnt : Int) (hX : X.length ≤ 60) (hY : lf.length = Y.length) (hU : rt.length = U.length) (hl : lf.length ≤ 60) (hr : rt.length ≤ 60) (hc : cnt ≤ 1000) (hd : ∀ i, i < rt.length → ∀ j, j < i → rt.getD j 0 ≠ rt.getD i 0) :
    ∀ d i, i + d = Y.length → ∃ t, Ev (fun k => cn.l1 k X Y U (i : Int) b lf rt cnt) t ∧ (t = 0 ∨ t = 15) ∧ (t = 0 ↔ (∀ a, i ≤ a → a < lf.length → ∀ k, k < rt.length → rt.getD k 0 = lf.getD a 0 → (U.getD k z70).f1 = (Y.getD a z70).f1) ∧ Id lf rt X.length cnt) := by
  intro d
  induction d with
  | zero =>
    intro i hi
    obtain ⟨t, et, q1, q2⟩ := ck2 b lf rt cnt hl hr hc 1000 X.length (by omega) (by omega)
    refine ⟨t, ?_, q1, q2.trans ⟨fun z => ⟨fun a h1 h2 => by omega, z⟩, fun z => z.2⟩⟩
    refine Ev.step (fun k => by rw [cn.l1]) ?_
    exact Ev.neg (by omega) et
  | succ d ih =>
    intro i hi
    have h : i < Y.length := by omega
    obtain ⟨r, er, q⟩ := GX rt (lf.getD i 0) (by omega)
    obtain ⟨t, et, q1, q2⟩ := ih (i + 1) (by omega)
    by_cases c : r ≥ 0
    · rcases q with ⟨q, _⟩ | ⟨k, q, k1, k2, _⟩
      · omega
      · subst q
        by_cases c2 : (U.getD k z70).f1 = (Y.getD i z70).f1
        · refine ⟨t, ?_, q1, ?_⟩
          · refine Ev.step (fun k => by rw [cn.l1, lM h (by omega)]) ?_
            exact Ev.pos (by omega) (Ev.pos (by omega) (Ev.pos (by omega) (er.bind (Ev.pos c (Ev.pos (by omega) (Ev.pos (by omega) (Ev.pos c2 et)))))))
          · rw [q2]
            refine ⟨fun z => ⟨fun a h1 h2 k' hk' e => ?_, z.2⟩, fun z => ⟨fun a h1 h2 => z.1 a (by omega) h2, z.2⟩⟩
            by_cases hh : a = i
            · subst hh
              have : k' = k := by
                rcases Nat.lt_trichotomy k' k with w | w | w
                · exact absurd (by rw [e, k2]) (hd k k1 k' w)
                · exact w
                · exact absurd (by rw [e, k2]) (hd k' hk' k w)
              rw [this]
              exact c2
            · exact z.1 a (by omega) h2 k' hk' e
        · refine ⟨15, ?_, .inr rfl, fun z => by omega, fun z => absurd (z.1 i (Nat.le_refl _) (by omega) k k1 k2) c2⟩
          refine Ev.step (fun k => by rw [cn.l1]) ?_
          exact Ev.pos (by omega) (Ev.pos (by omega) (Ev.pos (by omega) (er.bind (Ev.pos c (Ev.pos (by omega) (Ev.pos (by omega) (Ev.neg c2 (Ev.now _))))))))
    · have nr : ∀ k, k < rt.length → rt.getD k 0 ≠ lf.getD i 0 := by
        rcases q with ⟨_, q⟩ | ⟨a, q, _⟩
        · exact q
        · omega
      refine ⟨t, ?_, q1, ?_⟩
      · refine Ev.step (fun k => by rw [cn.l1, lM h (by omega)]) ?_
        exact Ev.pos (by omega) (Ev.pos (by omega) (Ev.pos (by omega) (er.bind (Ev.neg c et))))
      · rw [q2]
        exact ⟨fun z => ⟨fun a h1 h2 k' hk' e => if hh : a = i then absurd (by rw [e, hh]) (nr k' hk') else z.1 a (by omega) h2 k' hk' e, z.2⟩, fun z => ⟨fun a h1 h2 => z.1 a (by omega) h2, z.2⟩⟩
theorem ck0 (X Y U : List bC) (b lf rt : List Int) (cnt : Int) (hb : b.length = X.length) (hX : X.length ≤ 60) (hY : lf.length = Y.length) (hU : rt.length = U.length) (hl : lf.length ≤ 60) (hr : rt.length ≤ 60) (hc : cnt ≤ 1000) (hd : ∀ i, i < rt.length → ∀ j, j < i → rt.getD j 0 ≠ rt.getD i 0) :
    ∀ d i, i + d = X.length → ∃ t, Ev (fun k => cn.l0 k X Y U (i : Int) b lf rt cnt) t ∧ (t = 0 ∨ t = 15) ∧ (t = 0 ↔ (∀ a, i ≤ a → a < b.length → b.getD a 0 = (a : Int) ∧ (a : Int) < cnt) ∧ Compat Y U lf rt ∧ Id lf rt X.length cnt) := by
  intro d
  induction d with
  | zero =>
    intro i hi
    obtain ⟨t, et, q1, q2⟩ := ck1 X Y U b lf rt cnt hX hY hU hl hr hc hd Y.length 0 (by omega)
    refine ⟨t, ?_, q1, q2.trans ⟨fun z => ⟨fun a h1 h2 => by omega, fun a ha => z.1 a (Nat.zero_le _) ha, z.2⟩, fun z => ⟨fun a _ ha => z.2.1 a ha, z.2.2⟩⟩⟩
    refine Ev.step (fun k => by rw [cn.l0]) ?_
    exact Ev.neg (by omega) et
  | succ d ih =>
    intro i hi
    have h : i < X.length := by omega
    have e0 : rd b (i : Int) = b.getD i 0 := rfl
    obtain ⟨t, et, q1, q2⟩ := ih (i + 1) (by omega)
    by_cases c : b.getD i 0 = (i : Int)
    · by_cases c2 : (i : Int) ≥ cnt
      · refine ⟨15, ?_, .inr rfl, fun z => by omega, fun z => absurd (z.1 i (Nat.le_refl _) (by omega)).2 (by omega)⟩
        refine Ev.step (fun k => by rw [cn.l0, e0]) ?_
        exact Ev.pos (by omega) (Ev.pos (by omega) (Ev.pos (by omega) (Ev.pos c (Ev.pos c2 (Ev.now _)))))
      · refine ⟨t, ?_, q1, ?_⟩
        · refine Ev.step (fun k => by rw [cn.l0, e0, lM h (by omega)]) ?_
          exact Ev.pos (by omega) (Ev.pos (by omega) (Ev.pos (by omega) (Ev.pos c (Ev.neg c2 et))))
        · rw [q2]
          exact ⟨fun z => ⟨fun a h1 h2 => if hh : a = i then by rw [hh]; exact ⟨c, by omega⟩ else z.1 a (by omega) h2, z.2⟩, fun z => ⟨fun a h1 h2 => z.1 a (by omega) h2, z.2⟩⟩
    · refine ⟨15, ?_, .inr rfl, fun z => by omega, fun z => absurd (z.1 i (Nat.le_refl _) (by omega)).1 c⟩
      refine Ev.step (fun k => by rw [cn.l0, e0]) ?_
      exact Ev.pos (by omega) (Ev.pos (by omega) (Ev.pos (by omega) (Ev.neg c (Ev.now _))))
theorem rck (X Y U : List bC) (b lf rt : List Int) (cnt : Int) (px : 0 < X.length) (py : 0 < Y.length) (pu : 0 < U.length) (bx : X.length ≤ 60) (by' : Y.length ≤ 60) (bu : U.length ≤ 60) (hb : b.length ≤ 60) (hl : lf.length ≤ 60) (hr : rt.length ≤ 60) : ∃ t, Ev (fun k => (if (b.length : Int) = (X.length : Int) then ((cV.f k X Y lf cnt).bind fun sm => (if sm = true then ((cV.f k X U rt cnt).bind fun uf => (if uf = true then (cn.j0 k X Y U (decide (cnt > (wrap64 ((wrap64 ((X.length : Int) + (Y.length : Int))) + (U.length : Int))))) b lf rt cnt) else (cn.j0 k X Y U true b lf rt cnt))) else (cn.j0 k X Y U true b lf rt cnt))) else (cn.j0 k X Y U true b lf rt cnt))) t ∧ (t = 0 ∨ t = 15) ∧ (t = 0 ↔ b.length = X.length ∧ yE X Y lf cnt ∧ yE X U rt cnt ∧ cnt ≤ (X.length : Int) + (lf.length : Int) + (rt.length : Int) ∧ (∀ i, i < b.length → b.getD i 0 = (i : Int) ∧ (i : Int) < cnt) ∧ Compat Y U lf rt ∧ ∀ id : Int, (X.length : Int) ≤ id → id < cnt → (∃ i, i < lf.length ∧ lf.getD i 0 = id) ∨ ∃ i, i < rt.length ∧ rt.getD i 0 = id) := by
  have hw : wrap64 ((wrap64 ((X.length : Int) + (Y.length : Int))) + (U.length : Int)) = (X.length : Int) + (Y.length : Int) + (U.length : Int) := by
    rw [wrap_small (a := (X.length : Int) + (Y.length : Int)) (by omega) (by omega), wrap_small (by omega) (by omega)]
  have bad : Ev (fun k => cn.j0 k X Y U true b lf rt cnt) 15 := Ev.step (fun k => by rw [cn.j0]) (Ev.pos rfl (Ev.now _))
  by_cases c1 : b.length = X.length
  · obtain ⟨t1, IF, q1⟩ := Ua X Y lf cnt px py (by omega)
    cases t1 with
    | false => exact ⟨15, (Ev.pos (by omega) (IF.bind (Ev.neg (by decide) bad))), .inr rfl, fun z => by omega, fun z => by cases q1.2 z.2.1⟩
    | true =>
      obtain ⟨t2, OJ, q2⟩ := Ua X U rt cnt px pu (by omega)
      cases t2 with
      | false => exact ⟨15, (Ev.pos (by omega) (IF.bind (Ev.pos rfl (OJ.bind (Ev.neg (by decide) bad))))), .inr rfl, fun z => by omega, fun z => by cases q2.2 z.2.2.1⟩
      | true =>
        have s1 := q1.1 rfl
        have s2 := q2.1 rfl
        rw [hw]
        have l1 := s1.1
        have l2 := s2.1
        by_cases c2 : cnt > (X.length : Int) + (Y.length : Int) + (U.length : Int)
        · rw [decide_eq_true c2]
          exact ⟨15, (Ev.pos (by omega) (IF.bind (Ev.pos rfl (OJ.bind (Ev.pos rfl bad))))), .inr rfl, fun z => by omega, fun z => absurd z.2.2.2.1 (by omega)⟩
        · rw [decide_eq_false c2]
          obtain ⟨t, et, p1, p2⟩ := ck0 X Y U b lf rt cnt c1 (by omega) l1 l2 hl hr (by omega) (fun i hi => (s2.2.1 i hi).2.2.1) X.length 0 (by omega)
          refine ⟨t, (Ev.pos (by omega) (IF.bind (Ev.pos rfl (OJ.bind (Ev.pos rfl ?_))))), p1, p2.trans ⟨fun z => ⟨c1, s1, s2, by omega, fun i hi => z.1 i (Nat.zero_le _) hi, z.2.1, z.2.2⟩, fun z => ⟨fun a _ ha => z.2.2.2.2.1 a ha, z.2.2.2.2.2.1, z.2.2.2.2.2.2⟩⟩⟩
          refine Ev.step (fun k => by rw [cn.j0]) ?_
          exact Ev.neg (by decide) et
  · exact ⟨15, (Ev.neg (by omega) bad), .inr rfl, fun z => by omega, fun z => absurd z.1 c1⟩
theorem aky {x y u : aX} {b lf rt : List Int} (cnt : Int) (hx : j5 x) (hy : j5 y) (hu : j5 u) (hb : b.length ≤ 60) (hl : lf.length ≤ 60) (hr : rt.length ≤ 60) :
    Ev (fun k => cn.f k x.f0 x.f1 x.f2 x.f3 y.f0 y.f1 y.f2 y.f3 u.f0 u.f1 u.f2 u.f3 b lf rt cnt) (if lB x y u b lf rt cnt = true then 0 else 15) := by
  have key : ∃ t, Ev (fun k => cn.f k x.f0 x.f1 x.f2 x.f3 y.f0 y.f1 y.f2 y.f3 u.f0 u.f1 u.f2 u.f3 b lf rt cnt) t ∧ (t = 0 ∨ t = 15) ∧ (t = 0 ↔ RC x y u b lf rt cnt) := by
    obtain ⟨t, et, q1, q2⟩ := rck (bk x (-1) 0) (bk y (-1) 0) (bk u (-1) 0) b lf rt cnt (AC x).1 (AC y).1 (AC u).1 (by rw [td]; exact hx.1) (by rw [td]; exact hy.1) (by rw [td]; exact hu.1) hb hl hr
    refine ⟨t, ?_, q1, q2⟩
    unfold cn.f
    exact Ev.known (DP hx) (Ev.known (DP hy) (Ev.known (DP hu) et))
  obtain ⟨t, et, q1, q2⟩ := key
  refine Ev.cast ?_ et
  by_cases c : lB x y u b lf rt cnt = true
  · rw [if_pos c]
    exact q2.2 ((YW x y u b lf rt cnt).1 c)
  · rw [if_neg c]
    rcases q1 with q1 | q1
    · exact absurd ((YW x y u b lf rt cnt).2 (q2.1 q1)) c
    · exact q1
theorem ab9 {x y u : aX} {b lf rt : List Int} (cnt : Int) (hx : j5 x) (hy : j5 y) (hu : j5 u) (hb : b.length ≤ 60) (hl : lf.length ≤ 60) (hr : rt.length ≤ 60) :
    Ev (fun k => oS.f k x.f0 x.f1 x.f2 x.f3 y.f0 y.f1 y.f2 y.f3 u.f0 u.f1 u.f2 u.f3 b lf rt cnt) (sb x y u b lf rt cnt) := by
  unfold oS.f sb
  refine (aky cnt hx hy hu hb hl hr).bind ?_
  by_cases hI : lB x y u b lf rt cnt = true
  · rw [if_pos hI, if_pos hI]
    refine Ev.pos rfl ((T' hx hy hb hl).bind ?_)
    by_cases h1 : rc x y b lf = true
    · rw [if_pos h1, if_pos h1]
      refine Ev.pos rfl ((T' hx hu hb hr).bind ?_)
      by_cases h2 : rc x u b rt = true
      · rw [if_pos h2, if_pos h2]
        have q1 := KL x y b lf hb hl
        have q2 := KL x u b rt hb hr
        exact Ev.pos rfl ((aiF (qI x y b lf) (qI x u b rt) (by omega) (by omega)).bind (Ev.now _))
      · rw [if_neg h2, if_neg h2]
        exact Ev.neg (by decide) (Ev.now _)
    · rw [if_neg h1, if_neg h1]
      exact Ev.neg (by decide) (Ev.now _)
  · rw [if_neg hI, if_neg hI]
    exact Ev.neg (by decide) (Ev.now _)
theorem acC (x y u : aX) (b lf rt : List Int) (cnt : Int) : Ev (fun k => uo.f k x.f0 x.f1 x.f2 x.f3 y.f0 y.f1 y.f2 y.f3 u.f0 u.f1 u.f2 u.f3 b lf rt cnt) true := by
  unfold uo.f
  obtain ⟨t, e, q⟩ := aiV x y u b lf rt cnt
  refine e.bind ?_
  cases t with
  | false => exact Ev.neg (by decide) Uu
  | true =>
    obtain ⟨hx, hy, hu, hb, hl, hr⟩ := q rfl
    exact Ev.pos rfl (Ev.known (ahy cnt hx hy hu hb hl hr) ((ab9 cnt hx hy hu hb hl hr).bind (Ev.pos (by simp) (Ev.pos rfl Uu))))
structure C1 where
  f0 : aX
  f1 : aX
  f2 : aX
  f3 : pr
def k42 : Kd C1 := Kd.r6 (Kd.pair k25 (Kd.pair k25 (Kd.pair k25 ud))) (fun x : C1 => (x.f0, x.f1, x.f2, x.f3))
theorem agl {w : World} {x : C1} {cs : List Value} (h : k42.K w x cs) : ∃ A2 c2 A3 c3 A6 c6 A7 c7 rJ dO pl gf un ji Ax iN AQ mO, cs = [.int .i64 x.f0.f0, .string x.f0.f1, .slice A2 x.f0.f2.length c2, .slice A3 x.f0.f3.length c3, .int .i64 x.f1.f0, .string x.f1.f1, .slice A6 x.f1.f2.length c6, .slice A7 x.f1.f3.length c7, .int .i64 x.f2.f0, .string x.f2.f1, .slice rJ x.f2.f2.length dO, .slice pl x.f2.f3.length gf, .slice un x.f3.f0.length ji, .slice Ax x.f3.f1.length iN, .slice AQ x.f3.f2.length mO, .int .i64 x.f3.f3] ∧ x.f0.f2.length ≤ c2 ∧ Kd.string.C w A2 x.f0.f2.length x.f0.f2 ∧ x.f0.f3.length ≤ c3 ∧ k25.C w A3 x.f0.f3.length x.f0.f3 ∧ x.f1.f2.length ≤ c6 ∧ Kd.string.C w A6 x.f1.f2.length x.f1.f2 ∧ x.f1.f3.length ≤ c7 ∧ k25.C w A7 x.f1.f3.length x.f1.f3 ∧ x.f2.f2.length ≤ dO ∧ Kd.string.C w rJ x.f2.f2.length x.f2.f2 ∧ x.f2.f3.length ≤ gf ∧ k25.C w pl x.f2.f3.length x.f2.f3 ∧ x.f3.f0.length ≤ ji ∧ (Kd.int .i64).C w un x.f3.f0.length x.f3.f0 ∧ x.f3.f1.length ≤ iN ∧ (Kd.int .i64).C w Ax x.f3.f1.length x.f3.f1 ∧ x.f3.f2.length ≤ mO ∧ (Kd.int .i64).C w AQ x.f3.f2.length x.f3.f2 := by
  obtain ⟨_, _, rfl, h0, ⟨_, _, rfl, h1, ⟨_, _, rfl, h2, h3⟩⟩⟩ := h
  obtain ⟨A2, c2, A3, c3, rfl, l2, g2, l3, g3⟩ := ym h0
  obtain ⟨A6, c6, A7, c7, rfl, l6, g6, l7, g7⟩ := ym h1
  obtain ⟨rJ, dO, pl, gf, rfl, l10, g10, l11, g11⟩ := ym h2
  obtain ⟨un, ji, Ax, iN, AQ, mO, rfl, l12, g12, l13, g13, l14, g14⟩ := At h3
  exact ⟨A2, c2, A3, c3, A6, c6, A7, c7, rJ, dO, pl, gf, un, ji, Ax, iN, AQ, mO, rfl, l2, g2, l3, g3, l6, g6, l7, g7, l10, g10, l11, g11, l12, g12, l13, g13, l14, g14⟩
theorem aeW {w : World} (a0 : C1) (bB : Option Addr) (bA : Nat) (br : Option Addr) (bq : Nat) (iH : Option Addr) (iq : Nat) (iF : Option Addr) (iI : Nat) (iC : Option Addr) (iD : Nat) (il : Option Addr) (io : Nat) (iw : Option Addr) (im : Nat) (iG : Option Addr) (iA : Nat) (iJ : Option Addr) (iu : Nat) (ay : a0.f0.f2.length ≤ bA) (N7 : Kd.string.C w bB a0.f0.f2.length a0.f0.f2) (au : a0.f0.f3.length ≤ bq) (Rb : k25.C w br a0.f0.f3.length a0.f0.f3) (dI : a0.f1.f2.length ≤ iq) (Mf : Kd.string.C w iH a0.f1.f2.length a0.f1.f2) (dF : a0.f1.f3.length ≤ iI) (OW : k25.C w iF a0.f1.f3.length a0.f1.f3) (dG : a0.f2.f2.length ≤ iD) (Q8 : Kd.string.C w iC a0.f2.f2.length a0.f2.f2) (dJ : a0.f2.f3.length ≤ io) (Py : k25.C w il a0.f2.f3.length a0.f2.f3) (dz : a0.f3.f0.length ≤ im) (Pp : (Kd.int .i64).C w iw a0.f3.f0.length a0.f3.f0) (dy : a0.f3.f1.length ≤ iA) (Q6 : (Kd.int .i64).C w iG a0.f3.f1.length a0.f3.f1) (dX : a0.f3.f2.length ≤ iu) (Mj : (Kd.int .i64).C w iJ a0.f3.f2.length a0.f3.f2) (w0 : True) : Calls Try.prog 5 #[.agg #[.int .i64 a0.f0.f0, .string a0.f0.f1, .slice bB a0.f0.f2.length bA, .slice br a0.f0.f3.length bq, .int .i64 a0.f1.f0, .string a0.f1.f1, .slice iH a0.f1.f2.length iq, .slice iF a0.f1.f3.length iI, .int .i64 a0.f2.f0, .string a0.f2.f1, .slice iC a0.f2.f2.length iD, .slice il a0.f2.f3.length io, .slice iw a0.f3.f0.length im, .slice iG a0.f3.f1.length iA, .slice iJ a0.f3.f2.length iu, .int .i64 a0.f3.f3]] w fun e w' => e = .returned (.bool true) ∧ Below w.heap.size w w' := by
  obtain ⟨k, hk⟩ := (acC a0.f0 a0.f1 a0.f2 a0.f3.f0 a0.f3.f1 a0.f3.f2 a0.f3.f3).rounds
  exact uo.calls k a0.f0.f0 a0.f0.f1 bB bA _ br bq _ a0.f1.f0 a0.f1.f1 iH iq _ iF iI _ a0.f2.f0 a0.f2.f1 iC iD _ il io _ iw im _ iG iA _ iJ iu _ a0.f3.f3 true w N7 ay Rb au Mf dI OW dF Q8 dG Py dJ Pp dz Q6 dy Mj dX hk
end Go.Proofs.Ytcfjdehpbckomaa.RL
