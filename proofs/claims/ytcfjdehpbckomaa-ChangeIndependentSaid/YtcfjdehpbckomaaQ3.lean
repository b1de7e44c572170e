
import Derived.Test.YtcfjdehpbckomaaQ0
import Derived.Test.YtcfjdehpbckomaaQ2
namespace Go.Proofs.Ytcfjdehpbckomaa.Q
open Go.RowKit Go.Proofs.YtcfjdehpbckomaaW.dS Go.Proofs.YtcfjdehpbckomaaW.jm Go.Proofs.YtcfjdehpbckomaaW.mm
attribute [local go_sem] mU na nt mX m6 nu mP mW
set_option linter.unusedVariables false
set_option linter.unusedSimpArgs false
/-! ### tree_Rows: function 49 (by hand) -/
mutual
def fz : aX → List aX | ⟨a, b, c, l⟩ => ⟨a, b, c, l⟩ :: cz l
def cz : List aX → List aX | [] => [] | x :: l => fz x ++ cz l
end
theorem l5 (x : aX) : fz x = x :: cz x.f3 := by cases x; rw [fz]
theorem s9 {P : aX → Prop} (h : ∀ x, (∀ y ∈ x.f3, P y) → P x) : ∀ x, P x := by
 have key : ∀ (n : Nat) (x : aX), SizeOf.sizeOf x ≤ n → P x := by
  intro n
  induction n with
  | zero => intro x hx; cases x; simp at hx
  | succ n ih =>
   intro x hx
   refine h x (fun y hy => ih y ?_)
   have h1 := List.sizeOf_lt_of_mem hy
   cases x
   simp at hx h1
   omega
 exact fun x => key _ x (Nat.le_refl _)
def fM : List aX → Nat → List Int | [], _ => [] | y :: l, m => (m : Int) :: fM l (m + (fz y).length)
mutual
def bk : aX → Int → Nat → List bC | ⟨a, b, c, l⟩, p, n => ⟨p, a, b, c, fM l (n + 1)⟩ :: ed l n (n + 1)
def ed : List aX → Nat → Nat → List bC | [], _, _ => [] | y :: l, n, m => bk y n m ++ ed l n (m + (fz y).length)
end
theorem vC (x : aX) (p : Int) (n : Nat) : bk x p n = ⟨p, x.f0, x.f1, x.f2, fM x.f3 (n + 1)⟩ :: ed x.f3 n (n + 1) := by cases x; rw [bk]
theorem td (x : aX) : ∀ (p : Int) (n : Nat), (bk x p n).length = (fz x).length := by
 induction x using s9 with
 | h x ih =>
 intro p n
 have key : ∀ (l : List aX), (∀ y ∈ l, y ∈ x.f3) → ∀ n m, (ed l n m).length = (cz l).length := by
  intro l
  induction l with
  | nil => intro _ n m; simp [ed, cz]
  | cons y l ihl =>
   intro hl n m
   rw [ed, cz, List.length_append, List.length_append, ih y (hl y (by simp)), ihl (fun z hz => hl z (by simp [hz]))]
 rw [vC, l5, List.length_cons, List.length_cons, key x.f3 (fun y hy => hy)]
theorem AK (l : List aX) : ∀ n m, (ed l n m).length = (cz l).length := by
 induction l with
 | nil => intro n m; simp [ed, cz]
 | cons y l ih => intro n m; rw [ed, cz, List.length_append, List.length_append, td, ih]
theorem ajz (a b : List aX) : cz (a ++ b) = cz a ++ cz b := by
 induction a with
 | nil => simp [cz]
 | cons y a ih => rw [List.cons_append, cz, cz, ih, List.append_assoc]
theorem XR (a b : List aX) (n : Nat) : ∀ m, ed (a ++ b) n m = ed a n m ++ ed b n (m + (cz a).length) := by
 induction a with
 | nil => intro m; simp [ed, cz]
 | cons y a ih =>
  intro m
  rw [List.cons_append, ed, ed, ih, cz, List.length_append, List.append_assoc, Nat.add_assoc]
theorem WD (a b : List aX) : ∀ m, fM (a ++ b) m = fM a m ++ fM b (m + (cz a).length) := by
 induction a with
 | nil => intro m; simp [fM, cz]
 | cons y a ih =>
  intro m
  rw [List.cons_append, fM, fM, ih, cz, List.length_append, List.cons_append, Nat.add_assoc]
theorem Jq (l : List aX) : ∀ m, (fM l m).length = l.length := by
 induction l with
 | nil => intro m; rfl
 | cons y l ih => intro m; rw [fM, List.length_cons, ih, List.length_cons]
theorem N8 (l : List aX) (i : Nat) (h : i < l.length) : l.take (i + 1) = l.take i ++ [l[i]] := by rw [List.take_add_one, List.getElem?_eq_getElem h]; rfl
theorem WZ (l : List aX) (i : Nat) (h : i < l.length) : (cz (l.take i)).length + (fz l[i]).length ≤ (cz l).length := by
 have h1 := congrArg (fun z => (cz z).length) (List.take_append_drop (i + 1) l)
 simp only [ajz, List.length_append, N8 l i h, cz] at h1
 simp at h1
 omega
theorem JS (l : List aX) : l.length ≤ (cz l).length := by
 induction l with
 | nil => simp
 | cons x l ih => rw [cz, l5]; simp; omega
theorem aa6 {l : List aX} {y : aX} (h : y ∈ l) : ∀ z ∈ fz y, z ∈ cz l := by
 induction l with
 | nil => simp at h
 | cons v l ih =>
  intro z hz
  rw [cz, List.mem_append]
  rcases List.mem_cons.1 h with rfl | h
  ·exact Or.inl hz
  ·exact Or.inr (ih h z hz)
theorem Bi {α : Type} {d : Kd α} {e : Nat} {w : World} {base : Nat} {ok : Nat → Prop} {v : Value} {xs : List α} (h : d.R e w base ok v xs) : ∀ k, v.ownBlock = some k → k < w.heap.size := by
 obtain ⟨i, ho⟩ := Kd.EA h
 exact OO ho
theorem ah4 {α : Type} {d : Kd α} {e : Nat} {W w5 : World} {b n : Nat} {ok : Nat → Prop} {v u : Value} {xs : List α} {gs : List ByteArray} (hO : d.R e W b ok v xs) (hR : Kd.R Kd.string 9 w5 W.heap.size (fun _ => True) u gs) (hle : n ≤ W.heap.size) (hb : b ≤ W.heap.size) :
  Kd.R Kd.string 9 w5 b (fun k => n ≤ k ∧ some k ≠ v.ownBlock) u gs :=
 Kd.eB (Kd.cm (Kd.jY hR) (fun k hk => ⟨Nat.le_trans hle hk.2.1, fun e => by have := Bi hO k e.symm; have := hk.2.1; omega⟩)) hb
set_option maxHeartbeats 16000000 in
set_option maxRecDepth 100000 in
theorem ahV (x : aX) : ∀ (xs : List bC) (p : Int) (A2 : Option Addr) (c2 : Nat) (A3 : Option Addr) (c3 : Nat) (P0 : Nat → Prop) (v : Value) (w0 w : World) (hb0 : Below w0.heap.size w0 w) (ho : Kd.R fc 70 w w0.heap.size P0 v xs) (h2 : Kd.C Kd.string w0 A2 x.f2.length x.f2) (l2 : x.f2.length ≤ c2) (h3 : Kd.C k25 w0 A3 x.f3.length x.f3) (l3 : x.f3.length ≤ c3) (hn : (fz x).length ≤ 1000000) (hxs : xs.length + (fz x).length ≤ 2000000) (hg : ∀ y ∈ fz x, y.f2.length ≤ 1000000),
  Calls Try.prog 63 #[v, .agg #[.int .i64 x.f0, .string x.f1, .slice A2 x.f2.length c2, .slice A3 x.f3.length c3], .int .i64 p] w fun e w' => ∃ v', e = .returned v' ∧ Kd.R fc 70 w' w0.heap.size (fun k => P0 k ∨ w.heap.size ≤ k) v' (xs ++ bk x p xs.length) ∧ Below w0.heap.size w0 w' ∧ Kept w w' P0 := by
 induction x using s9 with
 | h x ih =>
 intro xs p A2 c2 A3 c3 P0 v w0 w hb0 ho h2 l2 h3 l3 hn hxs hg
 have nR := Try.underlying25
 have K9 := Try.underlying70
 have H2 := ae.mk h2
 have L2 := ae.mk l2
 have H3 := ae.mk h3
 have L3 := ae.mk l3
 have HN := ae.mk hn
 have Hl := ae.mk hxs
 have HGP := ae.mk hg
 have HT := ae.mk (show Az.f x.f2 = some x.f2 from by unfold Az.f; rw [if_pos (hg x (by rw [l5]; simp))])
 have HB := ae.mk hb0
 have HK := ae.mk (Kept.refl w P0)
 have HO := ae.mk (show Kd.R fc 70 w w0.heap.size (fun k => P0 k ∨ w.heap.size ≤ k) v xs from Kd.cm ho (fun _ h => Or.inl h))
 clear h2 l2 h3 l3 hn hxs hg hb0 ho
 obtain ⟨Av, cv, rfl⟩ := Kd.bm HO.out
 have MS := ae.mk ih
 have Dx := ae.mk (Bi HO.out)
 clear ih
 go_enter Try.func63, Try.ntmps63
 go_wp2_with (first | ((with_reducible refine bz (N := 4) rfl ?_); refine bT ?hg (N := 4) ?hd (cs := #[.int .i64 x.f0, .string x.f1, .slice A2 x.f2.length c2, .slice A3 x.f3.length c3]) (t := 25) ?hr ?_; (case hd => rfl); (case hg => rfl); (case hr => first | (go_simp; done) | (go_simp; rfl)); intro g4 hg w1 av hb; have af := ae.mk (d_ HB.out hb); have ag := ae.mk (Kd.p_ HO.out hb); have ah := ae.mk (HK.out.below hb); have aN := ae.mk av; have AA := ae.mk (by rw [hg]; exact Nat.le_refl _ : w.heap.size ≤ g4); clear HB HO HK; have HB := af; have HO := ag; have HK := ah; clear af ag ah hb av hg; have z40 := (aj aN.out 0).trans rfl; have z41 := (aj aN.out 1).trans rfl; have ga := (aj aN.out 2).trans rfl; have eK := (aj aN.out 3).trans rfl))
 have Hj := ae.mk (fun e => by have := Dx.out g4 e.symm; have := AA.out; omega : some g4 ≠ (Value.slice Av xs.length cv).ownBlock)
 go_region_held3 (fun w' => w'.cell? ⟨g4, 0, none⟩ = some (.int .i64 x.f0) ∧ w'.cell? ⟨g4, 1, none⟩ = some (.string x.f1) ∧ w'.cell? ⟨g4, 2, none⟩ = some (.slice A2 x.f2.length c2) ∧ w'.cell? ⟨g4, 3, none⟩ = some (.slice A3 x.f3.length c3)) (first | go_keep | exact ⟨(aj aN.out 0).trans rfl, (aj aN.out 1).trans rfl, (aj aN.out 2).trans rfl, (aj aN.out 3).trans rfl⟩ | exact ⟨(aj (aU aN.out _) 0).trans rfl, (aj (aU aN.out _) 1).trans rfl, (aj (aU aN.out _) 2).trans rfl, (aj (aU aN.out _) 3).trans rfl⟩) (first | (go_at_call 77; go_loud ((with_reducible refine (Az.calls A2 c2 x.f2 x.f2 _ (Kd.aC H2.out (by repeat (first | (with_reducible first | exact HB.out | apply aY | apply aT) | exact HB.out))) L2.out HT.out).mono ?_); rintro e w5 ⟨v21, rfl, fg, ur⟩; obtain ⟨Ag, cg, rfl⟩ := Kd.bm fg; have af := ae.mk (d_ (by repeat (first | (with_reducible first | exact HB.out | apply aY | apply aT) | exact HB.out)) ur); have ag := ae.mk (Kd.p_ (RX HO.out) ur); have ah := ae.mk (Kept.below (by repeat (first | (with_reducible first | exact HK.out | apply Kept.drewN | apply Kept.drew) | exact HK.out)) ur); have am := ae.mk (di (g := g4) (o := .cells #[.int .i64 x.f0, .string x.f1, .slice A2 x.f2.length c2, .slice A3 x.f3.length c3] 25 (0, 0)) (by (with_reducible repeat (first | refine bf ?_ _ | refine bd ?_ | refine aU ?_ _)); exact aN.out) ur); have To := ae.mk (ah4 (n := w.heap.size) (RX HO.out) fg (show Kept w _ P0 from (by repeat (first | (with_reducible first | exact HK.out | apply Kept.drewN | apply Kept.drew) | exact HK.out))).1 (show Below w0.heap.size w0 _ from (by repeat (first | (with_reducible first | exact HB.out | apply aY | apply aT) | exact HB.out))).size); clear HB HO HK aN; have HB := af; have HO := ag; have HK := ah; have aN := am; clear af ag ah am fg ur)) | (refine Kd.JU fc (w0 := w0) w0.heap.size rfl (.tmp 13) (.tmp 23) 63 70 (.agg #[(.int .i64 0), (.int .i64 0), (.string ⟨#[]⟩), .slice none 0 0, .slice none 0 0]) 80 rfl Try.underlying63 (by kernel_rfl) rfl (by decide) (by omega) (.slice Av xs.length cv) xs ⟨p, x.f0, x.f1, x.f2, []⟩ [.int .i64 p, .int .i64 x.f0, .string x.f1, .slice Ag x.f2.length cg, .slice none 0 0] (fun k => P0 k ∨ w.heap.size ≤ k) (fun k => w.heap.size ≤ k ∧ some k ≠ (Value.slice Av xs.length cv).ownBlock) rfl rfl (Wk _ _ _ _ To.out (Kd.lS _ _ _ _ _)) (fun k hk => ⟨.inr hk.1, hk.2⟩) (fun k hk => .inr (Nat.le_trans HK.out.1 hk)) HO.out HB.out HB.out.size (by have := Hl.out; omega) ?_; intro v9 w9 jO ma jh pC; have af := ae.mk ma; have ag := ae.mk jO; have ah := ae.mk (Kept.kB (S := P0) jh HK.out (fun k e => HO.out.1 k e)); have am := ae.mk ((jh.block g4 (em aN.out) Hj.out).trans aN.out); clear HB HO HK aN; have HB := af; have HO := ag; have HK := ah; have aN := am; clear af ag ah am jO ma jh pC))
 obtain ⟨L, hL⟩ : ∃ L, L = xs ++ [(⟨p, x.f0, x.f1, x.f2, []⟩ : bC)] := ⟨_, rfl⟩
 rw [← hL] at HO
 have t7 := ae.mk hL
 have f9 := ae.mk (by rw [hL]; simp : L.length = xs.length + 1)
 obtain ⟨A9, c9, R5⟩ := Kd.bm HO.out
 subst R5
 clear hL
 have eK := (aj aN.out 3).trans rfl
 clear z40 z41 ga To Dx Hj
 by_cases c : x.f3.length = 0
 ·have e1 : ((x.f3.length : Int) == 0) = true := beq_iff_eq.mpr (by omega)
  have e0 : x.f3 = [] := List.length_eq_zero_iff.1 c
  have HE := ae.mk e0
  clear e0 c
  go_wp2
  go_ret
  refine ⟨_, rfl, ?_, HB.out, HK.out⟩
  rw [vC, HE.out, fM, ed, ← t7.out]
  exact HO.out
 ·have e1 : ((x.f3.length : Int) == 0) = false := beq_eq_false_iff_ne.mpr (by omega)
  have hk := JS x.f3
  have hkn : x.f3.length ≤ 1000000 := by have := HN.out; rw [l5, List.length_cons] at this; omega
  have HC := ae.mk c
  have hc1 : (0 : Int) ≤ (x.f3.length : Int) := by omega
  have ES := ae.mk hkn
  clear c hk hkn
  go_wp2_with (first | ((with_reducible refine bz (N := 33) rfl ?_); refine Kd.TP (Kd.int .i64) (w0 := w0) w0.heap.size 3 rfl (N := 33) rfl 26 _ _ rfl (x.f3.length : Int) rfl rfl Try.underlying26 (.int .i64 0) 8 (by kernel_rfl) rfl (by decide) (by omega) (0 : Int) (ok := fun k => w9.heap.size ≤ k) (fh := fun _ => False) rfl (fun _ hk => hk.elim) (Nat.le_refl _) (by omega) (by have := ES.out; omega) HB.out HB.out.size ?_; intro v8 pv EC Tt tW P4; simp only [Int.toNat_natCast] at EC; obtain ⟨g8, ER, hv8, _, _, _, _⟩ := Kd.KH EC (by rw [List.length_replicate]; have := HC.out; omega); subst hv8; rw [List.length_replicate] at EC P4; rw [List.length_replicate]; have Pk := ae.mk (by obtain ⟨b, hb, hle⟩ := P4; simp only [Value.ownBlock, Option.some.injEq] at hb; omega : w9.heap.size ≤ g8); have fO := ae.mk (Kd.cm (Kd.W5 rfl EC) (fun k hk => by simpa [Value.ownBlock] using hk) : (Kd.int .i64).R 3 pv w0.heap.size (fun k => k = g8) (.slice (some ⟨g8, 0, none⟩) x.f3.length ER) (List.replicate x.f3.length (0 : Int))); have af := ae.mk Tt; have ag := ae.mk (Kd.uE (Kd.cm (d5 := fun k => (P0 k ∨ w.heap.size ≤ k) ∧ k ≠ g8) (Kd.jY HO.out) (fun k hk => ⟨hk.1, by have := hk.2.2.1; have := Pk.out; omega⟩)) tW (fun k _ => by simp)); have ah := ae.mk (Kept.kB (S := P0) tW HK.out (fun k e => by cases e)); have am := ae.mk ((tW.block g4 (em aN.out) (by simp)).trans aN.out); have aev := ae.mk (by have := em aN.out; have := Pk.out; omega : g4 ≠ g8); have Yy := ae.mk (Nat.le_trans HK.out.1 Pk.out : w.heap.size ≤ g8); clear HB HO HK aN eK; have HB := af; have HO := ag; have HK := ah; have aN := am; have eK := (aj aN.out 3).trans rfl; clear af ag ah am EC Tt tW P4))
  have hidx : ae ((Kd.int .i64).R 3 pv w0.heap.size (fun k => k = g8) (.slice (some ⟨g8, 0, none⟩) x.f3.length ER) (fM (x.f3.take 0) (xs.length + 1) ++ List.replicate (x.f3.length - 0) (0 : Int))) := ⟨by rw [List.take_zero, fM, List.nil_append, Nat.sub_zero]; exact fO.out⟩
  have hrow : ae (Kd.R fc 70 pv w0.heap.size (fun k => (P0 k ∨ w.heap.size ≤ k) ∧ k ≠ g8) (.slice A9 L.length c9) (L ++ ed (x.f3.take 0) xs.length (xs.length + 1))) := ⟨by rw [List.take_zero, ed, List.append_nil]; exact HO.out⟩
  clear fO HO
  go_loopg [0, 9, 10, 37] x.f3.length (fun gk v0 v9 v10 v37 w' => ∃ (j : Nat) (Aj : Option Addr) (cj : Nat), v37 = .int .i64 j ∧ v0 = .slice Aj (L.length + (cz (x.f3.take j)).length) cj ∧ j + gk = x.f3.length ∧ ae (Kd.R fc 70 w' w0.heap.size (fun k => (P0 k ∨ w.heap.size ≤ k) ∧ k ≠ g8) (.slice Aj (L.length + (cz (x.f3.take j)).length) cj) (L ++ ed (x.f3.take j) xs.length (xs.length + 1))) ∧ ae ((Kd.int .i64).R 3 w' w0.heap.size (fun k => k = g8) (.slice (some ⟨g8, 0, none⟩) x.f3.length ER) (fM (x.f3.take j) (xs.length + 1) ++ List.replicate (x.f3.length - j) (0 : Int))) ∧ ae (w'.heap[g4]? = some (.cells #[.int .i64 x.f0, .string x.f1, .slice A2 x.f2.length c2, .slice A3 x.f3.length c3] 25 (0, 0))) ∧ ae (Below w0.heap.size w0 w') ∧ ae (Kept w w' P0))
  case atStart =>
   refine ⟨0, A9, c9, rfl, ?_, by omega, ?_, hidx, aN, HB, HK⟩
   ·rw [List.take_zero, cz]; rfl
   ·rw [List.take_zero, cz]; exact ⟨by rw [List.take_zero] at hrow; exact hrow.out⟩
  case round =>
   clear hidx hrow aN HB HK eK
   obtain ⟨j, Aj, cj, rfl, rfl, hj, HO, fO, aN, HB, HK⟩ := hrel
   obtain ⟨go, rfl⟩ : ∃ go, go = gk := ⟨gk, rfl⟩
   cases go with
   | zero =>
    have g1 : decide ((j : Int) < (x.f3.length : Int)) = false := decide_eq_false (by omega)
    have II : decide (j < x.f3.length) = false := decide_eq_false (by omega)
    have hkn : j = x.f3.length := by omega
    have Lb := ae.mk (show 0 < (L ++ ed (x.f3.take j) xs.length (xs.length + 1)).length by have := f9.out; rw [List.length_append]; omega)
    obtain ⟨gj, LL, Re, Qx, hlj, Ml, hcj⟩ := Kd.KH HO.out Lb.out
    injection Re with Mk PR LJ
    subst Mk
    clear PR LJ Qx hlj hcj Ml LL
    have vE := ae.mk ((HO.out.1 gj (by simp [Value.ownBlock])) : (P0 gj ∨ w.heap.size ≤ gj) ∧ gj ≠ g8)
    have HI := ae.mk (show xs.length < L.length + (cz (x.f3.take j)).length by have := f9.out; omega)
    have hi1 : (xs.length < L.length + (cz (x.f3.take j)).length) = True := eq_true HI.out
    have hi2 : ((0 : Int) ≤ (xs.length : Int)) = True := eq_true (by omega)
    have Mm : ((xs.length : Int) < ((L.length + (cz (x.f3.take j)).length : Nat) : Int)) = True := eq_true (by have := HI.out; omega)
    have hi4 : ((xs.length : Int) < (L.length : Int) + ((cz (x.f3.take j)).length : Int)) = True := eq_true (by have := HI.out; omega)
    have HJ := ae.mk hkn
    clear hkn hj
    generalize hm : L.length + (cz (x.f3.take j)).length = m at HO HI hi1 Mm ⊢
    have HM := ae.mk hm
    clear hm hi4
    have hx0 : (L ++ ed (x.f3.take j) xs.length (xs.length + 1)).getD ((xs.length : Nat) : Int).toNat z70 = (⟨p, x.f0, x.f1, x.f2, []⟩ : bC) := by
     rw [Int.toNat_natCast, t7.out, List.append_assoc, List.getD_eq_getElem?_getD, List.getElem?_append_right (Nat.le_refl _)]
     simp
    obtain ⟨ce, hcl, vv, hcc, _⟩ := Kd.IR HO.out z70 (xs.length : Int) (by omega) (by have := HI.out; omega)
    rw [hx0] at vv
    obtain ⟨v3, v4, rfl, hg3, hg4⟩ := ael vv
    have ch := ae.mk (Wk wr w0.heap.size (fun k => (P0 k ∨ w.heap.size ≤ k) ∧ k ≠ gj) ⟨p, x.f0, x.f1, x.f2, fM x.f3 (xs.length + 1)⟩ (Kd.cm hg3 (fun k hk => ⟨hk.1.1, hk.2⟩)) (Kd.cm (d5 := fun k => (P0 k ∨ w.heap.size ≤ k) ∧ k ≠ gj) fO.out (fun k hk => by subst hk; exact ⟨.inr Yy.out, vE.out.2.symm⟩) |> fun z => by
     have e : fM (x.f3.take j) (xs.length + 1) ++ List.replicate (x.f3.length - j) (0 : Int) = fM x.f3 (xs.length + 1) := by rw [HJ.out, List.take_length, Nat.sub_self]; simp
     rw [e] at z
     exact z))
    have Gb := ae.mk hcc
    have LE := ae.mk hcl
    have Qe := ae.mk (show (L ++ ed (x.f3.take j) xs.length (xs.length + 1)).set ((xs.length : Nat) : Int).toNat (⟨p, x.f0, x.f1, x.f2, fM x.f3 (xs.length + 1)⟩ : bC) = xs ++ bk x p xs.length from by
     rw [Int.toNat_natCast, t7.out, HJ.out, List.take_length, vC, List.append_assoc, List.set_append_right _ _ (Nat.le_refl _), Nat.sub_self]
     rfl)
    clear hcl vv hcc hg3 hg4 hx0
    go_wp2_with (first | ((with_reducible refine LY (t := 26) (p := 56) rfl ?_); go_loud (refine Kd.OD fc (w0 := w0) w0.heap.size rfl rfl 26 (.tmp 56) (.tmp 54) rfl 70 (xs.length : Int) 4 (L ++ ed (x.f3.take j) xs.length (xs.length + 1)) ⟨p, x.f0, x.f1, x.f2, fM x.f3 (xs.length + 1)⟩ (.slice (some ⟨g8, 0, none⟩) x.f3.length ER) [.slice (some ⟨g8, 0, none⟩) x.f3.length ER] [.int .i64 p, .int .i64 x.f0, .string x.f1, v3, v4] (fun k => P0 k ∨ w.heap.size ≤ k) (fun k => (P0 k ∨ w.heap.size ≤ k) ∧ k ≠ gj) rfl (by first | rfl | (simp; done) | (rw [Int.toNat_natCast]; show _ = xs.length * 5 + 4; omega)) rfl rfl (by kernel_rfl) (fun q hq => by rw [List.mem_singleton.1 hq]; rfl) (Kd.cm HO.out (fun k hk => hk.1)) (by omega) (by have := HI.out; omega) LE.out Gb.out (Nat.le_refl 5) ch.out (fun k hk => hk) HB.out ?_; intro Fj xd GO Fc; rw [Qe.out] at xd; have Pn := ae.mk xd; have wO := ae.mk GO; have QR := ae.mk (Kept.kB (S := P0) Fc HK.out (fun k e => by injection e with e; subst e; exact vE.out.1)); clear xd GO Fc)))
    go_ret
    exact ⟨_, rfl, Pn.out, wO.out, QR.out⟩
   | succ g =>
    have hjl : j < x.f3.length := by omega
    have g1 : decide ((j : Int) < (x.f3.length : Int)) = true := decide_eq_true (by omega)
    have II : decide (j < x.f3.length) = true := decide_eq_true hjl
    have hq9 : (j < x.f3.length) = True := eq_true hjl
    have h0j : ((0 : Int) ≤ (j : Int)) = True := eq_true (by omega)
    have eV := ae.mk hjl
    have HJ := ae.mk hj
    obtain ⟨ad, B2, d2, B3, d3, hA, q0, q1, q2, q3, m2, G2, m3, G3⟩ := FT H3.out (j : Int) (by omega) (by omega)
    rw [Int.toNat_natCast] at q0 q1 q2 q3
    replace q0 := k7 HB.out q0
    replace q1 := k7 HB.out q1
    replace q2 := k7 HB.out q2
    replace q3 := k7 HB.out q3
    obtain ⟨y, hy⟩ : ∃ y, y = x.f3[j] := ⟨_, rfl⟩
    have Em : dp x.f3 (j : Int) = y := by
     unfold dp
     rw [Int.toNat_natCast, List.getD_eq_getElem?_getD, List.getElem?_eq_getElem hjl, Option.getD_some, hy]
    rw [Em] at q0 q1 q2 q3 m2 G2 m3 G3
    have BG : y ∈ x.f3 := hy ▸ List.getElem_mem hjl
    have hpre := WZ x.f3 j hjl
    rw [← hy] at hpre
    have hpx : (fz x).length = 1 + (cz x.f3).length := by rw [l5, List.length_cons]; omega
    have hlen : (L ++ ed (x.f3.take j) xs.length (xs.length + 1)).length = xs.length + 1 + (cz (x.f3.take j)).length := by rw [List.length_append, f9.out, AK]
    have tX : x.f3.take (j + 1) = x.f3.take j ++ [y] := by rw [N8 _ _ hjl, hy]
    have QM := ae.mk (show (L ++ ed (x.f3.take j) xs.length (xs.length + 1)) ++ bk y (xs.length : Int) (L ++ ed (x.f3.take j) xs.length (xs.length + 1)).length = L ++ ed (x.f3.take (j + 1)) xs.length (xs.length + 1) from by
     rw [hlen, tX, XR, ed, ed, List.append_nil, List.append_assoc])
    have xM := ae.mk (show (L ++ ed (x.f3.take (j + 1)) xs.length (xs.length + 1)).length = L.length + (cz (x.f3.take (j + 1))).length from by rw [List.length_append, AK])
    have Xc := ae.mk (show (fM (x.f3.take j) (xs.length + 1) ++ List.replicate (x.f3.length - j) (0 : Int)).set ((j : Nat) : Int).toNat ((L.length + (cz (x.f3.take j)).length : Nat) : Int) = fM (x.f3.take (j + 1)) (xs.length + 1) ++ List.replicate (x.f3.length - (j + 1)) (0 : Int) from by
     have e1 : (fM (x.f3.take j) (xs.length + 1)).length = j := by rw [Jq, List.length_take]; omega
     rw [Int.toNat_natCast, List.set_append_right _ _ (by omega), e1, Nat.sub_self, tX, WD, fM, fM, show x.f3.length - j = (x.f3.length - (j + 1)) + 1 by omega, List.replicate_succ, List.set_cons_zero, f9.out, List.append_assoc]
     rfl)
    have IH := ae.mk (fun W (hb : Below w0.heap.size w0 W) {P1 : Nat → Prop} (hO : Kd.R fc 70 W w0.heap.size P1 (.slice Aj (L.length + (cz (x.f3.take j)).length) cj) (L ++ ed (x.f3.take j) xs.length (xs.length + 1))) => MS.out y BG (L ++ ed (x.f3.take j) xs.length (xs.length + 1)) (xs.length : Int) B2 d2 B3 d3 P1 _ w0 W hb hO G2 m2 G3 m3 (by have := HN.out; omega) (by rw [hlen]; have := Hl.out; omega) (fun z hz => HGP.out z (by rw [l5]; exact List.mem_cons_of_mem _ (aa6 BG z hz))))
    subst hA
    clear Em BG hpre hpx hlen tX m2 G2 m3 G3 hjl hj hy
    have eK := (aj aN.out 3).trans rfl
    generalize hm : L.length + (cz (x.f3.take j)).length = m at HO IH Xc ⊢
    have HM := ae.mk hm
    clear hm
    go_wp2_with (first | (go_at_call 63; go_loud ((with_reducible refine (IH.out _ HB.out (Kd.xY HO.out aN.out (by decide))).mono ?_); rintro e DG ⟨v', rfl, hR, hB', hK'⟩; rw [QM.out] at hR; obtain ⟨A', c', rfl⟩ := Kd.bm hR; have af := ae.mk hB'; have ag := ae.mk (Kd.cm (d5 := fun k => (P0 k ∨ w.heap.size ≤ k) ∧ k ≠ g8) hR (fun k hk => by rcases hk with hk | hk; exact hk.1.1; exact ⟨.inr (Nat.le_trans HK.out.1 hk), by have := Bi fO.out g8 (by simp [Value.ownBlock]); omega⟩)); have ah := ae.mk (HK.out.then_ hK' (fun k hk => hk.1.1.1)); have am := ae.mk (gL aN.out hK' (fun hk => hk.2 rfl)); have aJ := ae.mk (Kd.VY fO.out hK' (fun k hk h2 => h2.1.1.2 hk)); clear HB HO HK aN fO; have HB := af; have HO := ag; have HK := ah; have aN := am; have fO := aJ; clear af ag ah am aJ hR hB' hK' jS mn rk pJ)) | ((with_reducible refine bz (N := 10) rfl ?_); refine bT ?hg (N := 10) ?hd (cs := #[.int .i64 0, .string (⟨#[]⟩ : ByteArray), .slice none 0 0, .slice none 0 0]) (t := 25) ?hr ?_; (case hd => rfl); (case hg => rfl); (case hr => first | (go_simp; done) | (go_simp; rfl)); intro g10 hg wb av hb; have af := ae.mk (d_ HB.out hb); have ag := ae.mk (Kd.p_ (Kd.cm (d5 := fun k => ((P0 k ∨ w.heap.size ≤ k) ∧ k ≠ g8) ∧ k ≠ g10) (Kd.jY HO.out) (fun k hk => ⟨hk.1, by have := hk.2.2.1; omega⟩)) hb); have ah := ae.mk (HK.out.below hb); have am := ae.mk (di aN.out hb); have aJ := ae.mk (Kd.p_ fO.out hb); have Iz := ae.mk (by have := em aN.out; omega : g4 ≠ g10); have GQ := ae.mk (by have := Bi fO.out g8 (by simp [Value.ownBlock]); omega : g8 ≠ g10); have o5 := ae.mk (by rw [hg]; exact HK.out.1 : w.heap.size ≤ g10); have I6 := ae.mk (by rw [hg]; exact HB.out.size : w0.heap.size ≤ g10); have bQ := ae.mk av; clear HB HO HK aN fO; have HB := af; have HO := ag; have HK := ah; have aN := am; have fO := aJ; clear af ag ah am aJ hb av hg; have jS := (aj bQ.out 0).trans rfl; have qB := bN bQ.out 0; have mn := (aj bQ.out 1).trans rfl; have tJ := bN bQ.out 1; have rk := (aj bQ.out 2).trans rfl; have DK := bN bQ.out 2; have pJ := (aj bQ.out 3).trans rfl; have xm := bN bQ.out 3) | ((with_reducible refine LY (t := 3) (p := 46) rfl ?_); go_loud (have af := ae.mk (ao (j := 3) (v := (.slice B3 y.f3.length d3)) (ao (j := 2) (v := (.slice B2 y.f2.length d2)) (ao (j := 1) (v := (.string y.f1)) (ao (j := 0) (v := (.int .i64 y.f0)) HB.out I6.out) I6.out) I6.out) I6.out); have ag := ae.mk (Kd.oF (p := ⟨g10, 3, none⟩) (Kd.oF (p := ⟨g10, 2, none⟩) (Kd.oF (p := ⟨g10, 1, none⟩) (Kd.oF (p := ⟨g10, 0, none⟩) HO.out (fun k hk => hk.2) (.int .i64 y.f0)) (fun k hk => hk.2) (.string y.f1)) (fun k hk => hk.2) (.slice B2 y.f2.length d2)) (fun k hk => hk.2) (.slice B3 y.f3.length d3)); have ah := ae.mk (Kept.setCell (p := ⟨g10, 3, none⟩) (Kept.setCell (p := ⟨g10, 2, none⟩) (Kept.setCell (p := ⟨g10, 1, none⟩) (Kept.setCell (p := ⟨g10, 0, none⟩) HK.out (.inr o5.out) (.int .i64 y.f0)) (.inr o5.out) (.string y.f1)) (.inr o5.out) (.slice B2 y.f2.length d2)) (.inr o5.out) (.slice B3 y.f3.length d3)); have am := ae.mk (Hq (p := ⟨g10, 3, none⟩) (Hq (p := ⟨g10, 2, none⟩) (Hq (p := ⟨g10, 1, none⟩) (Hq (p := ⟨g10, 0, none⟩) aN.out Iz.out (.int .i64 y.f0)) Iz.out (.string y.f1)) Iz.out (.slice B2 y.f2.length d2)) Iz.out (.slice B3 y.f3.length d3)); have aJ := ae.mk (Kd.oF (p := ⟨g10, 3, none⟩) (Kd.oF (p := ⟨g10, 2, none⟩) (Kd.oF (p := ⟨g10, 1, none⟩) (Kd.oF (p := ⟨g10, 0, none⟩) fO.out (fun k hk => by rw [hk]; exact GQ.out) (.int .i64 y.f0)) (fun k hk => by rw [hk]; exact GQ.out) (.string y.f1)) (fun k hk => by rw [hk]; exact GQ.out) (.slice B2 y.f2.length d2)) (fun k hk => by rw [hk]; exact GQ.out) (.slice B3 y.f3.length d3)); have aW := ae.mk (ix (cs := #[.int .i64 y.f0, .string y.f1, .slice B2 y.f2.length d2, .slice none 0 0]) (cs' := #[.int .i64 y.f0, .string y.f1, .slice B2 y.f2.length d2, .slice B3 y.f3.length d3]) (ix (cs := #[.int .i64 y.f0, .string y.f1, .slice none 0 0, .slice none 0 0]) (cs' := #[.int .i64 y.f0, .string y.f1, .slice B2 y.f2.length d2, .slice none 0 0]) (ix (cs := #[.int .i64 y.f0, .string (⟨#[]⟩ : ByteArray), .slice none 0 0, .slice none 0 0]) (cs' := #[.int .i64 y.f0, .string y.f1, .slice none 0 0, .slice none 0 0]) (ix (cs := #[.int .i64 0, .string (⟨#[]⟩ : ByteArray), .slice none 0 0, .slice none 0 0]) (cs' := #[.int .i64 y.f0, .string (⟨#[]⟩ : ByteArray), .slice none 0 0, .slice none 0 0]) bQ.out 0 (.int .i64 y.f0) rfl) 1 (.string y.f1) rfl) 2 (.slice B2 y.f2.length d2) rfl) 3 (.slice B3 y.f3.length d3) rfl); clear HB HO HK aN fO bQ; have HB := af; have HO := ag; have HK := ah; have aN := am; have fO := aJ; have bQ := aW; clear af ag ah am aJ aW; generalize ((((wb.setCell ⟨g10, 0, none⟩ (.int .i64 y.f0)).setCell ⟨g10, 1, none⟩ (.string y.f1)).setCell ⟨g10, 2, none⟩ (.slice B2 y.f2.length d2)).setCell ⟨g10, 3, none⟩ (.slice B3 y.f3.length d3)) = wc at HB HO HK aN fO bQ ⊢; clear jS mn rk pJ qB tJ DK xm; obtain ⟨ce, hcl, vv, hcc, _⟩ := Kd.IR fO.out (0 : Int) (j : Int) (by omega) (by have := eV.out; omega); refine Kd.OD (Kd.int .i64) (w0 := w0) w0.heap.size rfl rfl 3 (.tmp 46) (.tmp 45) rfl 3 (j : Int) 0 (fM (x.f3.take j) (xs.length + 1) ++ List.replicate (x.f3.length - j) (0 : Int)) ((m : Int)) (.int .i64 (m : Int)) [.int .i64 (m : Int)] ce (fun k => k = g8) (fun _ => False) rfl (by first | rfl | (rw [Int.toNat_natCast]; show _ = j * 1 + 0; omega)) rfl rfl (by kernel_rfl) (fun q hq => by rw [List.mem_singleton.1 hq]; rfl) fO.out (by omega) (by have := eV.out; omega) hcl hcc (Nat.le_refl 1) (by have h1 : ce.drop 1 = [] := List.drop_of_length_le (by rw [hcl]; exact Nat.le_refl 1); show ce.take 0 ++ _ ++ ce.drop (0 + 1) = _; rw [Nat.zero_add, h1]; rfl) (fun _ hk => hk.elim) HB.out ?_; intro sY s' F_ pj; rw [Xc.out] at s'; have af := ae.mk F_; have ag := ae.mk (Kd.uE HO.out pj (fun k hk e => hk.1.2 (by injection e))); have ah := ae.mk (Kept.kB (S := P0) pj HK.out (fun k e => by injection e with e; subst e; exact .inr Yy.out)); have am := ae.mk ((pj.block g4 (em aN.out) (fun e => aev.out (by injection e))).trans aN.out); have aW := ae.mk ((pj.block g10 (em bQ.out) (fun e => GQ.out (by injection e with e; exact e.symm))).trans bQ.out); clear HB HO HK aN fO bQ; have HB := af; have HO := ag; have HK := ah; have aN := am; have fO := ae.mk s'; have bQ := aW; clear af ag ah am aW s' F_ pj; have jS := (aj bQ.out 0).trans rfl; have mn := (aj bQ.out 1).trans rfl; have rk := (aj bQ.out 2).trans rfl; have pJ := (aj bQ.out 3).trans rfl)))
    go_roundg g
    case measure => omega
    case rel => exact ⟨j + 1, A', c', by have := eV.out; have := ES.out; exact congrArg (Value.int .i64) (show wrap64 ((j : Int) + 1) = ((j + 1 : Nat) : Int) from by unfold wrap64; omega), by first | rw [AK] | rw [xM.out], by have := HJ.out; omega, ⟨by rw [← xM.out]; exact HO.out⟩, fO, aN, HB, HK⟩
def j7 (x : aX) : Bool := decide ((fz x).length ≤ 1000000) && (fz x).all (fun y => decide (y.f2.length ≤ 1000000))
def us.f (aE : Int) (aA : ByteArray) (ay : List ByteArray) (au : List (aX)) : Option (List (bC)) := if j7 ⟨aE, aA, ay, au⟩ = true then some (bk ⟨aE, aA, ay, au⟩ (-1) 0) else none
set_option maxHeartbeats 8000000 in
set_option maxRecDepth 100000 in
theorem us.calls (aE : Int) (aA : ByteArray) (bB : Option Addr) (bA : Nat) (ay : List ByteArray) (br : Option Addr) (bq : Nat) (au : List (aX)) (r : List (bC)) (w : World) (fZ : Kd.C Kd.string w bB ay.length ay) (gg : ay.length ≤ bA) (fC : Kd.C k25 w br au.length au) (fL : au.length ≤ bq) (h : us.f aE aA ay au = some r) :
  Calls Try.prog 49 #[.agg #[.int .i64 aE, .string aA, .slice bB ay.length bA, .slice br au.length bq]] w fun e w' => ∃ jC : Value, e = .returned (jC) ∧ Kd.R fc 70 w' w.heap.size (fun _ => True) jC r ∧ Below w.heap.size w w' := by
 unfold us.f at h
 split at h
 case isFalse => cases h
 rename_i hok
 obtain rfl := Option.some.inj h
 clear h
 unfold j7 at hok
 simp only [Bool.and_eq_true, decide_eq_true_eq, List.all_eq_true] at hok
 have nR := Try.underlying25
 have HB := ae.mk (Below.refl w.heap.size w)
 have HC := ae.mk (fun (W : World) (hb : Below w.heap.size w W) => ahV ⟨aE, aA, ay, au⟩ [] (-1) bB bA br bq (fun _ => False) (.slice none 0 0) w W hb (Kd.lS _ _ _ _ _) fZ gg fC fL hok.1 (by have := hok.1; simp only [List.length_nil]; omega) hok.2)
 clear hok fZ fC
 go_enter Try.func49, Try.ntmps49
 go_wp2_with (first | ((with_reducible refine bz (N := 1) rfl ?_); refine bT ?hg (N := 1) ?hd (cs := #[.int .i64 aE, .string aA, .slice bB ay.length bA, .slice br au.length bq]) (t := 25) ?hr ?_; (case hd => rfl); (case hg => rfl); (case hr => first | (go_simp; done) | (go_simp; rfl)); intro g1 hg w1 av hb; have af := ae.mk (d_ HB.out hb); clear HB; have HB := af; have z0 := (aj av 0).trans rfl; have z1 := (aj av 1).trans rfl; have z2 := (aj av 2).trans rfl; have z3 := (aj av 3).trans rfl; clear af hb av hg) | (go_at_call 63; go_loud ((with_reducible refine (HC.out _ HB.out).mono ?_); rintro e w3 ⟨v', rfl, hR, hB', hK'⟩; obtain ⟨A', c', rfl⟩ := Kd.bm hR; have HR := ae.mk hR; have wO := ae.mk hB'; clear hR hB' hK' z0 z1 z2 z3)))
 go_ret
 exact ⟨_, rfl, Kd.cm HR.out (fun _ _ => trivial), wO.out⟩
end Go.Proofs.Ytcfjdehpbckomaa.Q
