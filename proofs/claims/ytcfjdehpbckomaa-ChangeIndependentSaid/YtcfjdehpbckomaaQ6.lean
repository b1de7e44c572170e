
import Derived.Test.YtcfjdehpbckomaaQ0
import Derived.Test.YtcfjdehpbckomaaQ2
import Derived.Test.YtcfjdehpbckomaaQ3
import Derived.Test.YtcfjdehpbckomaaQ4
import Derived.Test.YtcfjdehpbckomaaQ5
namespace Go.Proofs.Ytcfjdehpbckomaa.Q
open Go.RowKit Go.Proofs.YtcfjdehpbckomaaW.dS Go.Proofs.YtcfjdehpbckomaaW.jm Go.Proofs.YtcfjdehpbckomaaW.mm
attribute [local go_sem] mU na nt mX m6 nu mP mW
set_option linter.unusedVariables false
set_option linter.unusedSimpArgs false
/-! ### ident_Check: function 44 (by hand) -/
def gI (rows : List bC) (ids : List Int) (count : Int) (K : List (Int × Int)) : Nat → Bool × List (Int × Bool) × List (Int × Int)
 | 0 => (true, [], K)
 | n + 1 =>
  if (gI rows ids count K n).1 = false then gI rows ids count K n
  else if ids.getD n 0 < 0 ∨ count ≤ ids.getD n 0 ∨ (cK (gI rows ids count K n).2.1 (ids.getD n 0)).getD false = true then (false, (gI rows ids count K n).2)
  else if (cK (gI rows ids count K n).2.2 (ids.getD n 0)).isSome = true ∧ (cK (gI rows ids count K n).2.2 (ids.getD n 0)).getD 0 ≠ (rows.getD n z70).f1 then (false, fG (gI rows ids count K n).2.1 (ids.getD n 0) true, (gI rows ids count K n).2.2)
  else (!(decide (ids.getD n 0 = 0) && decide (n ≠ 0)), fG (gI rows ids count K n).2.1 (ids.getD n 0) true, fG (gI rows ids count K n).2.2 (ids.getD n 0) (rows.getD n z70).f1)
theorem Xm (rows : List bC) (ids : List Int) (count : Int) (K : List (Int × Int)) (n : Nat) (h : (gI rows ids count K n).1 = false) : ∀ m, n ≤ m → gI rows ids count K m = gI rows ids count K n := by
 intro m hm
 induction m with
 | zero =>
  have : n = 0 := by omega
  rw [this]
 | succ m ih =>
  by_cases e : n = m + 1
  ·rw [e]
  ·have := ih (by omega)
   rw [gI, this, if_pos h]
def oG (rows : List bC) (ids : List Int) (count : Int) (K : List (Int × Int)) (k0 k1 : Int) : Bool := if rows.length = ids.length then (gI rows ids count K ids.length).1 && (decide (ids.getD 0 0 = 0) == decide (k0 = k1)) else false
def gT (rows : List bC) (ids : List Int) (count : Int) (K : List (Int × Int)) : List (Int × Int) := if rows.length = ids.length then (gI rows ids count K ids.length).2.2 else K
theorem Jz {κ β : Type} [DecidableEq κ] (k : κ) (v : β) : ∀ l : List (κ × β), (fG l k v).length ≤ l.length + 1
 | [] => by simp [fG]
 | p :: l => by
  rw [fG]
  split
  ·simp
  ·have := Jz k v l
   simp only [List.length_cons]
   omega
set_option maxHeartbeats 16000000 in
set_option maxRecDepth 100000 in
theorem WR (x y : aX) (ids : List Int) (count : Int) (K : List (Int × Int)) (b : Nat) (lC : Option Addr) (ln : Nat) (lu : Option Addr) (lE : Nat) (np : Option Addr) (m8 : Nat) (m5 : Option Addr) (mV : Nat) (Ai : Option Addr) (ci : Nat) (w0 w : World) (hb0 : Below w0.heap.size w0 w)
  (hx2 : Kd.C Kd.string w0 lC x.f2.length x.f2) (vJ : x.f2.length ≤ ln) (kE : Kd.C k25 w0 lu x.f3.length x.f3) (vL : x.f3.length ≤ lE) (hi : Kd.C (Kd.int .i64) w0 Ai ids.length ids) (li : ids.length ≤ ci) (hok : j7 x = true) (hK : dd ld (VE (Value.int .i64)) w b K) (u9 : w0.heap.size ≤ b) :
  Calls Try.prog 57 #[.agg #[.int .i64 x.f0, .string x.f1, .slice lC x.f2.length ln, .slice lu x.f3.length lE], .agg #[.int .i64 y.f0, .string y.f1, .slice np y.f2.length m8, .slice m5 y.f3.length mV], .slice Ai ids.length ci, .int .i64 count, .map (some b)] w fun e w' => e = .returned (.bool (oG (bk x (-1) 0) ids count K x.f0 y.f0)) ∧ dd ld (VE (Value.int .i64)) w' b (gT (bk x (-1) 0) ids count K) ∧ Below w0.heap.size w0 w' ∧ Kept w w' (fun q => q = b) := by
 have xv := ae.mk hb0
 have HI := ae.mk hi
 have SU := ae.mk hK
 have zT := ae.mk u9
 have nS := ae.mk (hK.lt : b < w.heap.size)
 have Sl := ae.mk (by rw [td, l5]; simp : 0 < (bk x (-1) 0).length)
 obtain ⟨rows, hrows⟩ : ∃ rows, rows = bk x (-1) 0 := ⟨_, rfl⟩
 have tQ := ae.mk (by rw [hrows, td]; unfold j7 at hok; simp only [Bool.and_eq_true, decide_eq_true_eq] at hok; exact hok.1 : rows.length ≤ 1000000)
 have HC := ae.mk (fun (W : World) (hb : Below w0.heap.size w0 W) => us.calls x.f0 x.f1 lC ln x.f2 lu lE x.f3 rows W (Kd.aC hx2 hb) vJ (Kd.aC kE hb) vL (by unfold us.f; rw [show (⟨x.f0, x.f1, x.f2, x.f3⟩ : aX) = x by cases x; rfl, if_pos hok, ← hrows]))
 rw [← hrows] at Sl ⊢
 have HB := ae.mk (Below.refl w.heap.size w)
 have hmm := @run_makeMap Try.prog
 clear hrows hok hx2 vJ kE vL hi li hb0 hK u9
 by_cases hlen : rows.length = ids.length
 case neg =>
  have HN := ae.mk hlen
  have e1 : ((ids.length : Int) != (rows.length : Int)) = true := by rw [bne_iff_ne]; omega
  have HF := ae.mk (by unfold oG; rw [if_neg hlen] : oG rows ids count K x.f0 y.f0 = false)
  have MP := ae.mk (by unfold gT; rw [if_neg hlen] : gT rows ids count K = K)
  clear hlen
  go_enter Try.func57, Try.ntmps57
  go_wp2_with (first | ((with_reducible refine bz (N := 5) rfl ?_); refine bT ?hg (N := 5) ?hd (cs := #[.int .i64 x.f0, .string x.f1, .slice lC x.f2.length ln, .slice lu x.f3.length lE]) (t := 25) ?hr ?_; (case hd => rfl); (case hg => rfl); (case hr => first | (go_simp; done) | (go_simp; rfl)); intro g5 hg w1 av hb; have FB := ae.mk (by rw [hg]; exact Nat.le_refl _ : w.heap.size ≤ g5); have jr := ae.mk hb; have bH := ae.mk av; clear av hb hg; have gO := (aj bH.out 0).trans rfl; have z51 := (aj bH.out 1).trans rfl; have gV := (aj bH.out 2).trans rfl; have z53 := (aj bH.out 3).trans rfl) | ((with_reducible refine bz (N := 6) rfl ?_); refine bT ?hg (N := 6) ?hd (cs := #[.int .i64 y.f0, .string y.f1, .slice np y.f2.length m8, .slice m5 y.f3.length mV]) (t := 25) ?hr ?_; (case hd => rfl); (case hg => rfl); (case hr => first | (go_simp; done) | (go_simp; rfl)); intro g6 hg w2 av hb; have Cy := ae.mk (by rw [hg]; exact jr.out.size : w.heap.size ≤ g6); have nZ := ae.mk (d_ jr.out hb); have rU := ae.mk (di bH.out hb); have cf := ae.mk av; clear av hb hg; clear gO z51 gV z53; have gO := (aj rU.out 0).trans rfl; have z51 := (aj rU.out 1).trans rfl; have gV := (aj rU.out 2).trans rfl; have z53 := (aj rU.out 3).trans rfl) | (go_at_call 49; go_loud ((with_reducible refine (HC.out _ (d_ xv.out nZ.out)).mono ?_); rintro e w3 ⟨v, rfl, hR, hb3⟩; obtain ⟨Ar, cr, rfl⟩ := Kd.bm hR; have gp := ae.mk (d_ nZ.out hb3); have nh := ae.mk (di rU.out hb3); have VD := ae.mk (di cf.out hb3); have tn := ae.mk (Kd.sc (Kd.cm (d5 := fun k => w.heap.size ≤ k ∧ k < w3.heap.size) (Kd.jY hR) (fun k hk => ⟨Nat.le_trans nZ.out.size hk.2.1, hk.2.2.1⟩))); clear hR hb3; clear gO z51 gV z53)))
  go_ret
  exact ⟨by rw [HF.out]; rfl, by rw [MP.out]; exact SU.out.below gp.out, d_ xv.out gp.out, Kept.sQ gp.out _⟩
 have f9 := ae.mk hlen
 have e1 : ((ids.length : Int) != (rows.length : Int)) = false := by rw [bne_eq_false_iff_eq]; omega
 clear hlen
 go_enter Try.func57, Try.ntmps57
 go_wp2_with (first | ((with_reducible refine bz (N := 5) rfl ?_); refine bT ?hg (N := 5) ?hd (cs := #[.int .i64 x.f0, .string x.f1, .slice lC x.f2.length ln, .slice lu x.f3.length lE]) (t := 25) ?hr ?_; (case hd => rfl); (case hg => rfl); (case hr => first | (go_simp; done) | (go_simp; rfl)); intro g5 hg w1 av hb; have FB := ae.mk (by rw [hg]; exact Nat.le_refl _ : w.heap.size ≤ g5); have jr := ae.mk hb; have bH := ae.mk av; clear av hb hg; have gO := (aj bH.out 0).trans rfl; have z51 := (aj bH.out 1).trans rfl; have gV := (aj bH.out 2).trans rfl; have z53 := (aj bH.out 3).trans rfl) | ((with_reducible refine bz (N := 6) rfl ?_); refine bT ?hg (N := 6) ?hd (cs := #[.int .i64 y.f0, .string y.f1, .slice np y.f2.length m8, .slice m5 y.f3.length mV]) (t := 25) ?hr ?_; (case hd => rfl); (case hg => rfl); (case hr => first | (go_simp; done) | (go_simp; rfl)); intro g6 hg w2 av hb; have Cy := ae.mk (by rw [hg]; exact jr.out.size : w.heap.size ≤ g6); have nZ := ae.mk (d_ jr.out hb); have rU := ae.mk (di bH.out hb); have cf := ae.mk av; clear av hb hg; clear gO z51 gV z53; have gO := (aj rU.out 0).trans rfl; have z51 := (aj rU.out 1).trans rfl; have gV := (aj rU.out 2).trans rfl; have z53 := (aj rU.out 3).trans rfl) | (go_at_call 49; go_loud ((with_reducible refine (HC.out _ (d_ xv.out nZ.out)).mono ?_); rintro e w3 ⟨v, rfl, hR, hb3⟩; obtain ⟨Ar, cr, rfl⟩ := Kd.bm hR; have gp := ae.mk (d_ nZ.out hb3); have nh := ae.mk (di rU.out hb3); have VD := ae.mk (di cf.out hb3); have tn := ae.mk (Kd.sc (Kd.cm (d5 := fun k => w.heap.size ≤ k ∧ k < w3.heap.size) (Kd.jY hR) (fun k hk => ⟨Nat.le_trans nZ.out.size hk.2.1, hk.2.2.1⟩))); clear hR hb3; clear gO z51 gV z53)))
 have HW3 := ae.mk (gp.out.size : w.heap.size ≤ w3.heap.size)
 have oE := ae.mk (by have := nS.out; have := HW3.out; omega : b ≠ w3.heap.size)
 have yc := ae.mk (Nat.le_trans (d_ xv.out gp.out).size (Nat.le_refl _) : w0.heap.size ≤ w3.heap.size)
 have qm := ae.mk (by have := FB.out; have := nS.out; omega : g5 ≠ b)
 have qf := ae.mk (by have := Cy.out; have := nS.out; omega : g6 ≠ b)
 go_loopg [27] ids.length (fun gk v27 w' => ∃ (j : Nat) (s : List (Int × Bool)) (k : List (Int × Int)), v27 = .int .i64 j ∧ j + gk = ids.length ∧ ae (gI rows ids count K j = (true, s, k)) ∧ ae (dd ld (VE Value.bool) w' w3.heap.size s) ∧ ae (dd ld (VE (Value.int .i64)) w' b k) ∧ ae (Below w0.heap.size w0 w') ∧ ae (Kept w3 w' (fun q => q = b)))
 case atStart =>
  exact ⟨0, [], K, rfl, by omega, ⟨rfl⟩, ⟨dd.new _ _ _⟩, ⟨(SU.out.below gp.out).alloc _⟩, ⟨d_ (d_ xv.out gp.out) (aQ (Below.refl _ _) _)⟩, ⟨(Kept.refl w3 _).alloc _⟩⟩
 case round =>
  have gp := gp
  clear HB
  obtain ⟨j, s, k, rfl, hj, NG, eJ, ch, HB, dk⟩ := hrel
  obtain ⟨go, rfl⟩ : ∃ go, go = gk := ⟨gk, rfl⟩
  have HJ := ae.mk hj
  cases go with
  | zero =>
   have g1 : decide ((j : Int) < (ids.length : Int)) = false := decide_eq_false (by omega)
   have g2 : decide (j < ids.length) = false := decide_eq_false (by omega)
   obtain rfl : j = ids.length := by omega
   obtain ⟨ai, ei, hx⟩ := Kd.dB (Kd.aC HI.out HB.out) 0 (by omega) (by have := Sl.out; have := f9.out; omega)
   subst ei
   have e0 : (rd ids 0) = ids.getD 0 0 := rfl
   obtain ⟨i0, hi0⟩ : ∃ i0, i0 = ids.getD 0 0 := ⟨_, rfl⟩
   rw [e0, ← hi0] at hx
   have hip : (0 : Nat) < ids.length := by have := Sl.out; have := f9.out; omega
   have asF : (0 : Int) < (ids.length : Int) := by omega
   have gO := (aj (gL nh.out dk.out qm.out) 0).trans rfl
   have z60 := (aj (gL VD.out dk.out qf.out) 0).trans rfl
   have Pr := ae.mk (by unfold oG; rw [if_pos f9.out, NG.out, ← hi0]; rfl : oG rows ids count K x.f0 y.f0 = (decide (i0 = 0) == decide (x.f0 = y.f0)))
   have HRK := ae.mk (by unfold gT; rw [if_pos f9.out, NG.out] : gT rows ids count K = k)
   have hx2 : wr.cell? ai = some (.int .i64 i0) := by rw [← hx]; congr 1
   rw [Int.toNat_zero] at hx
   clear hj e0 hi0
   go_wp2
   go_region
   go_wp2
   go_ret
   exact ⟨by rw [Pr.out]; rfl, by rw [HRK.out]; exact ch.out.drewN _, aY HB.out _, ((Kept.sQ gp.out _).then_ dk.out (fun k hk => .inl hk)).drewN _⟩
  | succ g =>
   have hjl : j < ids.length := by omega
   have eV := ae.mk hjl
   have g1 : decide ((j : Int) < (ids.length : Int)) = true := decide_eq_true (by omega)
   have g2 : decide (j < ids.length) = true := decide_eq_true hjl
   have p0 : (0 : Int) ≤ (j : Int) := by omega
   have p1 : (j : Int) < (ids.length : Int) := by omega
   have p2 : (j : Int) < (rows.length : Int) := by have := f9.out; omega
   obtain ⟨ai, ei, hx⟩ := Kd.dB (Kd.aC HI.out HB.out) (j : Int) p0 p1
   subst ei
   rw [Int.toNat_natCast] at hx
   obtain ⟨id, hid⟩ : ∃ id, id = rd ids (j : Int) := ⟨_, rfl⟩
   rw [← hid] at hx
   have pZ := ae.mk (hid.trans (by unfold rd; rw [Int.toNat_natCast]) : id = ids.getD j 0)
   obtain ⟨r, hr⟩ : ∃ r, r = aD rows (j : Int) := ⟨_, rfl⟩
   have HR := ae.mk (hr.trans (by unfold aD; rw [Int.toNat_natCast]) : r = rows.getD j z70)
   obtain ⟨ad, Ag, cg, Ak, ck, eA, _, q1, _⟩ := Jy tn.out (j : Int) p0 p2
   subst eA
   rw [Int.toNat_natCast] at q1
   rw [← hr] at q1
   have HQ := ae.mk (fun (W : World) (hW : Kept w3 W (fun q => q = b)) => (by
    obtain ⟨ad2, _, _, _, _, OZ, _, QT, _⟩ := Jy (Kd.W_ tn.out hW (fun q hq e => by have := nS.out; have := hq.1; omega)) (j : Int) p0 p2
    injection OZ with OZ
    subst OZ
    rw [Int.toNat_natCast] at QT
    rw [← hr] at QT
    exact QT : W.cell? ⟨(ad.add (j * 5)).block, (ad.add (j * 5)).off + 1, none⟩ = some (.int .i64 r.f1)))
   have Au := ae.mk (fun (q : Bool × List (Int × Bool) × List (Int × Int)) (h : gI rows ids count K (j + 1) = q) (h1 : q.1 = false) => (⟨by unfold oG; rw [if_pos f9.out, Xm rows ids count K (j + 1) (by rw [h]; exact h1) ids.length (by omega), h, h1]; rfl, by unfold gT; rw [if_pos f9.out, Xm rows ids count K (j + 1) (by rw [h]; exact h1) ids.length (by omega), h]⟩ : oG rows ids count K x.f0 y.f0 = false ∧ gT rows ids count K = q.2.2))
   have HST := ae.mk (by rw [gI, NG.out, ← pZ.out, ← HR.out, if_neg (by simp)] : gI rows ids count K (j + 1) = if id < 0 ∨ count ≤ id ∨ (cK s id).getD false = true then (false, s, k) else if (cK k id).isSome = true ∧ (cK k id).getD 0 ≠ r.f1 then (false, fG s id true, k) else (!(decide (id = 0) && decide (j ≠ 0)), fG s id true, fG k id r.f1))
   clear hid hr hj hjl q1
   by_cases c1 : id < 0
   ·have HX := Au.out _ (HST.out.trans (if_pos (.inl c1))) rfl
    have nJ := ae.mk HX
    have e1 : decide (id < 0) = true := decide_eq_true c1
    clear c1 HX
    go_wp2
    go_ret
    exact ⟨by rw [nJ.out.1]; rfl, by rw [nJ.out.2]; exact ch.out, HB.out, (Kept.sQ gp.out _).then_ dk.out (fun k hk => .inl hk)⟩
   have e1 : decide (id < 0) = false := decide_eq_false c1
   have sH := ae.mk c1
   clear c1
   by_cases c2 : count ≤ id
   ·have nJ := ae.mk (Au.out _ (HST.out.trans (if_pos (.inr (.inl c2)))) rfl)
    have e2 : decide (count ≤ id) = true := decide_eq_true c2
    have e2' : decide (id ≥ count) = true := decide_eq_true c2
    clear c2
    go_wp2
    go_ret
    exact ⟨by rw [nJ.out.1]; rfl, by rw [nJ.out.2]; exact ch.out, HB.out, (Kept.sQ gp.out _).then_ dk.out (fun k hk => .inl hk)⟩
   have e2 : decide (count ≤ id) = false := decide_eq_false c2
   have e2' : decide (id ≥ count) = false := decide_eq_false c2
   have lO := ae.mk c2
   clear c2
   obtain ⟨sv, M5⟩ : ∃ sv, sv = (cK s id).getD false := ⟨_, rfl⟩
   have uM := ae.mk M5.symm
   rw [← M5] at HST
   clear M5
   cases sv with
   | true =>
    have nJ := ae.mk (Au.out _ (HST.out.trans (if_pos (.inr (.inr rfl)))) rfl)
    go_wp2_with (first | ((with_reducible refine bz (N := 42) rfl ?_); (try (refine gN (by rfl) ?_; dsimp only)); refine oT rfl (.tmp 40) (.tmp 41) rfl (ej.int Try.underlying3) Try.underlying73 false (by kernel_rfl) rfl eJ.out id rfl ?_; rw [uM.out]))
    go_ret
    exact ⟨by rw [nJ.out.1]; rfl, by rw [nJ.out.2]; exact ch.out, HB.out, (Kept.sQ gp.out _).then_ dk.out (fun k hk => .inl hk)⟩
   | false =>
    have Bu := ae.mk (HST.out.trans (if_neg (by rintro (h | h | h); exact sH.out h; exact lO.out h; cases h)))
    clear HST
    cases uW : cK k id with
    | none =>
     have qn := ae.mk uW
     have pH := ae.mk (Bu.out.trans (if_neg (by rw [uW]; rintro ⟨h, _⟩; cases h)))
     clear uW Bu
     by_cases c4 : id = 0
     ·by_cases c5 : j = 0
      ·have e4 : (id == 0) = true := beq_iff_eq.2 c4
       have e5 : ((j : Int) != 0) = false := by rw [bne_eq_false_iff_eq]; omega
       have yA := ae.mk (pH.out.trans (by rw [decide_eq_true c4, decide_eq_false (fun h => h c5)]; rfl) : gI rows ids count K (j + 1) = (true, fG s id true, fG k id r.f1))
       clear c4 c5 pH
       go_wp2_with (first | ((with_reducible refine bz (N := 42) rfl ?_); (try (refine gN (by rfl) ?_; dsimp only)); refine oT rfl (.tmp 40) (.tmp 41) rfl (ej.int Try.underlying3) Try.underlying73 false (by kernel_rfl) rfl eJ.out id rfl ?_; rw [uM.out]) | ((with_reducible refine oe rfl (.tmp 44) (.tmp 45) _ rfl (ej.int Try.underlying3) Try.underlying73 rfl eJ.out id rfl _ true rfl rfl ?_); intro w4 lY hg4; have af := ae.mk lY; have ag := ae.mk (ch.out.grown hg4 (fun e => oE.out (by injection e))); have ah := ae.mk (jc HB.out hg4 yc.out HB.out.size); have am := ae.mk (Kept.kB hg4 dk.out (fun k e => by injection e with e; subst e; exact .inr (Nat.le_refl _))); clear eJ ch HB dk; have eJ := af; have ch := ag; have HB := ah; have dk := am; clear af ag ah am lY hg4; have hq1 := HQ.out _ dk.out) | ((with_reducible refine oT rfl (.tmp 47) (.tmp 48) rfl (ej.int Try.underlying3) Try.underlying92 (0 : Int) (by kernel_rfl) rfl ch.out id rfl ?_); rw [qn.out]) | ((with_reducible refine oe rfl (.tmp 62) (.tmp 63) _ rfl (ej.int Try.underlying3) Try.underlying92 rfl ch.out id rfl _ r.f1 rfl rfl ?_); intro w5 jx fg; have af := ae.mk jx; have ag := ae.mk (eJ.out.grown fg (fun e => oE.out (by injection e with e; exact e.symm))); have ah := ae.mk (jc HB.out fg zT.out HB.out.size); have am := ae.mk (Kept.kB fg dk.out (fun k e => by injection e with e; subst e; exact .inl rfl)); clear eJ ch HB dk hq1; have ch := af; have eJ := ag; have HB := ah; have dk := am; clear af ag ah am jx fg))
       go_roundg g
       case measure => omega
       case rel => exact ⟨j + 1, _, _, by have := tQ.out; have := f9.out; have := eV.out; exact congrArg (Value.int .i64) (show wrap64 ((j : Int) + 1) = ((j + 1 : Nat) : Int) from by unfold wrap64; omega), by have := HJ.out; omega, yA, eJ, ch, HB, dk⟩
      ·have e4 : (id == 0) = true := beq_iff_eq.2 c4
       have e5 : ((j : Int) != 0) = true := bne_iff_ne.2 (by omega)
       have nJ := ae.mk (Au.out (false, fG s id true, fG k id r.f1) (pH.out.trans (by rw [decide_eq_true c4, decide_eq_true c5]; rfl)) rfl)
       clear c4 c5 pH
       go_wp2_with (first | ((with_reducible refine bz (N := 42) rfl ?_); (try (refine gN (by rfl) ?_; dsimp only)); refine oT rfl (.tmp 40) (.tmp 41) rfl (ej.int Try.underlying3) Try.underlying73 false (by kernel_rfl) rfl eJ.out id rfl ?_; rw [uM.out]) | ((with_reducible refine oe rfl (.tmp 44) (.tmp 45) _ rfl (ej.int Try.underlying3) Try.underlying73 rfl eJ.out id rfl _ true rfl rfl ?_); intro w4 lY hg4; have af := ae.mk lY; have ag := ae.mk (ch.out.grown hg4 (fun e => oE.out (by injection e))); have ah := ae.mk (jc HB.out hg4 yc.out HB.out.size); have am := ae.mk (Kept.kB hg4 dk.out (fun k e => by injection e with e; subst e; exact .inr (Nat.le_refl _))); clear eJ ch HB dk; have eJ := af; have ch := ag; have HB := ah; have dk := am; clear af ag ah am lY hg4; have hq1 := HQ.out _ dk.out) | ((with_reducible refine oT rfl (.tmp 47) (.tmp 48) rfl (ej.int Try.underlying3) Try.underlying92 (0 : Int) (by kernel_rfl) rfl ch.out id rfl ?_); rw [qn.out]) | ((with_reducible refine oe rfl (.tmp 62) (.tmp 63) _ rfl (ej.int Try.underlying3) Try.underlying92 rfl ch.out id rfl _ r.f1 rfl rfl ?_); intro w5 jx fg; have af := ae.mk jx; have ag := ae.mk (eJ.out.grown fg (fun e => oE.out (by injection e with e; exact e.symm))); have ah := ae.mk (jc HB.out fg zT.out HB.out.size); have am := ae.mk (Kept.kB fg dk.out (fun k e => by injection e with e; subst e; exact .inl rfl)); clear eJ ch HB dk hq1; have ch := af; have eJ := ag; have HB := ah; have dk := am; clear af ag ah am jx fg))
       go_ret
       exact ⟨by rw [nJ.out.1]; rfl, by rw [nJ.out.2]; exact ch.out, HB.out, (Kept.sQ gp.out _).then_ dk.out (fun k hk => .inl hk)⟩
     ·have e4 : (id == 0) = false := beq_eq_false_iff_ne.2 c4
      have yA := ae.mk (pH.out.trans (by rw [decide_eq_false c4]; rfl) : gI rows ids count K (j + 1) = (true, fG s id true, fG k id r.f1))
      clear c4 pH
      go_wp2_with (first | ((with_reducible refine bz (N := 42) rfl ?_); (try (refine gN (by rfl) ?_; dsimp only)); refine oT rfl (.tmp 40) (.tmp 41) rfl (ej.int Try.underlying3) Try.underlying73 false (by kernel_rfl) rfl eJ.out id rfl ?_; rw [uM.out]) | ((with_reducible refine oe rfl (.tmp 44) (.tmp 45) _ rfl (ej.int Try.underlying3) Try.underlying73 rfl eJ.out id rfl _ true rfl rfl ?_); intro w4 lY hg4; have af := ae.mk lY; have ag := ae.mk (ch.out.grown hg4 (fun e => oE.out (by injection e))); have ah := ae.mk (jc HB.out hg4 yc.out HB.out.size); have am := ae.mk (Kept.kB hg4 dk.out (fun k e => by injection e with e; subst e; exact .inr (Nat.le_refl _))); clear eJ ch HB dk; have eJ := af; have ch := ag; have HB := ah; have dk := am; clear af ag ah am lY hg4; have hq1 := HQ.out _ dk.out) | ((with_reducible refine oT rfl (.tmp 47) (.tmp 48) rfl (ej.int Try.underlying3) Try.underlying92 (0 : Int) (by kernel_rfl) rfl ch.out id rfl ?_); rw [qn.out]) | ((with_reducible refine oe rfl (.tmp 62) (.tmp 63) _ rfl (ej.int Try.underlying3) Try.underlying92 rfl ch.out id rfl _ r.f1 rfl rfl ?_); intro w5 jx fg; have af := ae.mk jx; have ag := ae.mk (eJ.out.grown fg (fun e => oE.out (by injection e with e; exact e.symm))); have ah := ae.mk (jc HB.out fg zT.out HB.out.size); have am := ae.mk (Kept.kB fg dk.out (fun k e => by injection e with e; subst e; exact .inl rfl)); clear eJ ch HB dk hq1; have ch := af; have eJ := ag; have HB := ah; have dk := am; clear af ag ah am jx fg))
      go_roundg g
      case measure => omega
      case rel => exact ⟨j + 1, _, _, by have := tQ.out; have := f9.out; have := eV.out; exact congrArg (Value.int .i64) (show wrap64 ((j : Int) + 1) = ((j + 1 : Nat) : Int) from by unfold wrap64; omega), by have := HJ.out; omega, yA, eJ, ch, HB, dk⟩
    | some q =>
     have qn := ae.mk uW
     by_cases c3 : q = r.f1
     ·have e3 : (q != r.f1) = false := by rw [bne_eq_false_iff_eq]; exact c3
      have pH := ae.mk (Bu.out.trans (if_neg (by rw [uW]; rintro ⟨_, h⟩; exact h c3)))
      clear uW Bu c3
      by_cases c4 : id = 0
      ·by_cases c5 : j = 0
       ·have e4 : (id == 0) = true := beq_iff_eq.2 c4
        have e5 : ((j : Int) != 0) = false := by rw [bne_eq_false_iff_eq]; omega
        have yA := ae.mk (pH.out.trans (by rw [decide_eq_true c4, decide_eq_false (fun h => h c5)]; rfl) : gI rows ids count K (j + 1) = (true, fG s id true, fG k id r.f1))
        clear c4 c5 pH
        go_wp2_with (first | ((with_reducible refine bz (N := 42) rfl ?_); (try (refine gN (by rfl) ?_; dsimp only)); refine oT rfl (.tmp 40) (.tmp 41) rfl (ej.int Try.underlying3) Try.underlying73 false (by kernel_rfl) rfl eJ.out id rfl ?_; rw [uM.out]) | ((with_reducible refine oe rfl (.tmp 44) (.tmp 45) _ rfl (ej.int Try.underlying3) Try.underlying73 rfl eJ.out id rfl _ true rfl rfl ?_); intro w4 lY hg4; have af := ae.mk lY; have ag := ae.mk (ch.out.grown hg4 (fun e => oE.out (by injection e))); have ah := ae.mk (jc HB.out hg4 yc.out HB.out.size); have am := ae.mk (Kept.kB hg4 dk.out (fun k e => by injection e with e; subst e; exact .inr (Nat.le_refl _))); clear eJ ch HB dk; have eJ := af; have ch := ag; have HB := ah; have dk := am; clear af ag ah am lY hg4; have hq1 := HQ.out _ dk.out) | ((with_reducible refine oT rfl (.tmp 47) (.tmp 48) rfl (ej.int Try.underlying3) Try.underlying92 (0 : Int) (by kernel_rfl) rfl ch.out id rfl ?_); rw [qn.out]) | ((with_reducible refine oe rfl (.tmp 62) (.tmp 63) _ rfl (ej.int Try.underlying3) Try.underlying92 rfl ch.out id rfl _ r.f1 rfl rfl ?_); intro w5 jx fg; have af := ae.mk jx; have ag := ae.mk (eJ.out.grown fg (fun e => oE.out (by injection e with e; exact e.symm))); have ah := ae.mk (jc HB.out fg zT.out HB.out.size); have am := ae.mk (Kept.kB fg dk.out (fun k e => by injection e with e; subst e; exact .inl rfl)); clear eJ ch HB dk hq1; have ch := af; have eJ := ag; have HB := ah; have dk := am; clear af ag ah am jx fg))
        go_roundg g
        case measure => omega
        case rel => exact ⟨j + 1, _, _, by have := tQ.out; have := f9.out; have := eV.out; exact congrArg (Value.int .i64) (show wrap64 ((j : Int) + 1) = ((j + 1 : Nat) : Int) from by unfold wrap64; omega), by have := HJ.out; omega, yA, eJ, ch, HB, dk⟩
       ·have e4 : (id == 0) = true := beq_iff_eq.2 c4
        have e5 : ((j : Int) != 0) = true := bne_iff_ne.2 (by omega)
        have nJ := ae.mk (Au.out (false, fG s id true, fG k id r.f1) (pH.out.trans (by rw [decide_eq_true c4, decide_eq_true c5]; rfl)) rfl)
        clear c4 c5 pH
        go_wp2_with (first | ((with_reducible refine bz (N := 42) rfl ?_); (try (refine gN (by rfl) ?_; dsimp only)); refine oT rfl (.tmp 40) (.tmp 41) rfl (ej.int Try.underlying3) Try.underlying73 false (by kernel_rfl) rfl eJ.out id rfl ?_; rw [uM.out]) | ((with_reducible refine oe rfl (.tmp 44) (.tmp 45) _ rfl (ej.int Try.underlying3) Try.underlying73 rfl eJ.out id rfl _ true rfl rfl ?_); intro w4 lY hg4; have af := ae.mk lY; have ag := ae.mk (ch.out.grown hg4 (fun e => oE.out (by injection e))); have ah := ae.mk (jc HB.out hg4 yc.out HB.out.size); have am := ae.mk (Kept.kB hg4 dk.out (fun k e => by injection e with e; subst e; exact .inr (Nat.le_refl _))); clear eJ ch HB dk; have eJ := af; have ch := ag; have HB := ah; have dk := am; clear af ag ah am lY hg4; have hq1 := HQ.out _ dk.out) | ((with_reducible refine oT rfl (.tmp 47) (.tmp 48) rfl (ej.int Try.underlying3) Try.underlying92 (0 : Int) (by kernel_rfl) rfl ch.out id rfl ?_); rw [qn.out]) | ((with_reducible refine oe rfl (.tmp 62) (.tmp 63) _ rfl (ej.int Try.underlying3) Try.underlying92 rfl ch.out id rfl _ r.f1 rfl rfl ?_); intro w5 jx fg; have af := ae.mk jx; have ag := ae.mk (eJ.out.grown fg (fun e => oE.out (by injection e with e; exact e.symm))); have ah := ae.mk (jc HB.out fg zT.out HB.out.size); have am := ae.mk (Kept.kB fg dk.out (fun k e => by injection e with e; subst e; exact .inl rfl)); clear eJ ch HB dk hq1; have ch := af; have eJ := ag; have HB := ah; have dk := am; clear af ag ah am jx fg))
        go_ret
        exact ⟨by rw [nJ.out.1]; rfl, by rw [nJ.out.2]; exact ch.out, HB.out, (Kept.sQ gp.out _).then_ dk.out (fun k hk => .inl hk)⟩
      ·have e4 : (id == 0) = false := beq_eq_false_iff_ne.2 c4
       have yA := ae.mk (pH.out.trans (by rw [decide_eq_false c4]; rfl) : gI rows ids count K (j + 1) = (true, fG s id true, fG k id r.f1))
       clear c4 pH
       go_wp2_with (first | ((with_reducible refine bz (N := 42) rfl ?_); (try (refine gN (by rfl) ?_; dsimp only)); refine oT rfl (.tmp 40) (.tmp 41) rfl (ej.int Try.underlying3) Try.underlying73 false (by kernel_rfl) rfl eJ.out id rfl ?_; rw [uM.out]) | ((with_reducible refine oe rfl (.tmp 44) (.tmp 45) _ rfl (ej.int Try.underlying3) Try.underlying73 rfl eJ.out id rfl _ true rfl rfl ?_); intro w4 lY hg4; have af := ae.mk lY; have ag := ae.mk (ch.out.grown hg4 (fun e => oE.out (by injection e))); have ah := ae.mk (jc HB.out hg4 yc.out HB.out.size); have am := ae.mk (Kept.kB hg4 dk.out (fun k e => by injection e with e; subst e; exact .inr (Nat.le_refl _))); clear eJ ch HB dk; have eJ := af; have ch := ag; have HB := ah; have dk := am; clear af ag ah am lY hg4; have hq1 := HQ.out _ dk.out) | ((with_reducible refine oT rfl (.tmp 47) (.tmp 48) rfl (ej.int Try.underlying3) Try.underlying92 (0 : Int) (by kernel_rfl) rfl ch.out id rfl ?_); rw [qn.out]) | ((with_reducible refine oe rfl (.tmp 62) (.tmp 63) _ rfl (ej.int Try.underlying3) Try.underlying92 rfl ch.out id rfl _ r.f1 rfl rfl ?_); intro w5 jx fg; have af := ae.mk jx; have ag := ae.mk (eJ.out.grown fg (fun e => oE.out (by injection e with e; exact e.symm))); have ah := ae.mk (jc HB.out fg zT.out HB.out.size); have am := ae.mk (Kept.kB fg dk.out (fun k e => by injection e with e; subst e; exact .inl rfl)); clear eJ ch HB dk hq1; have ch := af; have eJ := ag; have HB := ah; have dk := am; clear af ag ah am jx fg))
       go_roundg g
       case measure => omega
       case rel => exact ⟨j + 1, _, _, by have := tQ.out; have := f9.out; have := eV.out; exact congrArg (Value.int .i64) (show wrap64 ((j : Int) + 1) = ((j + 1 : Nat) : Int) from by unfold wrap64; omega), by have := HJ.out; omega, yA, eJ, ch, HB, dk⟩
     ·have e3 : (q != r.f1) = true := bne_iff_ne.2 c3
      have nJ := ae.mk (Au.out _ (Bu.out.trans (if_pos (by rw [uW]; exact ⟨rfl, c3⟩))) rfl)
      clear uW Bu c3
      go_wp2_with (first | ((with_reducible refine bz (N := 42) rfl ?_); (try (refine gN (by rfl) ?_; dsimp only)); refine oT rfl (.tmp 40) (.tmp 41) rfl (ej.int Try.underlying3) Try.underlying73 false (by kernel_rfl) rfl eJ.out id rfl ?_; rw [uM.out]) | ((with_reducible refine oe rfl (.tmp 44) (.tmp 45) _ rfl (ej.int Try.underlying3) Try.underlying73 rfl eJ.out id rfl _ true rfl rfl ?_); intro w4 lY hg4; have af := ae.mk lY; have ag := ae.mk (ch.out.grown hg4 (fun e => oE.out (by injection e))); have ah := ae.mk (jc HB.out hg4 yc.out HB.out.size); have am := ae.mk (Kept.kB hg4 dk.out (fun k e => by injection e with e; subst e; exact .inr (Nat.le_refl _))); clear eJ ch HB dk; have eJ := af; have ch := ag; have HB := ah; have dk := am; clear af ag ah am lY hg4; have hq1 := HQ.out _ dk.out) | ((with_reducible refine oT rfl (.tmp 47) (.tmp 48) rfl (ej.int Try.underlying3) Try.underlying92 (0 : Int) (by kernel_rfl) rfl ch.out id rfl ?_); rw [qn.out]))
      go_ret
      exact ⟨by rw [nJ.out.1]; rfl, by rw [nJ.out.2]; exact ch.out, HB.out, (Kept.sQ gp.out _).then_ dk.out (fun k hk => .inl hk)⟩
def iV (rows : List bC) : Nat → List (Int × Int)
 | 0 => []
 | n + 1 => fG (iV rows n) (n : Int) (rows.getD n z70).f1
def lB (x y u : aX) (b lf rt : List Int) (count : Int) : Bool :=
 decide (b.length = (bk x (-1) 0).length) && (decide (((bk x (-1) 0).length : Int) ≤ count) && (decide (∀ i, i < b.length → b.getD i 0 = (i : Int)) &&
  (oG (bk y (-1) 0) lf count (iV (bk x (-1) 0) b.length) y.f0 x.f0 && (oG (bk u (-1) 0) rt count (gT (bk y (-1) 0) lf count (iV (bk x (-1) 0) b.length)) u.f0 x.f0 &&
   decide (((gT (bk u (-1) 0) rt count (gT (bk y (-1) 0) lf count (iV (bk x (-1) 0) b.length))).length : Int) = count)))))
set_option maxHeartbeats 16000000 in
set_option maxRecDepth 100000 in
theorem ab6 (x y u : aX) (b lf rt : List Int) (count : Int) (lC : Option Addr) (ln : Nat) (lu : Option Addr) (lE : Nat) (np : Option Addr) (m8 : Nat) (m5 : Option Addr) (mV : Nat) (zN : Option Addr) (zZ : Nat) (zQ : Option Addr) (BV : Nat) (Ap : Option Addr) (cp : Nat) (Aq : Option Addr) (cq : Nat) (Ar : Option Addr) (cr : Nat) (w : World)
  (hx2 : Kd.C Kd.string w lC x.f2.length x.f2) (vJ : x.f2.length ≤ ln) (kE : Kd.C k25 w lu x.f3.length x.f3) (vL : x.f3.length ≤ lE) (hy2 : Kd.C Kd.string w np y.f2.length y.f2) (Ey : y.f2.length ≤ m8) (hy3 : Kd.C k25 w m5 y.f3.length y.f3) (FP : y.f3.length ≤ mV) (TW : Kd.C Kd.string w zN u.f2.length u.f2) (YJ : u.f2.length ≤ zZ) (Tq : Kd.C k25 w zQ u.f3.length u.f3) (Yk : u.f3.length ≤ BV)
  (hp : Kd.C (Kd.int .i64) w Ap b.length b) (lp : b.length ≤ cp) (hq : Kd.C (Kd.int .i64) w Aq lf.length lf) (lq : lf.length ≤ cq) (hr : Kd.C (Kd.int .i64) w Ar rt.length rt) (lr : rt.length ≤ cr) (tC : j7 x = true) (Bm : j7 y = true) (Gx : j7 u = true) :
  Calls Try.prog 44 #[.agg #[.int .i64 x.f0, .string x.f1, .slice lC x.f2.length ln, .slice lu x.f3.length lE], .agg #[.int .i64 y.f0, .string y.f1, .slice np y.f2.length m8, .slice m5 y.f3.length mV], .agg #[.int .i64 u.f0, .string u.f1, .slice zN u.f2.length zZ, .slice zQ u.f3.length BV], .agg #[.slice Ap b.length cp, .slice Aq lf.length cq, .slice Ar rt.length cr, .int .i64 count]] w fun e w' => e = .returned (.int .i64 (if lB x y u b lf rt count = true then 0 else 15)) ∧ Below w.heap.size w w' := by
 obtain ⟨rows, hrows⟩ : ∃ rows, rows = bk x (-1) 0 := ⟨_, rfl⟩
 have tQ := ae.mk (by rw [hrows, td]; unfold j7 at tC; simp only [Bool.and_eq_true, decide_eq_true_eq] at tC; exact tC.1 : rows.length ≤ 1000000)
 have HC := ae.mk (fun (W : World) (hb : Below w.heap.size w W) => us.calls x.f0 x.f1 lC ln x.f2 lu lE x.f3 rows W (Kd.aC hx2 hb) vJ (Kd.aC kE hb) vL (by unfold us.f; rw [show (⟨x.f0, x.f1, x.f2, x.f3⟩ : aX) = x by cases x; rfl, if_pos tC, ← hrows]))
 have Hy := ae.mk (fun (W : World) (bb : Nat) {K : List (Int × Int)} (hK : dd ld (VE (Value.int .i64)) W bb K) (hW : Below w.heap.size w W) (u9 : w.heap.size ≤ bb) => WR y x lf count K bb np m8 m5 mV lC ln lu lE Aq cq w W hW hy2 Ey hy3 FP hq lq Bm hK u9)
 have R9 := ae.mk (fun (W : World) (bb : Nat) {K : List (Int × Int)} (hK : dd ld (VE (Value.int .i64)) W bb K) (hW : Below w.heap.size w W) (u9 : w.heap.size ≤ bb) => WR u x rt count K bb zN zZ zQ BV lC ln lu lE Ar cr w W hW TW YJ Tq Yk hr lr Gx hK u9)
 have HP := ae.mk hp
 have HF : ae (lB x y u b lf rt count = (decide (b.length = rows.length) && (decide ((rows.length : Int) ≤ count) && (decide (∀ i, i < b.length → b.getD i 0 = (i : Int)) && (oG (bk y (-1) 0) lf count (iV rows b.length) y.f0 x.f0 && (oG (bk u (-1) 0) rt count (gT (bk y (-1) 0) lf count (iV rows b.length)) u.f0 x.f0 && decide (((gT (bk u (-1) 0) rt count (gT (bk y (-1) 0) lf count (iV rows b.length))).length : Int) = count))))))) := ⟨by rw [hrows]; rfl⟩
 obtain ⟨res, hres⟩ : ∃ res, res = lB x y u b lf rt count := ⟨_, rfl⟩
 rw [← hres] at HF ⊢
 have HB := ae.mk (Below.refl w.heap.size w)
 have hmm := @run_makeMap Try.prog
 clear hres hrows tC Bm Gx hx2 vJ kE vL hy2 Ey hy3 FP TW YJ Tq Yk hp lp hq lq hr lr
 by_cases c1 : b.length = rows.length
 case neg =>
  have e1 : ((b.length : Int) != (rows.length : Int)) = true := by rw [bne_iff_ne]; omega
  obtain rfl : res = false := by rw [HF.out, decide_eq_false c1]; rfl
  clear c1 HF
  go_enter Try.func44, Try.ntmps44
  go_wp2_with (first | ((with_reducible refine bz (N := 4) rfl ?_); refine bT ?hg (N := 4) ?hd (cs := #[.int .i64 x.f0, .string x.f1, .slice lC x.f2.length ln, .slice lu x.f3.length lE]) (t := 25) ?hr ?_; (case hd => rfl); (case hg => rfl); (case hr => first | (go_simp; done) | (go_simp; rfl)); intro g4 hg Xl av hb; have AA := ae.mk (by rw [hg]; exact Nat.le_refl _ : w.heap.size ≤ g4); have nI := ae.mk hb; have aN := ae.mk av; clear av hb hg) | ((with_reducible refine bz (N := 5) rfl ?_); refine bT ?hg (N := 5) ?hd (cs := #[.int .i64 y.f0, .string y.f1, .slice np y.f2.length m8, .slice m5 y.f3.length mV]) (t := 25) ?hr ?_; (case hd => rfl); (case hg => rfl); (case hr => first | (go_simp; done) | (go_simp; rfl)); intro g5 hg Ww av hb; have FB := ae.mk (by rw [hg]; exact nI.out.size : w.heap.size ≤ g5); have pR := ae.mk (d_ nI.out hb); have dY := ae.mk (di aN.out hb); clear aN; have aN := dY; clear dY; have bH := ae.mk av; clear av hb hg) | ((with_reducible refine bz (N := 6) rfl ?_); refine bT ?hg (N := 6) ?hd (cs := #[.int .i64 u.f0, .string u.f1, .slice zN u.f2.length zZ, .slice zQ u.f3.length BV]) (t := 25) ?hr ?_; (case hd => rfl); (case hg => rfl); (case hr => first | (go_simp; done) | (go_simp; rfl)); intro g6 hg S5 av hb; have Cy := ae.mk (by rw [hg]; exact pR.out.size : w.heap.size ≤ g6); have q_ := ae.mk (d_ pR.out hb); have dY := ae.mk (di aN.out hb); clear aN; have aN := dY; clear dY; have eL := ae.mk (di bH.out hb); clear bH; have bH := eL; clear eL; have cf := ae.mk av; clear av hb hg) | ((with_reducible refine bz (N := 7) rfl ?_); refine bT ?hg (N := 7) ?hd (cs := #[.slice Ap b.length cp, .slice Aq lf.length cq, .slice Ar rt.length cr, .int .i64 count]) (t := 40) ?hr ?_; (case hd => rfl); (case hg => rfl); (case hr => first | (go_simp; done) | (go_simp; rfl)); intro g7 hg nA av hb; have HU := ae.mk (by rw [hg]; exact q_.out.size : w.heap.size ≤ g7); have pX := ae.mk (d_ q_.out hb); have dY := ae.mk (di aN.out hb); clear aN; have aN := dY; clear dY; have eL := ae.mk (di bH.out hb); clear bH; have bH := eL; clear eL; have fX := ae.mk (di cf.out hb); clear cf; have cf := fX; clear fX; have bO := ae.mk av; clear av hb hg; have z40 := (aj aN.out 0).trans rfl; have z41 := (aj aN.out 1).trans rfl; have ga := (aj aN.out 2).trans rfl; have eK := (aj aN.out 3).trans rfl; have gO := (aj bH.out 0).trans rfl; have z51 := (aj bH.out 1).trans rfl; have gV := (aj bH.out 2).trans rfl; have z53 := (aj bH.out 3).trans rfl; have z60 := (aj cf.out 0).trans rfl; have lR := (aj cf.out 1).trans rfl; have me := (aj cf.out 2).trans rfl; have lH := (aj cf.out 3).trans rfl; have z70 := (aj bO.out 0).trans rfl; have jk := (aj bO.out 1).trans rfl; have z72 := (aj bO.out 2).trans rfl; have ke := (aj bO.out 3).trans rfl; have Ec := (aj (aU aN.out (.map #[] 0)) 0).trans rfl; have Df := (aj (aU aN.out (.map #[] 0)) 1).trans rfl; have EV := (aj (aU aN.out (.map #[] 0)) 2).trans rfl; have Eg := (aj (aU aN.out (.map #[] 0)) 3).trans rfl) | (go_at_call 49; go_loud ((with_reducible refine (HC.out _ (aQ pX.out _)).mono ?_); rintro e w3 ⟨v, rfl, hR, hb3⟩; obtain ⟨Aw, cw, rfl⟩ := Kd.bm hR; have gp := ae.mk (d_ (aQ pX.out _) hb3); have tn := ae.mk (Kd.sc (Kd.cm (d5 := fun k => nA.heap.size < k ∧ k < w3.heap.size) (Kd.jY hR) (fun k hk => ⟨by have := hk.2.1; simp at this; omega, hk.2.2.1⟩))); have ch := ae.mk (dd.below (dd.new ld (VE (Value.int .i64)) nA) hb3 : dd ld (VE (Value.int .i64)) w3 nA.heap.size ([] : List (Int × Int))); have dY := ae.mk (di (aU aN.out _) hb3); have eL := ae.mk (di (aU bH.out _) hb3); have fX := ae.mk (di (aU cf.out _) hb3); have ie := ae.mk (di (aU bO.out _) hb3); have st := ae.mk (Nat.ne_of_lt (em aN.out)); have qm := ae.mk (Nat.ne_of_lt (em bH.out)); have qf := ae.mk (Nat.ne_of_lt (em cf.out)); have sF := ae.mk (Nat.ne_of_lt (em bO.out)); have s7 := ae.mk (pX.out.size : w.heap.size ≤ nA.heap.size); clear aN bH cf bO; have aN := dY; have bH := eL; have cf := fX; have bO := ie; clear dY eL fX ie hR hb3 Ec Df EV Eg; clear z40 z41 ga eK; clear gO z51 gV z53; clear z60 lR me lH; clear z70 jk z72 ke; have z70 := (aj bO.out 0).trans rfl; have jk := (aj bO.out 1).trans rfl; have z72 := (aj bO.out 2).trans rfl; have ke := (aj bO.out 3).trans rfl)))
  go_ret
  exact ⟨rfl, gp.out⟩
 have e1 : ((b.length : Int) != (rows.length : Int)) = false := by rw [bne_eq_false_iff_eq]; omega
 have sH := ae.mk c1
 rw [decide_eq_true c1] at HF
 clear c1
 by_cases c2 : (rows.length : Int) ≤ count
 case neg =>
  have e2 : decide (count < (rows.length : Int)) = true := decide_eq_true (by omega)
  obtain rfl : res = false := by rw [HF.out, decide_eq_false c2]; rfl
  clear c2 HF
  go_enter Try.func44, Try.ntmps44
  go_wp2_with (first | ((with_reducible refine bz (N := 4) rfl ?_); refine bT ?hg (N := 4) ?hd (cs := #[.int .i64 x.f0, .string x.f1, .slice lC x.f2.length ln, .slice lu x.f3.length lE]) (t := 25) ?hr ?_; (case hd => rfl); (case hg => rfl); (case hr => first | (go_simp; done) | (go_simp; rfl)); intro g4 hg Xl av hb; have AA := ae.mk (by rw [hg]; exact Nat.le_refl _ : w.heap.size ≤ g4); have nI := ae.mk hb; have aN := ae.mk av; clear av hb hg) | ((with_reducible refine bz (N := 5) rfl ?_); refine bT ?hg (N := 5) ?hd (cs := #[.int .i64 y.f0, .string y.f1, .slice np y.f2.length m8, .slice m5 y.f3.length mV]) (t := 25) ?hr ?_; (case hd => rfl); (case hg => rfl); (case hr => first | (go_simp; done) | (go_simp; rfl)); intro g5 hg Ww av hb; have FB := ae.mk (by rw [hg]; exact nI.out.size : w.heap.size ≤ g5); have pR := ae.mk (d_ nI.out hb); have dY := ae.mk (di aN.out hb); clear aN; have aN := dY; clear dY; have bH := ae.mk av; clear av hb hg) | ((with_reducible refine bz (N := 6) rfl ?_); refine bT ?hg (N := 6) ?hd (cs := #[.int .i64 u.f0, .string u.f1, .slice zN u.f2.length zZ, .slice zQ u.f3.length BV]) (t := 25) ?hr ?_; (case hd => rfl); (case hg => rfl); (case hr => first | (go_simp; done) | (go_simp; rfl)); intro g6 hg S5 av hb; have Cy := ae.mk (by rw [hg]; exact pR.out.size : w.heap.size ≤ g6); have q_ := ae.mk (d_ pR.out hb); have dY := ae.mk (di aN.out hb); clear aN; have aN := dY; clear dY; have eL := ae.mk (di bH.out hb); clear bH; have bH := eL; clear eL; have cf := ae.mk av; clear av hb hg) | ((with_reducible refine bz (N := 7) rfl ?_); refine bT ?hg (N := 7) ?hd (cs := #[.slice Ap b.length cp, .slice Aq lf.length cq, .slice Ar rt.length cr, .int .i64 count]) (t := 40) ?hr ?_; (case hd => rfl); (case hg => rfl); (case hr => first | (go_simp; done) | (go_simp; rfl)); intro g7 hg nA av hb; have HU := ae.mk (by rw [hg]; exact q_.out.size : w.heap.size ≤ g7); have pX := ae.mk (d_ q_.out hb); have dY := ae.mk (di aN.out hb); clear aN; have aN := dY; clear dY; have eL := ae.mk (di bH.out hb); clear bH; have bH := eL; clear eL; have fX := ae.mk (di cf.out hb); clear cf; have cf := fX; clear fX; have bO := ae.mk av; clear av hb hg; have z40 := (aj aN.out 0).trans rfl; have z41 := (aj aN.out 1).trans rfl; have ga := (aj aN.out 2).trans rfl; have eK := (aj aN.out 3).trans rfl; have gO := (aj bH.out 0).trans rfl; have z51 := (aj bH.out 1).trans rfl; have gV := (aj bH.out 2).trans rfl; have z53 := (aj bH.out 3).trans rfl; have z60 := (aj cf.out 0).trans rfl; have lR := (aj cf.out 1).trans rfl; have me := (aj cf.out 2).trans rfl; have lH := (aj cf.out 3).trans rfl; have z70 := (aj bO.out 0).trans rfl; have jk := (aj bO.out 1).trans rfl; have z72 := (aj bO.out 2).trans rfl; have ke := (aj bO.out 3).trans rfl; have Ec := (aj (aU aN.out (.map #[] 0)) 0).trans rfl; have Df := (aj (aU aN.out (.map #[] 0)) 1).trans rfl; have EV := (aj (aU aN.out (.map #[] 0)) 2).trans rfl; have Eg := (aj (aU aN.out (.map #[] 0)) 3).trans rfl) | (go_at_call 49; go_loud ((with_reducible refine (HC.out _ (aQ pX.out _)).mono ?_); rintro e w3 ⟨v, rfl, hR, hb3⟩; obtain ⟨Aw, cw, rfl⟩ := Kd.bm hR; have gp := ae.mk (d_ (aQ pX.out _) hb3); have tn := ae.mk (Kd.sc (Kd.cm (d5 := fun k => nA.heap.size < k ∧ k < w3.heap.size) (Kd.jY hR) (fun k hk => ⟨by have := hk.2.1; simp at this; omega, hk.2.2.1⟩))); have ch := ae.mk (dd.below (dd.new ld (VE (Value.int .i64)) nA) hb3 : dd ld (VE (Value.int .i64)) w3 nA.heap.size ([] : List (Int × Int))); have dY := ae.mk (di (aU aN.out _) hb3); have eL := ae.mk (di (aU bH.out _) hb3); have fX := ae.mk (di (aU cf.out _) hb3); have ie := ae.mk (di (aU bO.out _) hb3); have st := ae.mk (Nat.ne_of_lt (em aN.out)); have qm := ae.mk (Nat.ne_of_lt (em bH.out)); have qf := ae.mk (Nat.ne_of_lt (em cf.out)); have sF := ae.mk (Nat.ne_of_lt (em bO.out)); have s7 := ae.mk (pX.out.size : w.heap.size ≤ nA.heap.size); clear aN bH cf bO; have aN := dY; have bH := eL; have cf := fX; have bO := ie; clear dY eL fX ie hR hb3 Ec Df EV Eg; clear z40 z41 ga eK; clear gO z51 gV z53; clear z60 lR me lH; clear z70 jk z72 ke; have z70 := (aj bO.out 0).trans rfl; have jk := (aj bO.out 1).trans rfl; have z72 := (aj bO.out 2).trans rfl; have ke := (aj bO.out 3).trans rfl)))
  go_ret
  exact ⟨rfl, gp.out⟩
 have e2 : decide (count < (rows.length : Int)) = false := decide_eq_false (by omega)
 rw [decide_eq_true c2] at HF
 clear c2
 go_enter Try.func44, Try.ntmps44
 go_wp2_with (first | ((with_reducible refine bz (N := 4) rfl ?_); refine bT ?hg (N := 4) ?hd (cs := #[.int .i64 x.f0, .string x.f1, .slice lC x.f2.length ln, .slice lu x.f3.length lE]) (t := 25) ?hr ?_; (case hd => rfl); (case hg => rfl); (case hr => first | (go_simp; done) | (go_simp; rfl)); intro g4 hg Xl av hb; have AA := ae.mk (by rw [hg]; exact Nat.le_refl _ : w.heap.size ≤ g4); have nI := ae.mk hb; have aN := ae.mk av; clear av hb hg) | ((with_reducible refine bz (N := 5) rfl ?_); refine bT ?hg (N := 5) ?hd (cs := #[.int .i64 y.f0, .string y.f1, .slice np y.f2.length m8, .slice m5 y.f3.length mV]) (t := 25) ?hr ?_; (case hd => rfl); (case hg => rfl); (case hr => first | (go_simp; done) | (go_simp; rfl)); intro g5 hg Ww av hb; have FB := ae.mk (by rw [hg]; exact nI.out.size : w.heap.size ≤ g5); have pR := ae.mk (d_ nI.out hb); have dY := ae.mk (di aN.out hb); clear aN; have aN := dY; clear dY; have bH := ae.mk av; clear av hb hg) | ((with_reducible refine bz (N := 6) rfl ?_); refine bT ?hg (N := 6) ?hd (cs := #[.int .i64 u.f0, .string u.f1, .slice zN u.f2.length zZ, .slice zQ u.f3.length BV]) (t := 25) ?hr ?_; (case hd => rfl); (case hg => rfl); (case hr => first | (go_simp; done) | (go_simp; rfl)); intro g6 hg S5 av hb; have Cy := ae.mk (by rw [hg]; exact pR.out.size : w.heap.size ≤ g6); have q_ := ae.mk (d_ pR.out hb); have dY := ae.mk (di aN.out hb); clear aN; have aN := dY; clear dY; have eL := ae.mk (di bH.out hb); clear bH; have bH := eL; clear eL; have cf := ae.mk av; clear av hb hg) | ((with_reducible refine bz (N := 7) rfl ?_); refine bT ?hg (N := 7) ?hd (cs := #[.slice Ap b.length cp, .slice Aq lf.length cq, .slice Ar rt.length cr, .int .i64 count]) (t := 40) ?hr ?_; (case hd => rfl); (case hg => rfl); (case hr => first | (go_simp; done) | (go_simp; rfl)); intro g7 hg nA av hb; have HU := ae.mk (by rw [hg]; exact q_.out.size : w.heap.size ≤ g7); have pX := ae.mk (d_ q_.out hb); have dY := ae.mk (di aN.out hb); clear aN; have aN := dY; clear dY; have eL := ae.mk (di bH.out hb); clear bH; have bH := eL; clear eL; have fX := ae.mk (di cf.out hb); clear cf; have cf := fX; clear fX; have bO := ae.mk av; clear av hb hg; have z40 := (aj aN.out 0).trans rfl; have z41 := (aj aN.out 1).trans rfl; have ga := (aj aN.out 2).trans rfl; have eK := (aj aN.out 3).trans rfl; have gO := (aj bH.out 0).trans rfl; have z51 := (aj bH.out 1).trans rfl; have gV := (aj bH.out 2).trans rfl; have z53 := (aj bH.out 3).trans rfl; have z60 := (aj cf.out 0).trans rfl; have lR := (aj cf.out 1).trans rfl; have me := (aj cf.out 2).trans rfl; have lH := (aj cf.out 3).trans rfl; have z70 := (aj bO.out 0).trans rfl; have jk := (aj bO.out 1).trans rfl; have z72 := (aj bO.out 2).trans rfl; have ke := (aj bO.out 3).trans rfl; have Ec := (aj (aU aN.out (.map #[] 0)) 0).trans rfl; have Df := (aj (aU aN.out (.map #[] 0)) 1).trans rfl; have EV := (aj (aU aN.out (.map #[] 0)) 2).trans rfl; have Eg := (aj (aU aN.out (.map #[] 0)) 3).trans rfl) | (go_at_call 49; go_loud ((with_reducible refine (HC.out _ (aQ pX.out _)).mono ?_); rintro e w3 ⟨v, rfl, hR, hb3⟩; obtain ⟨Aw, cw, rfl⟩ := Kd.bm hR; have gp := ae.mk (d_ (aQ pX.out _) hb3); have tn := ae.mk (Kd.sc (Kd.cm (d5 := fun k => nA.heap.size < k ∧ k < w3.heap.size) (Kd.jY hR) (fun k hk => ⟨by have := hk.2.1; simp at this; omega, hk.2.2.1⟩))); have ch := ae.mk (dd.below (dd.new ld (VE (Value.int .i64)) nA) hb3 : dd ld (VE (Value.int .i64)) w3 nA.heap.size ([] : List (Int × Int))); have dY := ae.mk (di (aU aN.out _) hb3); have eL := ae.mk (di (aU bH.out _) hb3); have fX := ae.mk (di (aU cf.out _) hb3); have ie := ae.mk (di (aU bO.out _) hb3); have st := ae.mk (Nat.ne_of_lt (em aN.out)); have qm := ae.mk (Nat.ne_of_lt (em bH.out)); have qf := ae.mk (Nat.ne_of_lt (em cf.out)); have sF := ae.mk (Nat.ne_of_lt (em bO.out)); have s7 := ae.mk (pX.out.size : w.heap.size ≤ nA.heap.size); clear aN bH cf bO; have aN := dY; have bH := eL; have cf := fX; have bO := ie; clear dY eL fX ie hR hb3 Ec Df EV Eg; clear z40 z41 ga eK; clear gO z51 gV z53; clear z60 lR me lH; clear z70 jk z72 ke; have z70 := (aj bO.out 0).trans rfl; have jk := (aj bO.out 1).trans rfl; have z72 := (aj bO.out 2).trans rfl; have ke := (aj bO.out 3).trans rfl)))
 have HW3 := ae.mk (gp.out.size : w.heap.size ≤ w3.heap.size)
 clear z70 jk z72 ke
 go_loopg [32] b.length (fun gk v32 w' => ∃ (j : Nat), v32 = .int .i64 j ∧ j + gk = b.length ∧ ae (∀ i, i < j → b.getD i 0 = (i : Int)) ∧ ae (dd ld (VE (Value.int .i64)) w' nA.heap.size (iV rows j)) ∧ ae (Below w.heap.size w w') ∧ ae (Kept w3 w' (fun q => q = nA.heap.size)))
 case atStart => exact ⟨0, rfl, by omega, ⟨fun i h => by omega⟩, ch, gp, ⟨Kept.refl w3 _⟩⟩
 case round =>
  clear ch HB
  obtain ⟨j, rfl, hj, Vl, ch, HB, dk⟩ := hrel
  obtain ⟨go, rfl⟩ : ∃ go, go = gk := ⟨gk, rfl⟩
  have HJ := ae.mk hj
  cases go with
  | zero =>
   have g1 : decide ((j : Int) < (b.length : Int)) = false := decide_eq_false (by omega)
   have g2 : decide (j < b.length) = false := decide_eq_false (by omega)
   obtain rfl : j = b.length := by omega
   rw [decide_eq_true (p := ∀ i, i < b.length → b.getD i 0 = (i : Int)) Vl.out] at HF
   have dY := ae.mk (gL aN.out dk.out st.out)
   have eL := ae.mk (gL bH.out dk.out qm.out)
   have fX := ae.mk (gL cf.out dk.out qf.out)
   have ie := ae.mk (gL bO.out dk.out sF.out)
   clear aN bH cf bO hj
   have aN := dY
   have bH := eL
   have cf := fX
   have bO := ie
   clear dY eL fX ie
   have z40 := (aj aN.out 0).trans rfl
   have z41 := (aj aN.out 1).trans rfl
   have ga := (aj aN.out 2).trans rfl
   have eK := (aj aN.out 3).trans rfl
   have gO := (aj bH.out 0).trans rfl
   have z51 := (aj bH.out 1).trans rfl
   have gV := (aj bH.out 2).trans rfl
   have z53 := (aj bH.out 3).trans rfl
   have z60 := (aj cf.out 0).trans rfl
   have lR := (aj cf.out 1).trans rfl
   have me := (aj cf.out 2).trans rfl
   have lH := (aj cf.out 3).trans rfl
   have z70 := (aj bO.out 0).trans rfl
   have jk := (aj bO.out 1).trans rfl
   have z72 := (aj bO.out 2).trans rfl
   have ke := (aj bO.out 3).trans rfl
   obtain ⟨r1, hr1⟩ : ∃ r1, r1 = oG (bk y (-1) 0) lf count (iV rows b.length) y.f0 x.f0 := ⟨_, rfl⟩
   have JA := ae.mk hr1.symm
   rw [← hr1] at HF
   clear hr1
   cases r1 with
   | false =>
    obtain rfl : res = false := by rw [HF.out]; rfl
    clear HF
    go_wp2_with (first | (go_at_call 57; go_loud ((with_reducible refine (Hy.out _ _ ch.out HB.out s7.out).mono ?_); rintro e LN ⟨rfl, jT, kb, fW⟩; rw [JA.out]; have af := ae.mk jT; have ah := ae.mk kb; have dY := ae.mk (gL aN.out fW st.out); have eL := ae.mk (gL bH.out fW qm.out); have fX := ae.mk (gL cf.out fW qf.out); have ie := ae.mk (gL bO.out fW sF.out); clear ch HB aN bH cf bO; have ch := af; have HB := ah; have aN := dY; have bH := eL; have cf := fX; have bO := ie; clear af ah dY eL fX ie jT kb fW; clear z40 z41 ga eK; clear gO z51 gV z53; clear z60 lR me lH; clear z70 jk z72 ke; have z40 := (aj aN.out 0).trans rfl; have z41 := (aj aN.out 1).trans rfl; have ga := (aj aN.out 2).trans rfl; have eK := (aj aN.out 3).trans rfl; have gO := (aj bH.out 0).trans rfl; have z51 := (aj bH.out 1).trans rfl; have gV := (aj bH.out 2).trans rfl; have z53 := (aj bH.out 3).trans rfl; have z60 := (aj cf.out 0).trans rfl; have lR := (aj cf.out 1).trans rfl; have me := (aj cf.out 2).trans rfl; have lH := (aj cf.out 3).trans rfl; have z70 := (aj bO.out 0).trans rfl; have jk := (aj bO.out 1).trans rfl; have z72 := (aj bO.out 2).trans rfl; have ke := (aj bO.out 3).trans rfl)))
    go_ret
    exact ⟨rfl, HB.out⟩
   | true =>
    obtain ⟨K1, Qm⟩ : ∃ K1, K1 = gT (bk y (-1) 0) lf count (iV rows b.length) := ⟨_, rfl⟩
    have d1 := ae.mk Qm.symm
    rw [← Qm] at HF
    clear Qm
    obtain ⟨r2, hr2⟩ : ∃ r2, r2 = oG (bk u (-1) 0) rt count K1 u.f0 x.f0 := ⟨_, rfl⟩
    have LC := ae.mk hr2.symm
    rw [← hr2] at HF
    clear hr2
    cases r2 with
    | false =>
     obtain rfl : res = false := by rw [HF.out]; rfl
     clear HF
     go_wp2_with (first | (go_at_call 57; go_loud ((with_reducible refine (Hy.out _ _ ch.out HB.out s7.out).mono ?_); rintro e LN ⟨rfl, jT, kb, fW⟩; rw [JA.out]; rw [d1.out] at jT; have af := ae.mk jT; have ah := ae.mk kb; have dY := ae.mk (gL aN.out fW st.out); have eL := ae.mk (gL bH.out fW qm.out); have fX := ae.mk (gL cf.out fW qf.out); have ie := ae.mk (gL bO.out fW sF.out); clear ch HB aN bH cf bO; have ch := af; have HB := ah; have aN := dY; have bH := eL; have cf := fX; have bO := ie; clear af ah dY eL fX ie jT kb fW; clear z40 z41 ga eK; clear gO z51 gV z53; clear z60 lR me lH; clear z70 jk z72 ke; have z40 := (aj aN.out 0).trans rfl; have z41 := (aj aN.out 1).trans rfl; have ga := (aj aN.out 2).trans rfl; have eK := (aj aN.out 3).trans rfl; have gO := (aj bH.out 0).trans rfl; have z51 := (aj bH.out 1).trans rfl; have gV := (aj bH.out 2).trans rfl; have z53 := (aj bH.out 3).trans rfl; have z60 := (aj cf.out 0).trans rfl; have lR := (aj cf.out 1).trans rfl; have me := (aj cf.out 2).trans rfl; have lH := (aj cf.out 3).trans rfl; have z70 := (aj bO.out 0).trans rfl; have jk := (aj bO.out 1).trans rfl; have z72 := (aj bO.out 2).trans rfl; have ke := (aj bO.out 3).trans rfl)) | (go_at_call 57; go_loud ((with_reducible refine (R9.out _ _ ch.out HB.out s7.out).mono ?_); rintro e Ug ⟨rfl, jT, kb, fW⟩; rw [LC.out]; have af := ae.mk jT; have ah := ae.mk kb; have dY := ae.mk (gL aN.out fW st.out); have eL := ae.mk (gL bH.out fW qm.out); have fX := ae.mk (gL cf.out fW qf.out); have ie := ae.mk (gL bO.out fW sF.out); clear ch HB aN bH cf bO; have ch := af; have HB := ah; have aN := dY; have bH := eL; have cf := fX; have bO := ie; clear af ah dY eL fX ie jT kb fW; clear z40 z41 ga eK; clear gO z51 gV z53; clear z60 lR me lH; clear z70 jk z72 ke; have z40 := (aj aN.out 0).trans rfl; have z41 := (aj aN.out 1).trans rfl; have ga := (aj aN.out 2).trans rfl; have eK := (aj aN.out 3).trans rfl; have gO := (aj bH.out 0).trans rfl; have z51 := (aj bH.out 1).trans rfl; have gV := (aj bH.out 2).trans rfl; have z53 := (aj bH.out 3).trans rfl; have z60 := (aj cf.out 0).trans rfl; have lR := (aj cf.out 1).trans rfl; have me := (aj cf.out 2).trans rfl; have lH := (aj cf.out 3).trans rfl; have z70 := (aj bO.out 0).trans rfl; have jk := (aj bO.out 1).trans rfl; have z72 := (aj bO.out 2).trans rfl; have ke := (aj bO.out 3).trans rfl)))
     go_ret
     exact ⟨rfl, HB.out⟩
    | true =>
     obtain ⟨K2, hK2⟩ : ∃ K2, K2 = gT (bk u (-1) 0) rt count K1 := ⟨_, rfl⟩
     have eP := ae.mk hK2.symm
     rw [← hK2] at HF
     clear hK2
     by_cases c3 : (K2.length : Int) = count
     ·have e3 : ((K2.length : Int) != count) = false := by rw [bne_eq_false_iff_eq]; exact c3
      obtain rfl : res = true := by rw [HF.out, decide_eq_true c3]; rfl
      clear HF c3
      go_wp2_with (first | (go_at_call 57; go_loud ((with_reducible refine (Hy.out _ _ ch.out HB.out s7.out).mono ?_); rintro e LN ⟨rfl, jT, kb, fW⟩; rw [JA.out]; rw [d1.out] at jT; have af := ae.mk jT; have ah := ae.mk kb; have dY := ae.mk (gL aN.out fW st.out); have eL := ae.mk (gL bH.out fW qm.out); have fX := ae.mk (gL cf.out fW qf.out); have ie := ae.mk (gL bO.out fW sF.out); clear ch HB aN bH cf bO; have ch := af; have HB := ah; have aN := dY; have bH := eL; have cf := fX; have bO := ie; clear af ah dY eL fX ie jT kb fW; clear z40 z41 ga eK; clear gO z51 gV z53; clear z60 lR me lH; clear z70 jk z72 ke; have z40 := (aj aN.out 0).trans rfl; have z41 := (aj aN.out 1).trans rfl; have ga := (aj aN.out 2).trans rfl; have eK := (aj aN.out 3).trans rfl; have gO := (aj bH.out 0).trans rfl; have z51 := (aj bH.out 1).trans rfl; have gV := (aj bH.out 2).trans rfl; have z53 := (aj bH.out 3).trans rfl; have z60 := (aj cf.out 0).trans rfl; have lR := (aj cf.out 1).trans rfl; have me := (aj cf.out 2).trans rfl; have lH := (aj cf.out 3).trans rfl; have z70 := (aj bO.out 0).trans rfl; have jk := (aj bO.out 1).trans rfl; have z72 := (aj bO.out 2).trans rfl; have ke := (aj bO.out 3).trans rfl)) | (go_at_call 57; go_loud ((with_reducible refine (R9.out _ _ ch.out HB.out s7.out).mono ?_); rintro e Ug ⟨rfl, jT, kb, fW⟩; rw [LC.out]; rw [eP.out] at jT; have af := ae.mk jT; have ah := ae.mk kb; have dY := ae.mk (gL aN.out fW st.out); have eL := ae.mk (gL bH.out fW qm.out); have fX := ae.mk (gL cf.out fW qf.out); have ie := ae.mk (gL bO.out fW sF.out); clear ch HB aN bH cf bO; have ch := af; have HB := ah; have aN := dY; have bH := eL; have cf := fX; have bO := ie; clear af ah dY eL fX ie jT kb fW; clear z40 z41 ga eK; clear gO z51 gV z53; clear z60 lR me lH; clear z70 jk z72 ke; have z40 := (aj aN.out 0).trans rfl; have z41 := (aj aN.out 1).trans rfl; have ga := (aj aN.out 2).trans rfl; have eK := (aj aN.out 3).trans rfl; have gO := (aj bH.out 0).trans rfl; have z51 := (aj bH.out 1).trans rfl; have gV := (aj bH.out 2).trans rfl; have z53 := (aj bH.out 3).trans rfl; have z60 := (aj cf.out 0).trans rfl; have lR := (aj cf.out 1).trans rfl; have me := (aj cf.out 2).trans rfl; have lH := (aj cf.out 3).trans rfl; have z70 := (aj bO.out 0).trans rfl; have jk := (aj bO.out 1).trans rfl; have z72 := (aj bO.out 2).trans rfl; have ke := (aj bO.out 3).trans rfl)) | ((with_reducible refine bz (N := 70) rfl ?_); (try (refine gN (by rfl) ?_; dsimp only)); refine LX rfl (.tmp 69) rfl Try.underlying92 rfl ch.out ?_))
      go_ret
      exact ⟨rfl, HB.out⟩
     ·have e3 : ((K2.length : Int) != count) = true := bne_iff_ne.2 c3
      obtain rfl : res = false := by rw [HF.out, decide_eq_false c3]; rfl
      clear HF c3
      go_wp2_with (first | (go_at_call 57; go_loud ((with_reducible refine (Hy.out _ _ ch.out HB.out s7.out).mono ?_); rintro e LN ⟨rfl, jT, kb, fW⟩; rw [JA.out]; rw [d1.out] at jT; have af := ae.mk jT; have ah := ae.mk kb; have dY := ae.mk (gL aN.out fW st.out); have eL := ae.mk (gL bH.out fW qm.out); have fX := ae.mk (gL cf.out fW qf.out); have ie := ae.mk (gL bO.out fW sF.out); clear ch HB aN bH cf bO; have ch := af; have HB := ah; have aN := dY; have bH := eL; have cf := fX; have bO := ie; clear af ah dY eL fX ie jT kb fW; clear z40 z41 ga eK; clear gO z51 gV z53; clear z60 lR me lH; clear z70 jk z72 ke; have z40 := (aj aN.out 0).trans rfl; have z41 := (aj aN.out 1).trans rfl; have ga := (aj aN.out 2).trans rfl; have eK := (aj aN.out 3).trans rfl; have gO := (aj bH.out 0).trans rfl; have z51 := (aj bH.out 1).trans rfl; have gV := (aj bH.out 2).trans rfl; have z53 := (aj bH.out 3).trans rfl; have z60 := (aj cf.out 0).trans rfl; have lR := (aj cf.out 1).trans rfl; have me := (aj cf.out 2).trans rfl; have lH := (aj cf.out 3).trans rfl; have z70 := (aj bO.out 0).trans rfl; have jk := (aj bO.out 1).trans rfl; have z72 := (aj bO.out 2).trans rfl; have ke := (aj bO.out 3).trans rfl)) | (go_at_call 57; go_loud ((with_reducible refine (R9.out _ _ ch.out HB.out s7.out).mono ?_); rintro e Ug ⟨rfl, jT, kb, fW⟩; rw [LC.out]; rw [eP.out] at jT; have af := ae.mk jT; have ah := ae.mk kb; have dY := ae.mk (gL aN.out fW st.out); have eL := ae.mk (gL bH.out fW qm.out); have fX := ae.mk (gL cf.out fW qf.out); have ie := ae.mk (gL bO.out fW sF.out); clear ch HB aN bH cf bO; have ch := af; have HB := ah; have aN := dY; have bH := eL; have cf := fX; have bO := ie; clear af ah dY eL fX ie jT kb fW; clear z40 z41 ga eK; clear gO z51 gV z53; clear z60 lR me lH; clear z70 jk z72 ke; have z40 := (aj aN.out 0).trans rfl; have z41 := (aj aN.out 1).trans rfl; have ga := (aj aN.out 2).trans rfl; have eK := (aj aN.out 3).trans rfl; have gO := (aj bH.out 0).trans rfl; have z51 := (aj bH.out 1).trans rfl; have gV := (aj bH.out 2).trans rfl; have z53 := (aj bH.out 3).trans rfl; have z60 := (aj cf.out 0).trans rfl; have lR := (aj cf.out 1).trans rfl; have me := (aj cf.out 2).trans rfl; have lH := (aj cf.out 3).trans rfl; have z70 := (aj bO.out 0).trans rfl; have jk := (aj bO.out 1).trans rfl; have z72 := (aj bO.out 2).trans rfl; have ke := (aj bO.out 3).trans rfl)) | ((with_reducible refine bz (N := 70) rfl ?_); (try (refine gN (by rfl) ?_; dsimp only)); refine LX rfl (.tmp 69) rfl Try.underlying92 rfl ch.out ?_))
      go_ret
      exact ⟨rfl, HB.out⟩
  | succ g =>
   have hjl : j < b.length := by omega
   have eV := ae.mk hjl
   have g1 : decide ((j : Int) < (b.length : Int)) = true := decide_eq_true (by omega)
   have g2 : decide (j < b.length) = true := decide_eq_true hjl
   have p0 : (0 : Int) ≤ (j : Int) := by omega
   have p1 : (j : Int) < (b.length : Int) := by omega
   have p2 : (j : Int) < (rows.length : Int) := by have := sH.out; omega
   obtain ⟨ai, ei, hx⟩ := Kd.dB (Kd.aC HP.out HB.out) (j : Int) p0 p1
   subst ei
   rw [Int.toNat_natCast] at hx
   obtain ⟨id, hid⟩ : ∃ id, id = rd b (j : Int) := ⟨_, rfl⟩
   rw [← hid] at hx
   have pZ := ae.mk (hid.trans (by unfold rd; rw [Int.toNat_natCast]) : id = b.getD j 0)
   by_cases c4 : id = (j : Int)
   ·have e4 : (id != (j : Int)) = false := by rw [bne_eq_false_iff_eq]; exact c4
    have tj := ae.mk c4
    obtain ⟨r, hr⟩ : ∃ r, r = aD rows (j : Int) := ⟨_, rfl⟩
    have HR := ae.mk (hr.trans (by unfold aD; rw [Int.toNat_natCast]) : r = rows.getD j z70)
    obtain ⟨ad, Ag, cg, Ak, ck, eA, _, q1, _⟩ := Jy (Kd.W_ tn.out dk.out (fun q hq e => by have := hq.1; omega)) (j : Int) p0 p2
    subst eA
    rw [Int.toNat_natCast] at q1
    rw [← hr] at q1
    clear hid hr hj hjl c4
    go_wp2_with (first | ((with_reducible refine oe rfl (.tmp 40) (.tmp 41) _ rfl (ej.int Try.underlying3) Try.underlying92 rfl ch.out (j : Int) rfl _ r.f1 rfl rfl ?_); intro w5 jx fg; have af := ae.mk jx; have ah := ae.mk (jc HB.out fg s7.out HB.out.size); have am := ae.mk (Kept.kB fg dk.out (fun k e => by injection e with e; subst e; exact .inl rfl)); clear ch HB dk q1; have ch := af; have HB := ah; have dk := am; clear af ah am jx fg))
    go_roundg g
    case measure => omega
    case rel =>
     refine ⟨j + 1, by have := tQ.out; have := sH.out; have := eV.out; exact congrArg (Value.int .i64) (show wrap64 ((j : Int) + 1) = ((j + 1 : Nat) : Int) from by unfold wrap64; omega), by have := HJ.out; omega, ⟨fun q hq => ?_⟩, ⟨by rw [iV, ← HR.out]; exact ch.out⟩, HB, dk⟩
     by_cases e : q = j
     ·rw [e, ← pZ.out]; exact tj.out
     ·exact Vl.out q (by omega)
   ·have e4 : (id != (j : Int)) = true := bne_iff_ne.2 c4
    have HX := ae.mk (decide_eq_false (fun h => c4 (by rw [pZ.out]; exact h j hjl)) : decide (∀ i, i < b.length → b.getD i 0 = (i : Int)) = false)
    obtain rfl : res = false := by rw [HF.out, HX.out]; rfl
    clear HF hid hj hjl c4
    go_wp2
    go_ret
    exact ⟨rfl, HB.out⟩
def uV.f (aE : Int) (aA : ByteArray) (ay : List ByteArray) (au : List (aX)) (aK : Int) (aM : ByteArray) (cx : List ByteArray) (bR : List (aX)) (e8 : Int) (fa : ByteArray) (dZ : List ByteArray) (d4 : List (aX)) (b6 : List Int) (bS : List Int) (b9 : List Int) (cD : Int) : Option (Int) :=
 if j7 (⟨aE, aA, ay, au⟩ : aX) && (j7 (⟨aK, aM, cx, bR⟩ : aX) && j7 (⟨e8, fa, dZ, d4⟩ : aX)) then some (if lB (⟨aE, aA, ay, au⟩ : aX) (⟨aK, aM, cx, bR⟩ : aX) (⟨e8, fa, dZ, d4⟩ : aX) b6 bS b9 cD = true then 0 else 15) else none
theorem uV.calls (aE : Int) (aA : ByteArray) (bB : Option Addr) (bA : Nat) (ay : List ByteArray) (br : Option Addr) (bq : Nat) (au : List (aX)) (aK : Int) (aM : ByteArray) (fQ : Option Addr) (fP : Nat) (cx : List ByteArray) (eG : Option Addr) (eD : Nat) (bR : List (aX)) (e8 : Int) (fa : ByteArray) (jy : Option Addr) (jI : Nat) (dZ : List ByteArray) (jK : Option Addr) (jJ : Nat) (d4 : List (aX)) (jd : Option Addr) (i8 : Nat) (b6 : List Int) (jw : Option Addr) (jz : Nat) (bS : List Int) (jD : Option Addr) (jA : Nat) (b9 : List Int) (cD : Int) (r : Int) (w : World) (fZ : Kd.C Kd.string w bB ay.length ay) (gg : ay.length ≤ bA) (fC : Kd.C k25 w br au.length au) (fL : au.length ≤ bq) (oC : Kd.C Kd.string w fQ cx.length cx) (o3 : cx.length ≤ fP) (mJ : Kd.C k25 w eG bR.length bR) (mK : bR.length ≤ eD) (sX : Kd.C Kd.string w jy dZ.length dZ) (sg : dZ.length ≤ jI) (sB : Kd.C k25 w jK d4.length d4) (sZ : d4.length ≤ jJ) (sD : Kd.C (Kd.int .i64) w jd b6.length b6) (sk : b6.length ≤ i8) (r7 : Kd.C (Kd.int .i64) w jw bS.length bS) (sW : bS.length ≤ jz) (sl : Kd.C (Kd.int .i64) w jD b9.length b9) (sS : b9.length ≤ jA) (h : uV.f aE aA ay au aK aM cx bR e8 fa dZ d4 b6 bS b9 cD = some r) :
  Calls Try.prog 44 #[.agg #[.int .i64 aE, .string aA, .slice bB ay.length bA, .slice br au.length bq], .agg #[.int .i64 aK, .string aM, .slice fQ cx.length fP, .slice eG bR.length eD], .agg #[.int .i64 e8, .string fa, .slice jy dZ.length jI, .slice jK d4.length jJ], .agg #[.slice jd b6.length i8, .slice jw bS.length jz, .slice jD b9.length jA, .int .i64 cD]] w fun e w' => e = .returned (.int .i64 r) ∧ Below w.heap.size w w' := by
 unfold uV.f at h
 split at h
 case isFalse => cases h
 rename_i hok
 simp only [Bool.and_eq_true] at hok
 obtain rfl := Option.some.inj h
 exact ab6 ⟨aE, aA, ay, au⟩ ⟨aK, aM, cx, bR⟩ ⟨e8, fa, dZ, d4⟩ b6 bS b9 cD bB bA br bq fQ fP eG eD jy jI jK jJ jd i8 jw jz jD jA w fZ gg fC fL oC o3 mJ mK sX sg sB sZ sD sk r7 sW sl sS hok.1 hok.2.1 hok.2.2
def j6.f (aE : Int) (aA : ByteArray) (ay : List ByteArray) (au : List (aX)) (aK : Int) (aM : ByteArray) (cx : List ByteArray) (bR : List (aX)) (e8 : Int) (fa : ByteArray) (dZ : List ByteArray) (d4 : List (aX)) (b6 : List Int) (bS : List Int) (b9 : List Int) (cD : Int) : Option (Bool × Int) := (uV.f aE aA ay au aK aM cx bR e8 fa dZ d4 b6 bS b9 cD).bind fun t109 => (if t109 = 0 then ((ib.f aE aA ay au aK aM cx bR b6 bS).bind fun yg => (if yg.2 = 0 then ((ib.f aE aA ay au e8 fa dZ d4 b6 b9).bind fun yy => (if yy.2 = 0 then ((mf.f yg.1 yy.1).bind fun DB => (some (((DB.length : Int) == 0), 0))) else (some (false, yy.2)))) else (some (false, yg.2)))) else (some (false, t109)))
set_option maxHeartbeats 8000000 in
set_option maxRecDepth 100000 in
theorem j6.calls (aE : Int) (aA : ByteArray) (bB : Option Addr) (bA : Nat) (ay : List ByteArray) (br : Option Addr) (bq : Nat) (au : List (aX)) (aK : Int) (aM : ByteArray) (fQ : Option Addr) (fP : Nat) (cx : List ByteArray) (eG : Option Addr) (eD : Nat) (bR : List (aX)) (e8 : Int) (fa : ByteArray) (jy : Option Addr) (jI : Nat) (dZ : List ByteArray) (jK : Option Addr) (jJ : Nat) (d4 : List (aX)) (jd : Option Addr) (i8 : Nat) (b6 : List Int) (jw : Option Addr) (jz : Nat) (bS : List Int) (jD : Option Addr) (jA : Nat) (b9 : List Int) (cD : Int) (r1 : Bool) (r2 : Int) (w : World) (fZ : Kd.C Kd.string w bB ay.length ay) (gg : ay.length ≤ bA) (fC : Kd.C k25 w br au.length au) (fL : au.length ≤ bq) (oC : Kd.C Kd.string w fQ cx.length cx) (o3 : cx.length ≤ fP) (mJ : Kd.C k25 w eG bR.length bR) (mK : bR.length ≤ eD) (sX : Kd.C Kd.string w jy dZ.length dZ) (sg : dZ.length ≤ jI) (sB : Kd.C k25 w jK d4.length d4) (sZ : d4.length ≤ jJ) (sD : Kd.C (Kd.int .i64) w jd b6.length b6) (sk : b6.length ≤ i8) (r7 : Kd.C (Kd.int .i64) w jw bS.length bS) (sW : bS.length ≤ jz) (sl : Kd.C (Kd.int .i64) w jD b9.length b9) (sS : b9.length ≤ jA) (h : j6.f aE aA ay au aK aM cx bR e8 fa dZ d4 b6 bS b9 cD = some (r1, r2)) :
  Calls Try.prog 17 #[.agg #[.int .i64 aE, .string aA, .slice bB ay.length bA, .slice br au.length bq], .agg #[.int .i64 aK, .string aM, .slice fQ cx.length fP, .slice eG bR.length eD], .agg #[.int .i64 e8, .string fa, .slice jy dZ.length jI, .slice jK d4.length jJ], .agg #[.slice jd b6.length i8, .slice jw bS.length jz, .slice jD b9.length jA, .int .i64 cD]] w fun e w' => e = .returned (.tuple #[.bool r1, .int .i64 r2]) ∧ Below w.heap.size w w' := by
 have nR := Try.underlying25
 have Ld := Try.underlying40
 have fU := ae.mk fZ
 have gm := ae.mk gg
 clear fZ gg
 have fm := ae.mk fC
 have f_ := ae.mk fL
 clear fC fL
 have tf := ae.mk oC
 have tE := ae.mk o3
 clear oC o3
 have si := ae.mk mJ
 have sU := ae.mk mK
 clear mJ mK
 have xZ := ae.mk sX
 have wl := ae.mk sg
 clear sX sg
 have wa := ae.mk sB
 have yf := ae.mk sZ
 clear sB sZ
 have qZ := ae.mk sD
 have vQ := ae.mk sk
 clear sD sk
 have jq := ae.mk r7
 have kf := ae.mk sW
 clear r7 sW
 have jo := ae.mk sl
 have jt := ae.mk sS
 clear sl sS
 have HB := ae.mk (Below.refl w.heap.size w)
 have H : ((uV.f aE aA ay au aK aM cx bR e8 fa dZ d4 b6 bS b9 cD).bind fun t109 => (if t109 = 0 then ((ib.f aE aA ay au aK aM cx bR b6 bS).bind fun yg => (if yg.2 = 0 then ((ib.f aE aA ay au e8 fa dZ d4 b6 b9).bind fun yy => (if yy.2 = 0 then ((mf.f yg.1 yy.1).bind fun DB => (some (((DB.length : Int) == 0), 0))) else (some (false, yy.2)))) else (some (false, yg.2)))) else (some (false, t109)))) = some (r1, r2) := h
 clear h
 replace H := Option.bind_eq_some_iff.mp H
 obtain ⟨t109, lW, H⟩ := H
 have A5 := ae.mk lW
 clear lW
 go_enter Try.func17, Try.ntmps17
 go_upto_if 20 with (first | ((with_reducible refine bz (N := 4) rfl ?_); refine bT ?hg (N := 4) ?hd (cs := #[.int .i64 aE, .string aA, .slice bB ay.length bA, .slice br au.length bq]) (t := 25) ?hr ?_; (case hd => rfl); (case hg => rfl); (case hr => first | (go_simp; done) | (go_simp; rfl) | (obtain ⟨_, _, rfl⟩ := Kd.bm (ae.out (by assumption : ae (Kd.R _ _ _ _ _ _ _))); go_simp; done)); intro auQ hg sY av hb; have af := bn HB hb; have ag := ae.mk (av); have ah := bK HB hg; have am := bK HB hg; clear HB; have HB := af; have iM := ag; have awE := ah; have yC := am; clear af ag ah am; clear hb av hg) | ((with_reducible refine bz (N := 5) rfl ?_); refine bT ?hg (N := 5) ?hd (cs := #[.int .i64 aK, .string aM, .slice fQ cx.length fP, .slice eG bR.length eD]) (t := 25) ?hr ?_; (case hd => rfl); (case hg => rfl); (case hr => first | (go_simp; done) | (go_simp; rfl) | (obtain ⟨_, _, rfl⟩ := Kd.bm (ae.out (by assumption : ae (Kd.R _ _ _ _ _ _ _))); go_simp; done)); intro ami hg DG av hb; have af := bw iM hb; have ag := bn HB hb; have ah := ae.mk (av); have am := bK HB hg; have aJ := bK HB hg; have aW := iP iM hg; have be := iL iM hg; clear iM; clear HB; have iM := af; have HB := ag; have j' := ah; have al2 := am; have yu := aJ; have adN := aW; have Zx := be; clear af ag ah am aJ aW be; clear hb av hg) | ((with_reducible refine bz (N := 6) rfl ?_); refine bT ?hg (N := 6) ?hd (cs := #[.int .i64 e8, .string fa, .slice jy dZ.length jI, .slice jK d4.length jJ]) (t := 25) ?hr ?_; (case hd => rfl); (case hg => rfl); (case hr => first | (go_simp; done) | (go_simp; rfl) | (obtain ⟨_, _, rfl⟩ := Kd.bm (ae.out (by assumption : ae (Kd.R _ _ _ _ _ _ _))); go_simp; done)); intro alb hg uX av hb; have af := bw iM hb; have ag := bw j' hb; have ah := bn HB hb; have am := ae.mk (av); have aJ := bK HB hg; have aW := bK HB hg; have be := iP iM hg; have bJ := iL iM hg; have bZ := iP j' hg; have b0 := iL j' hg; clear iM; clear j'; clear HB; have iM := af; have j' := ag; have HB := ah; have mw := am; have aor := aJ; have xw := aW; have ahg := be; have abx := bJ; have ain := bZ; have ads := b0; clear af ag ah am aJ aW be bJ bZ b0; clear hb av hg) | ((with_reducible refine bz (N := 7) rfl ?_); refine bT ?hg (N := 7) ?hd (cs := #[.slice jd b6.length i8, .slice jw bS.length jz, .slice jD b9.length jA, .int .i64 cD]) (t := 40) ?hr ?_; (case hd => rfl); (case hg => rfl); (case hr => first | (go_simp; done) | (go_simp; rfl) | (obtain ⟨_, _, rfl⟩ := Kd.bm (ae.out (by assumption : ae (Kd.R _ _ _ _ _ _ _))); go_simp; done)); intro au9 hg ug av hb; have af := bw iM hb; have ag := bw j' hb; have ah := bw mw hb; have am := bn HB hb; have aJ := ae.mk (av); have aW := bK HB hg; have be := bK HB hg; have bJ := iP iM hg; have bZ := iL iM hg; have b0 := iP j' hg; have cy := iL j' hg; have cA := iP mw hg; have cF := iL mw hg; clear iM; clear j'; clear mw; clear HB; have iM := af; have j' := ag; have mw := ah; have HB := am; have o8 := aJ; have auT := aW; have wj := be; have Z2 := bJ; have aaI := bZ; have aah := b0; have ac2 := cy; have ajK := cA; have ajc := cF; clear af ag ah am aJ aW be bJ bZ b0 cy cA cF; clear hb av hg; have aj9 := adN.out; have agx := Zx.out; have akj := ahg.out; have akh := abx.out; have Vs := Z2.out; have TV := aaI.out; obtain ⟨Xz, V7, WA, V9, X1, U0, Y4, Um⟩ := d8 iM; have aiG := ain.out; have adf := ads.out; have aiu := aah.out; have adg := ac2.out; obtain ⟨M1, Qa, Ox, QH, Lu, Se, Mu, QP⟩ := d8 j'; have af5 := ajK.out; have aaj := ajc.out; obtain ⟨IT, Je, PZ, Qj, Lc, Jr, RG, RF⟩ := d8 mw; obtain ⟨IC, Ib, Qq, P3, Ht, K7, PY, Pg⟩ := d8 o8) | ((with_reducible refine dD (f := 44) rfl ?_); refine dC (some 18) rfl rfl Try.func44 (by kernel_rfl) rfl #[.agg #[.int .i64 aE, .string aA, .slice bB ay.length bA, .slice br au.length bq], .agg #[.int .i64 aK, .string aM, .slice fQ cx.length fP, .slice eG bR.length eD], .agg #[.int .i64 e8, .string fa, .slice jy dZ.length jI, .slice jK d4.length jJ], .agg #[.slice jd b6.length i8, .slice jw bS.length jz, .slice jD b9.length jA, .int .i64 cD]] rfl MX ?_; (with_reducible refine (uV.calls aE aA _ _ ay _ _ au aK aM _ _ cx _ _ bR e8 fa _ _ dZ _ _ d4 _ _ b6 _ _ bS _ _ b9 cD t109 _ ?aH ?aG ?bt ?bv ?cX ?cW ?fE ?fS ?fN ?fI ?fJ ?fF ?jW ?jR ?jV ?jP ?jQ ?jU A5.out).mono ?_); (case aH => exact CX (Kd.aC fU.out HB.out)); (case aG => exact gm.out); (case bt => exact CX (Kd.aC fm.out HB.out)); (case bv => exact f_.out); (case cX => exact CX (Kd.aC tf.out HB.out)); (case cW => exact tE.out); (case fE => exact CX (Kd.aC si.out HB.out)); (case fS => exact sU.out); (case fN => exact CX (Kd.aC xZ.out HB.out)); (case fI => exact wl.out); (case fJ => exact CX (Kd.aC wa.out HB.out)); (case fF => exact yf.out); (case jW => exact CX (Kd.aC qZ.out HB.out)); (case jR => exact vQ.out); (case jV => exact CX (Kd.aC jq.out HB.out)); (case jP => exact kf.out); (case jQ => exact CX (Kd.aC jo.out HB.out)); (case jU => exact jt.out); rintro e O3 ⟨rfl, hb⟩; refine ⟨_, rfl, ?_⟩; have af := bw iM hb; have ag := bw j' hb; have ah := bw mw hb; have am := bw o8 hb; have aJ := bn HB hb; clear iM; clear j'; clear mw; clear o8; clear HB; have iM := af; have j' := ag; have mw := ah; have o8 := am; have HB := aJ; clear af ag ah am aJ; (try clear hb); (try clear hb2); (try clear hk); (try clear hi); obtain ⟨Ic, Kz, QE, Nr, J7, Jw, Ss, P9⟩ := d8 iM; obtain ⟨agp, afN, aer, aed, ai5, agM, adv, ahS⟩ := d8 j'; obtain ⟨MO, Nt, Mz, P_, Og, Ob, Rk, Mv⟩ := d8 o8))
 (try simp only [Act.put, List.setIfInBounds_toArray, List.set_cons_zero, List.set_cons_succ])
 by_cases c6 : t109 = 0
 ·rw [if_pos c6] at H
  have gJ : (t109 == 0) = true := beq_iff_eq.mpr c6
  have pY : (t109 != 0) = false := bne_eq_false_iff_eq.mpr c6
  clear c6
  (first | rw [gJ] | rw [pY] | (simp only [gY, gX]; first | rw [gJ] | rw [pY]) | skip)
  replace H := Option.bind_eq_some_iff.mp H
  obtain ⟨⟨N2, B0⟩, nc, H⟩ := H
  dsimp only at H
  have A7 := ae.mk nc
  clear nc
  go_upto_if 33 with (first | ((with_reducible refine dD (f := 10) rfl ?_); refine dC (some 29) rfl rfl Try.func10 (by kernel_rfl) rfl #[.agg #[.int .i64 aE, .string aA, .slice bB ay.length bA, .slice br au.length bq], .agg #[.int .i64 aK, .string aM, .slice fQ cx.length fP, .slice eG bR.length eD], .slice jd b6.length i8, .slice jw bS.length jz] rfl MX ?_; (with_reducible refine (ib.calls aE aA _ _ ay _ _ au aK aM _ _ cx _ _ bR _ _ b6 _ _ bS N2 B0 _ ?aH ?aG ?bt ?bv ?cX ?cW ?fE ?fS ?fN ?fI ?fJ ?fF A7.out).mono ?_); (case aH => exact CX (Kd.aC fU.out HB.out)); (case aG => exact gm.out); (case bt => exact CX (Kd.aC fm.out HB.out)); (case bv => exact f_.out); (case cX => exact CX (Kd.aC tf.out HB.out)); (case cW => exact tE.out); (case fE => exact CX (Kd.aC si.out HB.out)); (case fS => exact sU.out); (case fN => exact CX (Kd.aC qZ.out HB.out)); (case fI => exact vQ.out); (case fJ => exact CX (Kd.aC jq.out HB.out)); (case fF => exact kf.out); rintro e Kh ⟨ar3, rfl, aR, hb⟩; refine ⟨_, rfl, ?_⟩; have af := ae.mk (Kd.eB aR (cG (by repeat (first | (with_reducible first | exact HB.out | apply aQ | apply aY | apply aT | refine ao ?_ yC.out | refine ao ?_ yu.out | refine ao ?_ xw.out | refine ao ?_ wj.out) | exact HB.out)))); have ag := bw iM hb; have ah := bw j' hb; have am := bw mw hb; have aJ := bw o8 hb; have aW := bn HB hb; clear iM; clear j'; clear mw; clear o8; clear HB; have r8 := af; have iM := ag; have j' := ah; have mw := am; have o8 := aJ; have HB := aW; clear af ag ah am aJ aW; (try clear hb); (try clear hb2); (try clear hk); (try clear hi); (try clear aR); obtain ⟨yP, xQ, CU, Dm, wH, wL, Fo, Hn⟩ := d8 iM; obtain ⟨aj6, aaz, ags, ajW, aeT, adH, agb, adK⟩ := d8 mw; obtain ⟨vD, uY, u0, u6, vP, uT, vA, vT⟩ := d8 o8))
  (try simp only [Act.put, List.setIfInBounds_toArray, List.set_cons_zero, List.set_cons_succ])
  by_cases c8 : B0 = 0
  ·rw [if_pos c8] at H
   have kc : (B0 == 0) = true := beq_iff_eq.mpr c8
   have mz : (B0 != 0) = false := bne_eq_false_iff_eq.mpr c8
   clear c8
   (first | rw [kc] | rw [mz] | (simp only [gY, gX]; first | rw [kc] | rw [mz]) | skip)
   replace H := Option.bind_eq_some_iff.mp H
   obtain ⟨⟨QF, t117⟩, vH, H⟩ := H
   dsimp only at H
   have A9 := ae.mk vH
   clear vH
   go_upto_if 46 with (first | ((with_reducible refine dD (f := 10) rfl ?_); refine dC (some 42) rfl rfl Try.func10 (by kernel_rfl) rfl #[.agg #[.int .i64 aE, .string aA, .slice bB ay.length bA, .slice br au.length bq], .agg #[.int .i64 e8, .string fa, .slice jy dZ.length jI, .slice jK d4.length jJ], .slice jd b6.length i8, .slice jD b9.length jA] rfl MX ?_; (with_reducible refine (ib.calls aE aA _ _ ay _ _ au e8 fa _ _ dZ _ _ d4 _ _ b6 _ _ b9 QF t117 _ ?aH ?aG ?bt ?bv ?cX ?cW ?fE ?fS ?fN ?fI ?fJ ?fF A9.out).mono ?_); (case aH => exact CX (Kd.aC fU.out HB.out)); (case aG => exact gm.out); (case bt => exact CX (Kd.aC fm.out HB.out)); (case bv => exact f_.out); (case cX => exact CX (Kd.aC xZ.out HB.out)); (case cW => exact wl.out); (case fE => exact CX (Kd.aC wa.out HB.out)); (case fS => exact yf.out); (case fN => exact CX (Kd.aC qZ.out HB.out)); (case fI => exact vQ.out); (case fJ => exact CX (Kd.aC jo.out HB.out)); (case fF => exact jt.out); rintro e Ky ⟨aqn, rfl, aR, hb⟩; refine ⟨_, rfl, ?_⟩; have af := ae.mk (Kd.b7 (RX r8.out) (Kd.aV aR) hb); have ag := ae.mk (Kd.eB (Kd.bh aR (Kd.bg (RX r8.out))) (cG (by repeat (first | (with_reducible first | exact HB.out | apply aQ | apply aY | apply aT | refine ao ?_ yC.out | refine ao ?_ yu.out | refine ao ?_ xw.out | refine ao ?_ wj.out) | exact HB.out)))); have ah := bw iM hb; have am := bw j' hb; have aJ := bw mw hb; have aW := bw o8 hb; have be := bn HB hb; clear r8; clear iM; clear j'; clear mw; clear o8; clear HB; have r8 := af; have BM := ag; have iM := ah; have j' := am; have mw := aJ; have o8 := aW; have HB := be; clear af ag ah am aJ aW be; (try clear hb); (try clear hb2); (try clear hk); (try clear hi); (try clear aR); obtain ⟨uF, qF, yR⟩ := Kd.bm r8.out; subst yR; obtain ⟨Bc, BU, tS⟩ := Kd.bm BM.out; subst tS))
   (try simp only [Act.put, List.setIfInBounds_toArray, List.set_cons_zero, List.set_cons_succ])
   by_cases dO : t117 = 0
   ·rw [if_pos dO] at H
    have k6 : (t117 == 0) = true := beq_iff_eq.mpr dO
    have rL : (t117 != 0) = false := bne_eq_false_iff_eq.mpr dO
    clear dO
    (first | rw [k6] | rw [rL] | (simp only [gY, gX]; first | rw [k6] | rw [rL]) | skip)
    replace H := Option.bind_eq_some_iff.mp H
    obtain ⟨DB, rj, H⟩ := H
    have pl := ae.mk rj
    clear rj
    simp only [Option.some.injEq, Prod.mk.injEq] at H
    obtain ⟨rfl, rfl⟩ := H
    go_wp2_with (first | ((with_reducible refine dD (f := 14) rfl ?_); refine dC (some 50) rfl rfl Try.func14 (by kernel_rfl) rfl #[.slice uF N2.length qF, .slice Bc QF.length BU] rfl MX ?_; (with_reducible refine (mf.calls _ _ N2 _ _ QF DB _ ?aH ?aG ?bt ?bv pl.out).mono ?_); (case aH => exact CX ((Kd.b_ r8.out).2.2)); (case aG => exact (Kd.b_ r8.out).2.1); (case bt => exact CX ((Kd.b_ BM.out).2.2)); (case bv => exact (Kd.b_ BM.out).2.1); rintro e w37 ⟨av5, rfl, aR, hb⟩; refine ⟨_, rfl, ?_⟩; have af := ax r8 hb; have ag := ax BM hb; have ah := ae.mk (Kd.eB aR (cG (by repeat (first | (with_reducible first | exact HB.out | apply aQ | apply aY | apply aT | refine ao ?_ yC.out | refine ao ?_ yu.out | refine ao ?_ xw.out | refine ao ?_ wj.out) | exact HB.out)))); have am := bw iM hb; have aJ := bw j' hb; have aW := bw mw hb; have be := bw o8 hb; have bJ := bn HB hb; clear r8; clear BM; clear iM; clear j'; clear mw; clear o8; clear HB; have r8 := af; have BM := ag; have adk := ah; have iM := am; have j' := aJ; have mw := aW; have o8 := be; have HB := bJ; clear af ag ah am aJ aW be bJ; (try clear hb); (try clear hb2); (try clear hk); (try clear hi); (try clear aR); obtain ⟨D9, CR, yB⟩ := Kd.bm adk.out; subst yB))
    go_ret2
    exact ⟨by first | rfl | (simp [bY, bX] <;> rfl) | (simp [*, bY, bX] <;> rfl), by repeat (first | (with_reducible first | exact HB.out | apply aQ | apply aY | apply aT | refine ao ?_ yC.out | refine ao ?_ yu.out | refine ao ?_ xw.out | refine ao ?_ wj.out) | exact HB.out)⟩
   ·rw [if_neg dO] at H
    have k6 : (t117 == 0) = false := beq_eq_false_iff_ne.mpr dO
    have rL : (t117 != 0) = true := bne_iff_ne.mpr dO
    (first | rw [k6] | rw [rL] | (simp only [gY, gX]; first | rw [k6] | rw [rL]) | skip)
    simp only [Option.some.injEq, Prod.mk.injEq] at H
    obtain ⟨rfl, rfl⟩ := H
    go_wp2
    go_ret2
    exact ⟨by first | rfl | (simp [bY, bX] <;> rfl) | (simp [*, bY, bX] <;> rfl), by repeat (first | (with_reducible first | exact HB.out | apply aQ | apply aY | apply aT | refine ao ?_ yC.out | refine ao ?_ yu.out | refine ao ?_ xw.out | refine ao ?_ wj.out) | exact HB.out)⟩
  ·rw [if_neg c8] at H
   have kc : (B0 == 0) = false := beq_eq_false_iff_ne.mpr c8
   have mz : (B0 != 0) = true := bne_iff_ne.mpr c8
   (first | rw [kc] | rw [mz] | (simp only [gY, gX]; first | rw [kc] | rw [mz]) | skip)
   simp only [Option.some.injEq, Prod.mk.injEq] at H
   obtain ⟨rfl, rfl⟩ := H
   go_wp2
   go_ret2
   exact ⟨by first | rfl | (simp [bY, bX] <;> rfl) | (simp [*, bY, bX] <;> rfl), by repeat (first | (with_reducible first | exact HB.out | apply aQ | apply aY | apply aT | refine ao ?_ yC.out | refine ao ?_ yu.out | refine ao ?_ xw.out | refine ao ?_ wj.out) | exact HB.out)⟩
 ·rw [if_neg c6] at H
  have gJ : (t109 == 0) = false := beq_eq_false_iff_ne.mpr c6
  have pY : (t109 != 0) = true := bne_iff_ne.mpr c6
  (first | rw [gJ] | rw [pY] | (simp only [gY, gX]; first | rw [gJ] | rw [pY]) | skip)
  simp only [Option.some.injEq, Prod.mk.injEq] at H
  obtain ⟨rfl, rfl⟩ := H
  go_wp2
  go_ret2
  exact ⟨by first | rfl | (simp [bY, bX] <;> rfl) | (simp [*, bY, bX] <;> rfl), by repeat (first | (with_reducible first | exact HB.out | apply aQ | apply aY | apply aT | refine ao ?_ yC.out | refine ao ?_ yu.out | refine ao ?_ xw.out | refine ao ?_ wj.out) | exact HB.out)⟩
def dx.f (a0 : ByteArray) (a1 : ByteArray) : Option (Int × ByteArray × List ByteArray × (List (aX))) := some (20, a0, ([] : List ByteArray), (([(⟨19, a1, ([] : List ByteArray), ([] : List (aX))⟩ : aX)] : List (aX))))
set_option maxHeartbeats 8000000 in
set_option maxRecDepth 100000 in
theorem dx.calls (a0 : ByteArray) (a1 : ByteArray) (r1 : Int) (r2 : ByteArray) (r3 : List ByteArray) (r4 : List (aX)) (w : World) (h : dx.f a0 a1 = some (r1, r2, r3, r4)) :
  Calls Try.prog 22 #[.string a0, .string a1] w fun e w' => ∃ Pa XS : Value, e = .returned (.agg #[.int .i64 r1, .string r2, Pa, XS]) ∧ Kd.R Kd.string 9 w' w.heap.size (fun _ => True) Pa r3 ∧ Kd.R k25 25 w' w.heap.size (fun k_ => some k_ ≠ (Pa : Value).ownBlock) XS r4 ∧ Below w.heap.size w w' := by
 have nR := Try.underlying25
 have HB := ae.mk (Below.refl w.heap.size w)
 have H : (some (20, a0, ([] : List ByteArray), (([(⟨19, a1, ([] : List ByteArray), ([] : List (aX))⟩ : aX)] : List (aX))))) = some (r1, r2, r3, r4) := h
 clear h
 obtain ⟨Rg, CD⟩ : ∃ y_ : List (aX), y_ = (([(⟨19, a1, ([] : List ByteArray), ([] : List (aX))⟩ : aX)] : List (aX))) := ⟨_, rfl⟩
 replace H : (some (20, a0, ([] : List ByteArray), Rg)) = some (r1, r2, r3, r4) := by first | (rw [CD]; with_reducible exact H) | (have ca := (Option.bind_some _ _).symm.trans H; rw [CD]; with_reducible exact ca) | (have ca := (Option.bind_some _ _).symm.trans H; with_reducible exact ca) | with_reducible exact H | (rw [CD]; exact H) | exact H
 have VZ := ae.mk CD
 clear CD
 simp only [Option.some.injEq, Prod.mk.injEq] at H
 obtain ⟨rfl, rfl, rfl, rfl⟩ := H
 go_enter Try.func22, Try.ntmps22
 go_wp2_with (first | ((with_reducible refine bz (N := 4) rfl ?_); refine bT ?hg (N := 4) ?hd (cs := #[.int .i64 0, .string (⟨#[]⟩ : ByteArray), .slice none 0 0, .slice none 0 0]) (t := 25) ?hr ?_; (case hd => rfl); (case hg => rfl); (case hr => first | (go_simp; done) | (go_simp; rfl) | (obtain ⟨_, _, rfl⟩ := Kd.bm (ae.out (by assumption : ae (Kd.R _ _ _ _ _ _ _))); go_simp; done)); intro zm hg w3 av hb; have af := bn HB hb; have ag := ae.mk (av); have ah := bK HB hg; have am := bK HB hg; clear HB; have HB := af; have zP := ag; have anx := ah; have Ur := am; clear af ag ah am; clear hb av hg) | ((with_reducible refine bz (N := 8) rfl ?_); refine Kd.pI k25 _ 25 ?hg (N := 8) ?hd (xs := ([(⟨19, a1, ([] : List ByteArray), ([] : List (aX))⟩ : aX)] : List (aX))) (inner := [.int .i64 19, .string a1, .slice none 0 0, .slice none 0 0]) (ok := fun _ => True) (fh := fun _ => True) ?hr ?hp (fun _ hk => hk) trivial (Below.refl _ _) (Nat.le_refl _) (by simp) ?_; (case hd => rfl); (case hg => rfl); (case hr => first | (go_simp; done) | (go_simp; rfl) | (obtain ⟨_, _, rfl⟩ := Kd.bm (ae.out (by assumption : ae (Kd.R _ _ _ _ _ _ _))); go_simp; done)); (case hp => exact (bU.c4 (show Kd.M k25 _ _ _ (⟨19, a1, ([] : List ByteArray), ([] : List (aX))⟩ : aX) [.int .i64 19, .string a1, .slice none 0 0, .slice none 0 0] from (ahC _ _ _ (⟨19, a1, ([] : List ByteArray), ([] : List (aX))⟩ : aX) (Kd.lS _ _ _ _ _) (Kd.lS _ _ _ _ _))) (bU.none _ _))); intro avi w4 CT hb kX kN; clear kX kN; (first | rw [← VZ.out] at CT | (simp only [Int.reduceToNat] at CT; rw [← VZ.out] at CT)); have af := ae.mk (Kd.eB (Kd.agX CT (g := zm) (o := .cells #[.int .i64 0, .string (⟨#[]⟩ : ByteArray), .slice none 0 0, .slice none 0 0] 25 (0, 0)) (by (with_reducible repeat (first | refine bf ?_ _ | refine bd ?_ | refine aU ?_ _)); exact zP.out)) (cG (by repeat (first | (with_reducible first | exact HB.out | apply aQ | apply aY | apply aT | refine ao ?_ Ur.out) | exact HB.out)))); have ag := bw zP hb; have ah := bn HB hb; clear zP; clear HB; have SO := af; have zP := ag; have HB := ah; clear af ag ah; clear hb CT; obtain ⟨Te, V8, eo6⟩ := Kd.bm SO.out; subst eo6; obtain ⟨KN, JL, IA, J0, Jb, Ko, JM, KK⟩ := d8 zP))
 refine bodyPost_ret (results_cell_row rfl _ _ zm 25 #[.int .i64 20, .string a0, .slice none 0 0, .slice Te Rg.length V8] (0, 0) _ rfl (by (with_reducible repeat (first | refine bf ?_ _ | refine bd ?_ | refine aU ?_ _)); refine ix (cs := #[.int .i64 20, .string a0, .slice none 0 0, .slice none 0 0]) ?_ 3 _ rfl; (with_reducible repeat (first | refine bf ?_ _ | refine bd ?_ | refine aU ?_ _)); refine ix (cs := #[.int .i64 20, .string a0, .slice none 0 0, .slice none 0 0]) ?_ 2 _ rfl; (with_reducible repeat (first | refine bf ?_ _ | refine bd ?_ | refine aU ?_ _)); refine ix (cs := #[.int .i64 20, .string (⟨#[]⟩ : ByteArray), .slice none 0 0, .slice none 0 0]) ?_ 1 _ rfl; (with_reducible repeat (first | refine bf ?_ _ | refine bd ?_ | refine aU ?_ _)); refine ix (cs := #[.int .i64 0, .string (⟨#[]⟩ : ByteArray), .slice none 0 0, .slice none 0 0]) ?_ 0 _ rfl; (with_reducible repeat (first | refine bf ?_ _ | refine bd ?_ | refine aU ?_ _)); exact zP.out) Try.underlying25 rfl (by kernel_rfl)) rfl ?_
 exact ⟨_, _, by first | rfl | (simp [bY, bX] <;> rfl) | (simp [*, bY, bX] <;> rfl), NX, by (with_reducible repeat (first | apply Kd.nX | apply Kd.ot | apply Kd.jj)); exact Kd.cm (Kd.oF (p := ⟨zm, 3, none⟩) (Kd.oF (p := ⟨zm, 2, none⟩) (Kd.oF (p := ⟨zm, 1, none⟩) (Kd.oF (p := ⟨zm, 0, none⟩) (Kd.cm SO.out (fun k_ hk => (⟨hk, hk.2⟩ : _ ∧ k_ ≠ zm))) (fun _ hk => hk.2) (.int .i64 20)) (fun _ hk => hk.2) (.string a0)) (fun _ hk => hk.2) (.slice none 0 0)) (fun _ hk => hk.2) (.slice Te Rg.length V8)) (fun _ hk => (by simp [Value.ownBlock])), by repeat (first | (with_reducible first | exact HB.out | apply aQ | apply aY | apply aT | refine ao ?_ Ur.out) | exact HB.out)⟩
end Go.Proofs.Ytcfjdehpbckomaa.Q
