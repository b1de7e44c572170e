
import Derived.Test.YtcfjdehpbckomaaQ0
import Derived.Test.YtcfjdehpbckomaaQ2
import Derived.Test.YtcfjdehpbckomaaQ3
namespace Go.Proofs.Ytcfjdehpbckomaa.Q
open Go.RowKit Go.Proofs.YtcfjdehpbckomaaW.dS Go.Proofs.YtcfjdehpbckomaaW.jm Go.Proofs.YtcfjdehpbckomaaW.mm
attribute [local go_sem] mU na nt mX m6 nu mP mW
set_option linter.unusedVariables false
set_option linter.unusedSimpArgs false
/-! ### change_List: function 10 (by hand) -/
theorem abN (l : List aX) : ∀ (m : Nat) (k : Int), k ∈ fM l m → (m : Int) ≤ k ∧ k < ((m + (cz l).length : Nat) : Int) := by
 induction l with
 | nil => intro m k h; simp [fM] at h
 | cons y l ih =>
  intro m k h
  rw [fM, List.mem_cons] at h
  have hp : (fz y).length = 1 + (cz y.f3).length := by rw [l5, List.length_cons]; omega
  rw [cz, List.length_append]
  rcases h with h | h
  ·omega
  ·have := ih _ k h
   omega
theorem afb (x : aX) : ∀ (p : Int) (n : Nat) (r : bC), r ∈ bk x p n → (r.f0 = p ∨ ((n : Int) ≤ r.f0 ∧ r.f0 < ((n + (fz x).length : Nat) : Int))) ∧ ∀ k ∈ r.f4, (n : Int) < k ∧ k < ((n + (fz x).length : Nat) : Int) := by
 induction x using s9 with
 | h x ih =>
 intro p n r hr
 have hp : (fz x).length = 1 + (cz x.f3).length := by rw [l5, List.length_cons]; omega
 have key : ∀ (l : List aX), (∀ y ∈ l, y ∈ x.f3) → ∀ n m, r ∈ ed l n m → (r.f0 = (n : Int) ∨ ((m : Int) ≤ r.f0 ∧ r.f0 < ((m + (cz l).length : Nat) : Int))) ∧ ∀ k ∈ r.f4, (m : Int) < k ∧ k < ((m + (cz l).length : Nat) : Int) := by
  intro l
  induction l with
  | nil => intro _ n m h; simp [ed] at h
  | cons y l ihl =>
   intro hl n m h
   rw [ed, List.mem_append] at h
   rw [cz, List.length_append]
   rcases h with h | h
   ·obtain ⟨h1, h2⟩ := ih y (hl y (by simp)) (n : Int) m r h
    exact ⟨by rcases h1 with h1 | h1; exact .inl h1; exact .inr (by omega), fun k hk => by have := h2 k hk; omega⟩
   ·obtain ⟨h1, h2⟩ := ihl (fun z hz => hl z (by simp [hz])) n (m + (fz y).length) h
    exact ⟨by rcases h1 with h1 | h1; exact .inl h1; exact .inr (by omega), fun k hk => by have := h2 k hk; omega⟩
 rw [vC, List.mem_cons] at hr
 rcases hr with rfl | hr
 ·refine ⟨.inl rfl, fun k hk => ?_⟩
  have := abN _ _ k hk
  omega
 ·obtain ⟨h1, h2⟩ := key x.f3 (fun _ h => h) n (n + 1) hr
  exact ⟨.inr (by rcases h1 with h1 | h1 <;> omega), fun k hk => by have := h2 k hk; omega⟩
theorem LD (x : aX) (r : bC) (hr : r ∈ bk x (-1) 0) : (r.f0 = -1 ∨ (0 ≤ r.f0 ∧ r.f0 < ((bk x (-1) 0).length : Int))) ∧ ∀ k ∈ r.f4, 0 ≤ k ∧ k < ((bk x (-1) 0).length : Int) := by
 obtain ⟨h1, h2⟩ := afb x (-1) 0 r hr
 rw [td]
 exact ⟨by rcases h1 with h1 | h1; exact .inl h1; exact .inr (by omega), fun k hk => by have := h2 k hk; omega⟩
structure gZ where
 par : Int
 txt : ByteArray
 gaps : List ByteArray
 kids : List Int
def eo (ids : List Int) (r : bC) : gZ := ⟨if r.f0 < 0 then -1 else ids.getD r.f0.toNat 0, r.f2, r.f3, r.f4.map (fun k => ids.getD k.toNat 0)⟩
def eX (rows : List bC) (ids : List Int) : Nat → List (Int × gZ)
 | 0 => []
 | k + 1 => fG (eX rows ids k) (ids.getD k 0) (eo ids (rows.getD k z70))
def k5 (rows : List bC) (ids : List Int) : Bool := decide (rows.length = ids.length) && ids.all (fun k => decide (0 ≤ k)) && decide ((eX rows ids ids.length).length = ids.length)
def nW (w : World) (P : Nat → Prop) (x : gZ) (v : Value) : Prop := ∃ A2 c2 A3 c3, v = .agg #[.int .i64 x.par, .string x.txt, .slice A2 x.gaps.length c2, .slice A3 x.kids.length c3] ∧ x.gaps.length ≤ c2 ∧ Kd.F Kd.string w P A2 x.gaps.length x.gaps ∧ x.kids.length ≤ c3 ∧ Kd.F (Kd.int .i64) w P A3 x.kids.length x.kids
theorem nW.step {w w' : World} {P : Nat → Prop} {x : gZ} {v : Value} (h : nW w P x v) (hm : ∀ k, P k → k < w.heap.size → w'.heap[k]? = w.heap[k]?) : nW w' P x v := by
 obtain ⟨A2, c2, A3, c3, h1, h2, h3, h4, h5⟩ := h
 exact ⟨A2, c2, A3, c3, h1, h2, Kd.pS h3 hm, h4, Kd.pS h5 hm⟩
theorem nW.below {w w' : World} {P : Nat → Prop} {x : gZ} {v : Value} (h : nW w P x v) (hb : Below w.heap.size w w') : nW w' P x v := h.step (fun k _ hk => hb.block k hk)
theorem nW.mono {w : World} {P P' : Nat → Prop} {x : gZ} {v : Value} (h : nW w P x v) (hp : ∀ k, P k → P' k) : nW w P' x v := by
 obtain ⟨A2, c2, A3, c3, h1, h2, h3, h4, h5⟩ := h
 exact ⟨A2, c2, A3, c3, h1, h2, Kd.ra h3 hp, h4, Kd.ra h5 hp⟩
def o_ (w : World) (b : Nat) (m : List (Int × gZ)) : Prop := dd ld (nW w (fun k => k ≠ b)) w b m
theorem o_.map {w : World} {b : Nat} {m : List (Int × gZ)} (h : o_ w b m) : dd ld (nW w (fun k => k ≠ b)) w b m := h
theorem o_.below {w w' : World} {b : Nat} {m : List (Int × gZ)} (h : o_ w b m) (hb : Below w.heap.size w w') : o_ w' b m := dd.mono (dd.below h hb) (fun _ _ hv => hv.below hb)
theorem o_.put {w w' : World} {b : Nat} {m' : List (Int × gZ)} (h : dd ld (nW w (fun k => k ≠ b)) w' b m') (hg : w.grownBy w' (some b)) : o_ w' b m' := dd.mono h (fun _ _ hv => hv.step (fun k hk hl => hg.block k hl (fun e => hk (by injection e))))
theorem ajT {W : World} {ok : Nat → Prop} {x : bC} {cs : List Value} (h : Kd.FK fc W ok x cs) : ∃ A3 c3 A4 c4, cs = [.int .i64 x.f0, .int .i64 x.f1, .string x.f2, .slice A3 x.f3.length c3, .slice A4 x.f4.length c4] ∧ x.f3.length ≤ c3 ∧ Kd.F Kd.string W ok A3 x.f3.length x.f3 ∧ x.f4.length ≤ c4 ∧ Kd.F (Kd.int .i64) W ok A4 x.f4.length x.f4 := by
 obtain ⟨A3, c3, A4, c4, rfl, l3, _, l4, _⟩ := yd (Kd.vX h)
 exact ⟨A3, c3, A4, c4, rfl, l3, (fun W' hW => by obtain ⟨uA, uD, Hc, EJ, he, DL, uv, NR, FG⟩ := yd (h W' hW); injection (Option.some.inj (show some (Value.slice A3 x.f3.length c3) = some (Value.slice uA x.f3.length uD) from congrArg (fun l => l[3]?) he)) with nB _ _; rw [nB]; exact uv), l4, (fun W' hW => by obtain ⟨uA, uD, Hc, EJ, he, DL, uv, NR, FG⟩ := yd (h W' hW); injection (Option.some.inj (show some (Value.slice A4 x.f4.length c4) = some (Value.slice Hc x.f4.length EJ) from congrArg (fun l => l[4]?) he)) with nB _ _; rw [nB]; exact FG)⟩
theorem Jy {w : World} {P : Nat → Prop} {A : Option Addr} {n : Nat} {xs : List bC} (h : Kd.F fc w P A n xs) (i : Int) (h0 : 0 ≤ i) (h1 : i < n) : ∃ ad A3 c3 A4 c4, A = some ad ∧ w.cell? (ad.add (i.toNat * 5)) = some (.int .i64 (aD xs i).f0) ∧ w.cell? ⟨(ad.add (i.toNat * 5)).block, (ad.add (i.toNat * 5)).off + 1, none⟩ = some (.int .i64 (aD xs i).f1) ∧ w.cell? ⟨(ad.add (i.toNat * 5)).block, (ad.add (i.toNat * 5)).off + 2, none⟩ = some (.string (aD xs i).f2) ∧ w.cell? ⟨(ad.add (i.toNat * 5)).block, (ad.add (i.toNat * 5)).off + 3, none⟩ = some (.slice A3 (aD xs i).f3.length c3) ∧ w.cell? ⟨(ad.add (i.toNat * 5)).block, (ad.add (i.toNat * 5)).off + 4, none⟩ = some (.slice A4 (aD xs i).f4.length c4) ∧ (aD xs i).f3.length ≤ c3 ∧ Kd.F Kd.string w P A3 (aD xs i).f3.length (aD xs i).f3 ∧ (aD xs i).f4.length ≤ c4 ∧ Kd.F (Kd.int .i64) w P A4 (aD xs i).f4.length (aD xs i).f4 := by
 obtain ⟨ad, c, e, _, hK, hc0, _⟩ := Kd.TK h z70 i h0 h1
 have hc : ∀ j u, c[j]? = some u → w.cell? (ad.add (i.toNat * 5 + j)) = some u := hc0
 obtain ⟨A3, c3, A4, c4, rfl, l3, g3, l4, g4⟩ := ajT hK
 exact ⟨ad, A3, c3, A4, c4, e, hc 0 _ rfl, by rw [← ea _ _ 1 (by omega)]; exact hc 1 _ rfl, by rw [← ea _ _ 2 (by omega)]; exact hc 2 _ rfl, by rw [← ea _ _ 3 (by omega)]; exact hc 3 _ rfl, by rw [← ea _ _ 4 (by omega)]; exact hc 4 _ rfl, l3, g3, l4, g4⟩
theorem ait {rows : List bC} {ids : List Int} (h : rows.length = ids.length) (h2 : ∀ i, i < ids.length → 0 ≤ ids.getD i 0) : k5 rows ids = decide ((eX rows ids ids.length).length = ids.length) := by
 unfold k5
 have h1 : ids.all (fun k => decide (0 ≤ k)) = true := by
  rw [List.all_eq_true]
  intro k hk
  obtain ⟨i, hi, rfl⟩ := List.getElem_of_mem hk
  have := h2 i hi
  rw [List.getD_eq_getElem?_getD, List.getElem?_eq_getElem hi] at this
  simpa using this
 rw [h1, decide_eq_true h]
 rfl
theorem afF (x : aX) : ∀ (p : Int) (n : Nat) (r : bC), r ∈ bk x p n → r.f4.length ≤ (fz x).length := by
 induction x using s9 with
 | h x ih =>
 intro p n r hr
 have hp : (fz x).length = 1 + (cz x.f3).length := by rw [l5, List.length_cons]; omega
 have key : ∀ (l : List aX), (∀ y ∈ l, y ∈ x.f3) → ∀ n m, r ∈ ed l n m → r.f4.length ≤ (cz l).length := by
  intro l
  induction l with
  | nil => intro _ n m h; simp [ed] at h
  | cons y l ihl =>
   intro hl n m h
   rw [ed, List.mem_append] at h
   rw [cz, List.length_append]
   rcases h with h | h
   ·have := ih y (hl y (by simp)) (n : Int) m r h
    omega
   ·have := ihl (fun z hz => hl z (by simp [hz])) n (m + (fz y).length) h
    omega
 rw [vC, List.mem_cons] at hr
 rcases hr with rfl | hr
 ·have h1 := JS x.f3
  simp only [Jq]
  omega
 ·have := key x.f3 (fun _ h => h) n (n + 1) hr
  omega
theorem Pw (x : aX) (hok : j7 x = true) (r : bC) (hr : r ∈ bk x (-1) 0) : r.f4.length ≤ 1000000 := by
 have h1 := afF x (-1) 0 r hr
 unfold j7 at hok
 simp only [Bool.and_eq_true, decide_eq_true_eq] at hok
 omega
theorem aj0 {rows : List bC} {ids : List Int} (h : rows.length ≠ ids.length) : k5 rows ids = false := by
 unfold k5
 rw [decide_eq_false h]
 rfl
theorem Wg {rows : List bC} {ids : List Int} {j : Nat} (hj : j < ids.length) (h : ids[j] < 0) : k5 rows ids = false := by
 unfold k5
 have : ids.all (fun k => decide (0 ≤ k)) = false := by
  rw [List.all_eq_false]
  exact ⟨ids[j], List.getElem_mem hj, by simpa using h⟩
 rw [this]
 simp
set_option maxHeartbeats 16000000 in
set_option maxRecDepth 100000 in
theorem VC (x : aX) (ids : List Int) (A2 : Option Addr) (c2 : Nat) (A3 : Option Addr) (c3 : Nat) (Ai : Option Addr) (ci : Nat) (w : World) (h2 : Kd.C Kd.string w A2 x.f2.length x.f2) (l2 : x.f2.length ≤ c2) (h3 : Kd.C k25 w A3 x.f3.length x.f3) (l3 : x.f3.length ≤ c3) (hi : Kd.C (Kd.int .i64) w Ai ids.length ids) (li : ids.length ≤ ci) (hok : j7 x = true) :
  Calls Try.prog 23 #[.agg #[.int .i64 x.f0, .string x.f1, .slice A2 x.f2.length c2, .slice A3 x.f3.length c3], .slice Ai ids.length ci] w fun e w' => ∃ mb, e = .returned (.tuple #[.map mb, .bool (k5 (bk x (-1) 0) ids)]) ∧ Below w.heap.size w w' ∧ (k5 (bk x (-1) 0) ids = true → ∃ b, mb = some b ∧ w.heap.size ≤ b ∧ o_ w' b (eX (bk x (-1) 0) ids ids.length)) := by
 have nR := Try.underlying25
 have K9 := Try.underlying70
 have HI := ae.mk hi
 have LI := ae.mk li
 obtain ⟨rows, hrows⟩ : ∃ rows, rows = bk x (-1) 0 := ⟨_, rfl⟩
 have HBD := ae.mk (fun r hr => by rw [hrows] at hr; have := LD x r hr; rw [← hrows] at this; exact this : ∀ r ∈ rows, (r.f0 = -1 ∨ (0 ≤ r.f0 ∧ r.f0 < (rows.length : Int))) ∧ ∀ k ∈ r.f4, 0 ≤ k ∧ k < (rows.length : Int))
 have tQ := ae.mk (by rw [hrows, td]; unfold j7 at hok; simp only [Bool.and_eq_true, decide_eq_true_eq] at hok; exact hok.1 : rows.length ≤ 1000000)
 have HC := ae.mk (fun (W : World) (hb : Below w.heap.size w W) => us.calls x.f0 x.f1 A2 c2 x.f2 A3 c3 x.f3 rows W (Kd.aC h2 hb) l2 (Kd.aC h3 hb) l3 (by unfold us.f; rw [show (⟨x.f0, x.f1, x.f2, x.f3⟩ : aX) = x by cases x; rfl, if_pos hok, ← hrows]))
 have V3 := ae.mk (by rw [hrows]; exact fun r hr => Pw x hok r hr : ∀ r ∈ rows, r.f4.length ≤ 1000000)
 rw [← hrows]
 clear hrows hok h2 l2 h3 l3 hi li
 have HB := ae.mk (Below.refl w.heap.size w)
 have hmm := @run_makeMap Try.prog
 by_cases hlen : rows.length = ids.length
 case neg =>
  have HN := ae.mk hlen
  have e1 : ((rows.length : Int) != (ids.length : Int)) = true := by rw [bne_iff_ne]; omega
  have HF := ae.mk (aj0 hlen)
  clear hlen
  go_enter Try.func23, Try.ntmps23
  go_wp2_with (first | ((with_reducible refine bz (N := 2) rfl ?_); refine bT ?hg (N := 2) ?hd (cs := #[.int .i64 x.f0, .string x.f1, .slice A2 x.f2.length c2, .slice A3 x.f3.length c3]) (t := 25) ?hr ?_; (case hd => rfl); (case hg => rfl); (case hr => first | (go_simp; done) | (go_simp; rfl)); intro g4 hg w1 av hb; have jr := ae.mk (d_ HB.out hb); have z40 := (aj av 0).trans rfl; have z41 := (aj av 1).trans rfl; have ga := (aj av 2).trans rfl; have eK := (aj av 3).trans rfl; clear av hb hg) | (go_at_call 49; go_loud ((with_reducible refine (HC.out _ jr.out).mono ?_); rintro e w3 ⟨v, rfl, hR, hb3⟩; obtain ⟨Ar, cr, rfl⟩ := Kd.bm hR; have gp := ae.mk (d_ jr.out hb3); clear hR hb3 z40 z41 ga eK)))
  go_ret2
  exact ⟨none, by rw [HF.out]; rfl, gp.out, fun h => by rw [HF.out] at h; cases h⟩
 have f9 := ae.mk hlen
 have e1 : ((rows.length : Int) != (ids.length : Int)) = false := by rw [bne_eq_false_iff_eq]; omega
 clear hlen
 go_enter Try.func23, Try.ntmps23
 go_wp2_with (first | ((with_reducible refine bz (N := 2) rfl ?_); refine bT ?hg (N := 2) ?hd (cs := #[.int .i64 x.f0, .string x.f1, .slice A2 x.f2.length c2, .slice A3 x.f3.length c3]) (t := 25) ?hr ?_; (case hd => rfl); (case hg => rfl); (case hr => first | (go_simp; done) | (go_simp; rfl)); intro g4 hg w1 av hb; have jr := ae.mk (d_ HB.out hb); have z40 := (aj av 0).trans rfl; have z41 := (aj av 1).trans rfl; have ga := (aj av 2).trans rfl; have eK := (aj av 3).trans rfl; clear av hb hg) | (go_at_call 49; go_loud ((with_reducible refine (HC.out _ jr.out).mono ?_); rintro e w3 ⟨v, rfl, hR, hb3⟩; obtain ⟨Ar, cr, rfl⟩ := Kd.bm hR; have gp := ae.mk (d_ jr.out hb3); have tn := ae.mk (Kd.sc (Kd.cm (d5 := fun k => k < w3.heap.size) (Kd.jY hR) (fun k hk => hk.2.2.1))); clear hR hb3 z40 z41 ga eK)))
 have P8 := ae.mk (gp.out.size : w.heap.size ≤ w3.heap.size)
 go_loopg [23] rows.length (fun gk v23 w' => ∃ (j : Nat), v23 = .int .i64 j ∧ j + gk = rows.length ∧ ae (∀ i, i < j → 0 ≤ ids.getD i 0) ∧ ae (o_ w' w3.heap.size (eX rows ids j)) ∧ ae (Below w3.heap.size w3 w'))
 case atStart =>
  refine ⟨0, rfl, by omega, ⟨fun i h => by omega⟩, ⟨dd.new _ _ _⟩, ⟨aQ (Below.refl _ _) _⟩⟩
 case round =>
  obtain ⟨j, rfl, hj, GS, HM, nS⟩ := hrel
  obtain ⟨go, rfl⟩ : ∃ go, go = gk := ⟨gk, rfl⟩
  have HJ := ae.mk hj
  cases go with
  | zero =>
   have g1 : decide ((j : Int) < (rows.length : Int)) = false := decide_eq_false (by omega)
   have g2 : decide (j < rows.length) = false := decide_eq_false (by omega)
   obtain rfl : j = rows.length := by omega
   clear hj
   go_wp2_with (with_reducible refine LX rfl _ rfl Try.underlying52 rfl HM.out.map ?_)
   have HRL := ae.mk (ait f9.out (fun i hi => GS.out i (by rw [f9.out]; exact hi)))
   go_ret2
   refine ⟨some w3.heap.size, ?_, vu gp.out P8.out nS.out, fun _ => ⟨_, rfl, P8.out, by rw [← f9.out]; exact HM.out⟩⟩
   rw [HRL.out, ← f9.out]
   have e : ((((eX rows ids rows.length).length : Int) == (rows.length : Int))) = decide ((eX rows ids rows.length).length = rows.length) := by
    rw [Bool.eq_iff_iff, beq_iff_eq, decide_eq_true_iff]
    omega
   rw [← e]
   rfl
  | succ g =>
   have hjl : j < rows.length := by omega
   have eV := ae.mk hjl
   have g1 : decide ((j : Int) < (rows.length : Int)) = true := decide_eq_true (by omega)
   have II : decide (j < rows.length) = true := decide_eq_true hjl
   have p0 : (0 : Int) ≤ (j : Int) := by omega
   have p1 : (j : Int) < (rows.length : Int) := by omega
   have p2 : (j : Int) < (ids.length : Int) := by have := f9.out; omega
   have HB := ae.mk (vu gp.out P8.out nS.out)
   obtain ⟨ad, Ag, cg, Ak, ck, hA, q0, q1, q2, q3, q4, m3, G3, m4, G4⟩ := Jy (Kd.lJ tn.out nS.out) (j : Int) p0 p1
   obtain ⟨r, hr⟩ : ∃ r, r = aD rows (j : Int) := ⟨_, rfl⟩
   rw [Int.toNat_natCast] at q0 q1 q2 q3 q4
   rw [← hr] at q0 q1 q2 q3 q4 m3 G3 m4 G4
   have HR := ae.mk (hr.trans (by unfold aD; rw [Int.toNat_natCast]) : r = rows.getD j z70)
   subst hA
   obtain ⟨ai, ei, hx⟩ := Kd.dB (Kd.aC HI.out HB.out) (j : Int) p0 p2
   cases ei
   rw [Int.toNat_natCast] at hx
   obtain ⟨id, hid⟩ : ∃ id, id = rd ids (j : Int) := ⟨_, rfl⟩
   rw [← hid] at hx
   have pZ := ae.mk (hid.trans (by unfold rd; rw [Int.toNat_natCast]) : id = ids.getD j 0)
   have hxk := ae.mk hx
   have M3 := ae.mk m3
   have M4 := ae.mk m4
   have SK := ae.mk G3
   have W7 := ae.mk G4
   clear hj hjl hr hid m3 m4 G3 G4
   by_cases hneg : id < 0
   ·have e3 : decide (id < 0) = true := decide_eq_true hneg
    have DN := ae.mk hneg
    clear hneg
    go_wp2_with (first | ((with_reducible refine bz (N := 9) rfl ?_); refine bT ?hg (N := 9) ?hd (cs := #[.int .i64 0, .int .i64 0, .string (⟨#[]⟩ : ByteArray), .slice none 0 0, .slice none 0 0]) (t := 70) ?hr ?_; (case hd => rfl); (case hg => rfl); (case hr => first | (go_simp; done) | (go_simp; rfl)); intro g9 hg w4 av hb; have dW := ae.mk hb; have ct := ae.mk av; have Cg := ae.mk (by rw [hg]; exact Nat.le_refl _ : wr.heap.size ≤ g9); have nU := k7 hb hx; clear hx q0 q1 q2 q3 q4 av hb hg; have oc := (aj ct.out 0).trans rfl; have z91 := (aj ct.out 1).trans rfl; have n4 := (aj ct.out 2).trans rfl; have z93 := (aj ct.out 3).trans rfl; have nQ := (aj ct.out 4).trans rfl; have Dj := bN ct.out 0; have Fg := bN ct.out 1; have DJ := bN ct.out 2; have C0 := bN ct.out 3; have Cu := bN ct.out 4) | ((with_reducible refine PQ ct.out ?_); intro w5 hbk hg; clear oc z91 n4 z93 nQ Dj Fg DJ C0 Cu; have af := ae.mk (jc dW.out hg Cg.out dW.out.size); have ag := ae.mk hbk; have KP := k7 af.out hxk.out; clear dW ct nU hbk hg; have dW := af; have ct := ag; clear af ag; have oc := (aj ct.out 0).trans rfl; have z91 := (aj ct.out 1).trans rfl; have n4 := (aj ct.out 2).trans rfl; have z93 := (aj ct.out 3).trans rfl; have nQ := (aj ct.out 4).trans rfl))
    go_ret2
    refine ⟨none, ?_, vu HB.out HB.out.size (d_ dW.out (Below.refl _ _)), fun h => ?_⟩
    ·rw [Wg (j := j) (by have := eV.out; have := f9.out; omega) (by have h1 := pZ.out; have h2 := DN.out; rw [h1, List.getD_eq_getElem?_getD, List.getElem?_eq_getElem (by have := eV.out; have := f9.out; omega)] at h2; exact h2)]
     rfl
    ·rw [Wg (j := j) (by have := eV.out; have := f9.out; omega) (by have h1 := pZ.out; have h2 := DN.out; rw [h1, List.getD_eq_getElem?_getD, List.getElem?_eq_getElem (by have := eV.out; have := f9.out; omega)] at h2; exact h2)] at h
     cases h
   ·have e3 : decide (id < 0) = false := decide_eq_false hneg
    have DN := ae.mk (by omega : 0 ≤ id)
    clear hneg
    have Rs := ae.mk (HBD.out r (by rw [HR.out, List.getD_eq_getElem?_getD, List.getElem?_eq_getElem eV.out]; exact List.getElem_mem _))
    by_cases hp : 0 ≤ r.f0
    ·have e4 : decide (0 ≤ r.f0) = true := decide_eq_true hp
     have e5 : decide (r.f0 ≥ 0) = true := decide_eq_true hp
     have hp2 : r.f0 < (ids.length : Int) := by have := Rs.out.1; have := f9.out; omega
     obtain ⟨ap, ep, hpx⟩ := Kd.dB (Kd.aC HI.out HB.out) r.f0 hp hp2
     injection ep with ep
     subst ep
     have hpk := ae.mk hpx
     have Ls := ae.mk (by unfold eo; rw [if_neg (by omega)]; rfl : eo ids r = ⟨rd ids r.f0, r.f2, r.f3, r.f4.map (fun k => ids.getD k.toNat 0)⟩)
     clear hpx
     go_wp2_with (first | ((with_reducible refine bz (N := 9) rfl ?_); refine bT ?hg (N := 9) ?hd (cs := #[.int .i64 0, .int .i64 0, .string (⟨#[]⟩ : ByteArray), .slice none 0 0, .slice none 0 0]) (t := 70) ?hr ?_; (case hd => rfl); (case hg => rfl); (case hr => first | (go_simp; done) | (go_simp; rfl)); intro g9 hg w4 av hb; have dW := ae.mk hb; have ct := ae.mk av; have Cg := ae.mk (by rw [hg]; exact Nat.le_refl _ : wr.heap.size ≤ g9); have nU := k7 hb hx; clear hx q0 q1 q2 q3 q4 av hb hg; have oc := (aj ct.out 0).trans rfl; have z91 := (aj ct.out 1).trans rfl; have n4 := (aj ct.out 2).trans rfl; have z93 := (aj ct.out 3).trans rfl; have nQ := (aj ct.out 4).trans rfl; have Dj := bN ct.out 0; have Fg := bN ct.out 1; have DJ := bN ct.out 2; have C0 := bN ct.out 3; have Cu := bN ct.out 4) | ((with_reducible refine PQ ct.out ?_); intro w5 hbk hg; clear oc z91 n4 z93 nQ Dj Fg DJ C0 Cu; have af := ae.mk (jc dW.out hg Cg.out dW.out.size); have ag := ae.mk hbk; have KP := k7 af.out hxk.out; clear dW ct nU hbk hg; have dW := af; have ct := ag; clear af ag; have oc := (aj ct.out 0).trans rfl; have z91 := (aj ct.out 1).trans rfl; have n4 := (aj ct.out 2).trans rfl; have z93 := (aj ct.out 3).trans rfl; have nQ := (aj ct.out 4).trans rfl) | ((with_reducible refine bz (N := 10) rfl ?_); refine bT ?hg (N := 10) ?hd (cs := #[.int .i64 0, .string (⟨#[]⟩ : ByteArray), .slice none 0 0, .slice none 0 0]) (t := 59) ?hr ?_; (case hd => rfl); (case hg => rfl); (case hr => first | (go_simp; done) | (go_simp; rfl)); intro g10 hg w6 av hb; have K0 := ae.mk (by have := em ct.out; omega : g9 ≠ g10); have o5 := ae.mk (by rw [hg]; exact dW.out.size : wr.heap.size ≤ g10); have af := ae.mk (d_ dW.out hb); have ag := ae.mk (di ct.out hb); have bQ := ae.mk av; clear oc z91 n4 z93 nQ; clear dW ct KP av hb hg; have dW := af; have ct := ag; clear af ag; have jS := (aj bQ.out 0).trans rfl; have mn := (aj bQ.out 1).trans rfl; have rk := (aj bQ.out 2).trans rfl; have pJ := (aj bQ.out 3).trans rfl; have qB := bN bQ.out 0; have tJ := bN bQ.out 1; have DK := bN bQ.out 2; have xm := bN bQ.out 3) | ((with_reducible refine sw bQ.out ?_); intro w7 hbk hg; clear jS mn rk pJ qB tJ DK xm; have af := ae.mk (jc dW.out hg o5.out dW.out.size); have ag := ae.mk (fe ct.out hg (fun e => K0.out (by injection e))); have ah := ae.mk hbk; clear dW ct bQ hbk hg; have dW := af; have ct := ag; have bQ := ah; clear af ag ah; have oc := (aj ct.out 0).trans rfl; have z91 := (aj ct.out 1).trans rfl; have n4 := (aj ct.out 2).trans rfl; have z93 := (aj ct.out 3).trans rfl; have nQ := (aj ct.out 4).trans rfl; have jS := (aj bQ.out 0).trans rfl; have qB := bN bQ.out 0; have Y_ := k7 dW.out hpk.out) | ((with_reducible refine agV 0 #[.int .i64 (rd ids r.f0), .string r.f2, .slice Ag r.f3.length cg, .slice none 0 0] bQ.out rfl ?_); intro w8 hbk hg; clear oc z91 n4 z93 nQ; have af := ae.mk (jc dW.out hg o5.out dW.out.size); have ag := ae.mk (fe ct.out hg (fun e => K0.out (by injection e))); have ah := ae.mk hbk; clear dW ct bQ hbk hg jS qB Y_; have dW := af; have ct := ag; have bQ := ah; clear af ag ah; have oc := (aj ct.out 0).trans rfl; have z91 := (aj ct.out 1).trans rfl; have n4 := (aj ct.out 2).trans rfl; have z93 := (aj ct.out 3).trans rfl; have nQ := (aj ct.out 4).trans rfl))
     obtain ⟨wo, rfl⟩ : ∃ wo : World, wo = wr := ⟨_, rfl⟩
     have qn := ae.mk (by rw [HR.out, List.getD_eq_getElem?_getD, List.getElem?_eq_getElem eV.out]; exact List.getElem_mem _ : r ∈ rows)
     have Fd := ae.mk (V3.out r qn.out : r.f4.length ≤ 1000000)
     clear oc z91 n4 z93 nQ
     go_loopg [50] r.f4.length (fun hk Ck w' => ∃ (i : Nat) (Av : Option Addr) (cv : Nat), Ck = .int .i64 i ∧ i + hk = r.f4.length ∧ ae (w'.heap[g10]? = some (.cells #[.int .i64 (rd ids r.f0), .string r.f2, .slice Ag r.f3.length cg, .slice Av i cv] 59 (0, 0))) ∧ ae ((Kd.int .i64).R 3 w' wo.heap.size (fun _ => True) (.slice Av i cv) ((r.f4.take i).map (fun k => ids.getD k.toNat 0))) ∧ ae (Below wo.heap.size wo w'))
     case atStart =>
      refine ⟨0, none, 0, rfl, by omega, bQ, ⟨?_⟩, dW⟩
      rw [List.take_zero, List.map_nil]
      exact Kd.lS _ _ _ _ _
     case round =>
      clear dW ct bQ
      obtain ⟨i, Av, cv, rfl, hi, bQ, fO, dW⟩ := hrel
      obtain ⟨gi, rfl⟩ : ∃ gi, gi = gk := ⟨gk, rfl⟩
      have Oh := ae.mk hi
      cases gi with
      | zero =>
       have i1 : decide ((i : Int) < (r.f4.length : Int)) = false := decide_eq_false (by omega)
       have i2 : decide (i < r.f4.length) = false := decide_eq_false (by omega)
       obtain rfl : i = r.f4.length := by omega
       have QJ := k7 dW.out hxk.out
       have jS := (aj bQ.out 0).trans rfl
       have mn := (aj bQ.out 1).trans rfl
       have rk := (aj bQ.out 2).trans rfl
       have pJ := (aj bQ.out 3).trans rfl
       clear hi
       go_wp2
       go_still_tail 6, (by kernel_rfl)
       have HY := ae.mk (show nW wr.drew (fun k => k ≠ w3.heap.size) (⟨(rd ids r.f0), r.f2, r.f3, r.f4.map (fun k => ids.getD k.toNat 0)⟩ : gZ) (.agg #[.int .i64 (rd ids r.f0), .string r.f2, .slice Ag r.f3.length cg, .slice Av r.f4.length cv]) from ⟨Ag, cg, Av, cv, by rw [List.length_map], M3.out, Kd.ra (Kd.lJ SK.out (aT dW.out)) (fun k hk => Nat.ne_of_lt hk), by rw [List.length_map]; exact (Kd.b_ fO.out).2.1, by
        have h1 := fO.out
        rw [List.take_length] at h1
        have h2 := Kd.sc (Kd.cm (d5 := fun k => k ≠ w3.heap.size) (Kd.jY (Kd.jj h1)) (fun k hk => by have := hk.2.1; have := HM.out.map.lt; omega))
        rw [List.length_map]
        exact h2⟩)
       refine oe rfl _ _ _ rfl (ej.int Try.underlying3) Try.underlying52 rfl (HM.out.below (aT dW.out)).map id rfl _ (⟨(rd ids r.f0), r.f2, r.f3, r.f4.map (fun k => ids.getD k.toNat 0)⟩ : gZ) rfl HY.out ?_
       intro w5 jx fg
       have OF := ae.mk (o_.put jx fg)
       have pR := ae.mk (jc (vu nS.out nS.out.size (aT dW.out)) fg (Nat.le_refl _) (by have := nS.out.size; have := dW.out.size; exact Nat.le_trans ‹_› ‹_›))
       clear jx fg QJ jS mn rk pJ
       go_wp2
       go_roundg g
       case measure => omega
       case rel =>
        refine ⟨j + 1, by have := tQ.out; have := eV.out; exact congrArg (Value.int .i64) (show wrap64 ((j : Int) + 1) = ((j + 1 : Nat) : Int) from by unfold wrap64; omega), by have := HJ.out; omega, ⟨fun q hq => ?_⟩, ⟨?_⟩, pR⟩
        ·by_cases e : q = j
         ·rw [e, ← pZ.out]; exact DN.out
         ·exact GS.out q (by omega)
        ·have := OF.out
         rw [eX, ← pZ.out, ← HR.out, Ls.out]
         exact this
      | succ h =>
       have hil : i < r.f4.length := by omega
       have i1 : decide ((i : Int) < (r.f4.length : Int)) = true := decide_eq_true (by omega)
       have i2 : decide (i < r.f4.length) = true := decide_eq_true hil
       have i0 : (0 : Int) ≤ (i : Int) := by omega
       have i3 : (i : Int) < (r.f4.length : Int) := by omega
       obtain ⟨ak, ek, hkx⟩ := Kd.dB (Kd.pK (Kd.lJ W7.out dW.out)) (i : Int) i0 i3
       subst ek
       rw [Int.toNat_natCast] at hkx
       obtain ⟨kd, hkd⟩ : ∃ kd, kd = rd r.f4 (i : Int) := ⟨_, rfl⟩
       rw [← hkd] at hkx
       have Cr := ae.mk (hkd.trans (by unfold rd; rw [Int.toNat_natCast, List.getD_eq_getElem?_getD, List.getElem?_eq_getElem hil]; rfl) : kd = r.f4[i])
       have C8 := ae.mk (Rs.out.2 kd (by rw [Cr.out]; exact List.getElem_mem hil))
       have k0 : 0 ≤ kd := C8.out.1
       have k1 : kd < (ids.length : Int) := by have := C8.out.2; have := f9.out; omega
       have QD := ae.mk (d_ HB.out dW.out)
       obtain ⟨a9, e9, hidx⟩ := Kd.dB (Kd.aC HI.out QD.out) kd k0 k1
       injection e9 with e9
       subst e9
       obtain ⟨iv, hiv⟩ : ∃ iv, iv = rd ids kd := ⟨_, rfl⟩
       rw [← hiv] at hidx
       have Rx := ae.mk (hiv.trans (by unfold rd; rfl) : iv = ids.getD kd.toNat 0)
       have yb := ae.mk hil
       clear hkd hiv hi
       go_wp2
       have pJ := (aj bQ.out 3).trans rfl
       have xm := bN bQ.out 3
       have acO : (wr.alloc (Obj.cells #[.int .i64 iv] 3)).drew.cell? ⟨g10, 3, none⟩ = some (.slice Av i cv) := (aj (aU bQ.out _) 3).trans rfl
       have hidx2 : (wr.alloc (Obj.cells #[.int .i64 iv] 3)).drew.cell? (ai.add kd.toNat) = some (.int .i64 iv) := k7 (aQ (Below.refl _ _) _) hidx
       have EQ := ae.mk (Kd.BZ fO.out bQ.out (by decide) : some g10 ≠ (Value.slice Av i cv).ownBlock)
       have Rl := ae.mk (dW.out.size)
       have Nw := ae.mk (by rw [List.length_append, List.length_map, List.length_take, Nat.min_eq_left (Nat.le_of_lt hil)]; rfl : (((r.f4.take i).map (fun k => ids.getD k.toNat 0)) ++ [iv]).length = i + 1)
       clear hkx
       first | go_region_law (go_loud (refine Kd.JU (Kd.int .i64) (w0 := wo) (W := wr.drew) wo.heap.size rfl (.tmp 55) (.tmp 60) 26 3 (.int .i64 0) 8 rfl Try.underlying26 (by kernel_rfl) rfl (by decide) (by omega) (.slice Av i cv) ((r.f4.take i).map (fun k => ids.getD k.toNat 0)) iv [.int .i64 iv] (fun _ => True) (fun _ => False) rfl rfl rfl (fun _ h => h.elim) (fun _ _ => trivial) (Kd.jj fO.out) (aT dW.out) Rl.out (by rw [List.length_map, List.length_take]; have := Fd.out; omega) ?_; intro v9 w9 jO ma jh pC; obtain ⟨A9, c9, e9⟩ := Kd.bm jO; rw [Nw.out] at e9; subst e9; have wK := ae.mk jO; have sG := ae.mk ma; have tA := ae.mk (fe (w := wr.drew) bQ.out jh EQ.out); have T6 := (aj tA.out 3).trans rfl; have yy9 := bN tA.out 3; clear jO ma jh pC)) | fail
       all_goals
        go_wp2
        go_roundg h
        case measure => omega
        case rel =>
         refine ⟨i + 1, A9, c9, by have := Fd.out; have := yb.out; exact congrArg (Value.int .i64) (show wrap64 ((i : Int) + 1) = ((i + 1 : Nat) : Int) from by unfold wrap64; omega), by have := Oh.out; omega, ⟨ix tA.out 3 _ rfl⟩, ⟨?_⟩, ⟨ao sG.out o5.out⟩⟩
         have h1 := Kd.oF (p := ⟨g10, 3, none⟩) (Kd.xY wK.out tA.out (by decide)) (fun k hk => hk.2) (.slice A9 (i + 1) c9)
         have e : (r.f4.take (i + 1)).map (fun k => ids.getD k.toNat 0) = ((r.f4.take i).map (fun k => ids.getD k.toNat 0)) ++ [iv] := by
          rw [List.take_add_one, List.getElem?_eq_getElem yb.out, List.map_append, Rx.out, Cr.out]
          rfl
         rw [e]
         exact Kd.cm h1 (fun _ _ => trivial)
    ·have e4 : decide (0 ≤ r.f0) = false := decide_eq_false hp
     have e5 : decide (r.f0 ≥ 0) = false := decide_eq_false hp
     have Ls := ae.mk (by unfold eo; rw [if_pos (by omega)] : eo ids r = ⟨-1, r.f2, r.f3, r.f4.map (fun k => ids.getD k.toNat 0)⟩)
     clear hp
     go_wp2_with (first | ((with_reducible refine bz (N := 9) rfl ?_); refine bT ?hg (N := 9) ?hd (cs := #[.int .i64 0, .int .i64 0, .string (⟨#[]⟩ : ByteArray), .slice none 0 0, .slice none 0 0]) (t := 70) ?hr ?_; (case hd => rfl); (case hg => rfl); (case hr => first | (go_simp; done) | (go_simp; rfl)); intro g9 hg w4 av hb; have dW := ae.mk hb; have ct := ae.mk av; have Cg := ae.mk (by rw [hg]; exact Nat.le_refl _ : wr.heap.size ≤ g9); have nU := k7 hb hx; clear hx q0 q1 q2 q3 q4 av hb hg; have oc := (aj ct.out 0).trans rfl; have z91 := (aj ct.out 1).trans rfl; have n4 := (aj ct.out 2).trans rfl; have z93 := (aj ct.out 3).trans rfl; have nQ := (aj ct.out 4).trans rfl; have Dj := bN ct.out 0; have Fg := bN ct.out 1; have DJ := bN ct.out 2; have C0 := bN ct.out 3; have Cu := bN ct.out 4) | ((with_reducible refine PQ ct.out ?_); intro w5 hbk hg; clear oc z91 n4 z93 nQ Dj Fg DJ C0 Cu; have af := ae.mk (jc dW.out hg Cg.out dW.out.size); have ag := ae.mk hbk; have KP := k7 af.out hxk.out; clear dW ct nU hbk hg; have dW := af; have ct := ag; clear af ag; have oc := (aj ct.out 0).trans rfl; have z91 := (aj ct.out 1).trans rfl; have n4 := (aj ct.out 2).trans rfl; have z93 := (aj ct.out 3).trans rfl; have nQ := (aj ct.out 4).trans rfl) | ((with_reducible refine bz (N := 10) rfl ?_); refine bT ?hg (N := 10) ?hd (cs := #[.int .i64 0, .string (⟨#[]⟩ : ByteArray), .slice none 0 0, .slice none 0 0]) (t := 59) ?hr ?_; (case hd => rfl); (case hg => rfl); (case hr => first | (go_simp; done) | (go_simp; rfl)); intro g10 hg w6 av hb; have K0 := ae.mk (by have := em ct.out; omega : g9 ≠ g10); have o5 := ae.mk (by rw [hg]; exact dW.out.size : wr.heap.size ≤ g10); have af := ae.mk (d_ dW.out hb); have ag := ae.mk (di ct.out hb); have bQ := ae.mk av; clear oc z91 n4 z93 nQ; clear dW ct KP av hb hg; have dW := af; have ct := ag; clear af ag; have jS := (aj bQ.out 0).trans rfl; have mn := (aj bQ.out 1).trans rfl; have rk := (aj bQ.out 2).trans rfl; have pJ := (aj bQ.out 3).trans rfl; have qB := bN bQ.out 0; have tJ := bN bQ.out 1; have DK := bN bQ.out 2; have xm := bN bQ.out 3) | ((with_reducible refine sw bQ.out ?_); intro w7 hbk hg; clear jS mn rk pJ qB tJ DK xm; have af := ae.mk (jc dW.out hg o5.out dW.out.size); have ag := ae.mk (fe ct.out hg (fun e => K0.out (by injection e))); have ah := ae.mk hbk; clear dW ct bQ hbk hg; have dW := af; have ct := ag; have bQ := ah; clear af ag ah; have oc := (aj ct.out 0).trans rfl; have z91 := (aj ct.out 1).trans rfl; have n4 := (aj ct.out 2).trans rfl; have z93 := (aj ct.out 3).trans rfl; have nQ := (aj ct.out 4).trans rfl; have jS := (aj bQ.out 0).trans rfl; have qB := bN bQ.out 0))
     obtain ⟨wo, rfl⟩ : ∃ wo : World, wo = wr := ⟨_, rfl⟩
     have qn := ae.mk (by rw [HR.out, List.getD_eq_getElem?_getD, List.getElem?_eq_getElem eV.out]; exact List.getElem_mem _ : r ∈ rows)
     have Fd := ae.mk (V3.out r qn.out : r.f4.length ≤ 1000000)
     clear oc z91 n4 z93 nQ
     go_loopg [50] r.f4.length (fun hk Ck w' => ∃ (i : Nat) (Av : Option Addr) (cv : Nat), Ck = .int .i64 i ∧ i + hk = r.f4.length ∧ ae (w'.heap[g10]? = some (.cells #[.int .i64 (-1), .string r.f2, .slice Ag r.f3.length cg, .slice Av i cv] 59 (0, 0))) ∧ ae ((Kd.int .i64).R 3 w' wo.heap.size (fun _ => True) (.slice Av i cv) ((r.f4.take i).map (fun k => ids.getD k.toNat 0))) ∧ ae (Below wo.heap.size wo w'))
     case atStart =>
      refine ⟨0, none, 0, rfl, by omega, bQ, ⟨?_⟩, dW⟩
      rw [List.take_zero, List.map_nil]
      exact Kd.lS _ _ _ _ _
     case round =>
      clear dW ct bQ
      obtain ⟨i, Av, cv, rfl, hi, bQ, fO, dW⟩ := hrel
      obtain ⟨gi, rfl⟩ : ∃ gi, gi = gk := ⟨gk, rfl⟩
      have Oh := ae.mk hi
      cases gi with
      | zero =>
       have i1 : decide ((i : Int) < (r.f4.length : Int)) = false := decide_eq_false (by omega)
       have i2 : decide (i < r.f4.length) = false := decide_eq_false (by omega)
       obtain rfl : i = r.f4.length := by omega
       have QJ := k7 dW.out hxk.out
       have jS := (aj bQ.out 0).trans rfl
       have mn := (aj bQ.out 1).trans rfl
       have rk := (aj bQ.out 2).trans rfl
       have pJ := (aj bQ.out 3).trans rfl
       clear hi
       go_wp2
       go_still_tail 6, (by kernel_rfl)
       have HY := ae.mk (show nW wr.drew (fun k => k ≠ w3.heap.size) (⟨(-1), r.f2, r.f3, r.f4.map (fun k => ids.getD k.toNat 0)⟩ : gZ) (.agg #[.int .i64 (-1), .string r.f2, .slice Ag r.f3.length cg, .slice Av r.f4.length cv]) from ⟨Ag, cg, Av, cv, by rw [List.length_map], M3.out, Kd.ra (Kd.lJ SK.out (aT dW.out)) (fun k hk => Nat.ne_of_lt hk), by rw [List.length_map]; exact (Kd.b_ fO.out).2.1, by
        have h1 := fO.out
        rw [List.take_length] at h1
        have h2 := Kd.sc (Kd.cm (d5 := fun k => k ≠ w3.heap.size) (Kd.jY (Kd.jj h1)) (fun k hk => by have := hk.2.1; have := HM.out.map.lt; omega))
        rw [List.length_map]
        exact h2⟩)
       refine oe rfl _ _ _ rfl (ej.int Try.underlying3) Try.underlying52 rfl (HM.out.below (aT dW.out)).map id rfl _ (⟨(-1), r.f2, r.f3, r.f4.map (fun k => ids.getD k.toNat 0)⟩ : gZ) rfl HY.out ?_
       intro w5 jx fg
       have OF := ae.mk (o_.put jx fg)
       have pR := ae.mk (jc (vu nS.out nS.out.size (aT dW.out)) fg (Nat.le_refl _) (by have := nS.out.size; have := dW.out.size; exact Nat.le_trans ‹_› ‹_›))
       clear jx fg QJ jS mn rk pJ
       go_wp2
       go_roundg g
       case measure => omega
       case rel =>
        refine ⟨j + 1, by have := tQ.out; have := eV.out; exact congrArg (Value.int .i64) (show wrap64 ((j : Int) + 1) = ((j + 1 : Nat) : Int) from by unfold wrap64; omega), by have := HJ.out; omega, ⟨fun q hq => ?_⟩, ⟨?_⟩, pR⟩
        ·by_cases e : q = j
         ·rw [e, ← pZ.out]; exact DN.out
         ·exact GS.out q (by omega)
        ·have := OF.out
         rw [eX, ← pZ.out, ← HR.out, Ls.out]
         exact this
      | succ h =>
       have hil : i < r.f4.length := by omega
       have i1 : decide ((i : Int) < (r.f4.length : Int)) = true := decide_eq_true (by omega)
       have i2 : decide (i < r.f4.length) = true := decide_eq_true hil
       have i0 : (0 : Int) ≤ (i : Int) := by omega
       have i3 : (i : Int) < (r.f4.length : Int) := by omega
       obtain ⟨ak, ek, hkx⟩ := Kd.dB (Kd.pK (Kd.lJ W7.out dW.out)) (i : Int) i0 i3
       subst ek
       rw [Int.toNat_natCast] at hkx
       obtain ⟨kd, hkd⟩ : ∃ kd, kd = rd r.f4 (i : Int) := ⟨_, rfl⟩
       rw [← hkd] at hkx
       have Cr := ae.mk (hkd.trans (by unfold rd; rw [Int.toNat_natCast, List.getD_eq_getElem?_getD, List.getElem?_eq_getElem hil]; rfl) : kd = r.f4[i])
       have C8 := ae.mk (Rs.out.2 kd (by rw [Cr.out]; exact List.getElem_mem hil))
       have k0 : 0 ≤ kd := C8.out.1
       have k1 : kd < (ids.length : Int) := by have := C8.out.2; have := f9.out; omega
       have QD := ae.mk (d_ HB.out dW.out)
       obtain ⟨a9, e9, hidx⟩ := Kd.dB (Kd.aC HI.out QD.out) kd k0 k1
       injection e9 with e9
       subst e9
       obtain ⟨iv, hiv⟩ : ∃ iv, iv = rd ids kd := ⟨_, rfl⟩
       rw [← hiv] at hidx
       have Rx := ae.mk (hiv.trans (by unfold rd; rfl) : iv = ids.getD kd.toNat 0)
       have yb := ae.mk hil
       clear hkd hiv hi
       go_wp2
       have pJ := (aj bQ.out 3).trans rfl
       have xm := bN bQ.out 3
       have acO : (wr.alloc (Obj.cells #[.int .i64 iv] 3)).drew.cell? ⟨g10, 3, none⟩ = some (.slice Av i cv) := (aj (aU bQ.out _) 3).trans rfl
       have hidx2 : (wr.alloc (Obj.cells #[.int .i64 iv] 3)).drew.cell? (ai.add kd.toNat) = some (.int .i64 iv) := k7 (aQ (Below.refl _ _) _) hidx
       have EQ := ae.mk (Kd.BZ fO.out bQ.out (by decide) : some g10 ≠ (Value.slice Av i cv).ownBlock)
       have Rl := ae.mk (dW.out.size)
       have Nw := ae.mk (by rw [List.length_append, List.length_map, List.length_take, Nat.min_eq_left (Nat.le_of_lt hil)]; rfl : (((r.f4.take i).map (fun k => ids.getD k.toNat 0)) ++ [iv]).length = i + 1)
       clear hkx
       first | go_region_law (go_loud (refine Kd.JU (Kd.int .i64) (w0 := wo) (W := wr.drew) wo.heap.size rfl (.tmp 55) (.tmp 60) 26 3 (.int .i64 0) 8 rfl Try.underlying26 (by kernel_rfl) rfl (by decide) (by omega) (.slice Av i cv) ((r.f4.take i).map (fun k => ids.getD k.toNat 0)) iv [.int .i64 iv] (fun _ => True) (fun _ => False) rfl rfl rfl (fun _ h => h.elim) (fun _ _ => trivial) (Kd.jj fO.out) (aT dW.out) Rl.out (by rw [List.length_map, List.length_take]; have := Fd.out; omega) ?_; intro v9 w9 jO ma jh pC; obtain ⟨A9, c9, e9⟩ := Kd.bm jO; rw [Nw.out] at e9; subst e9; have wK := ae.mk jO; have sG := ae.mk ma; have tA := ae.mk (fe (w := wr.drew) bQ.out jh EQ.out); have T6 := (aj tA.out 3).trans rfl; have yy9 := bN tA.out 3; clear jO ma jh pC)) | fail
       all_goals
        go_wp2
        go_roundg h
        case measure => omega
        case rel =>
         refine ⟨i + 1, A9, c9, by have := Fd.out; have := yb.out; exact congrArg (Value.int .i64) (show wrap64 ((i : Int) + 1) = ((i + 1 : Nat) : Int) from by unfold wrap64; omega), by have := Oh.out; omega, ⟨ix tA.out 3 _ rfl⟩, ⟨?_⟩, ⟨ao sG.out o5.out⟩⟩
         have h1 := Kd.oF (p := ⟨g10, 3, none⟩) (Kd.xY wK.out tA.out (by decide)) (fun k hk => hk.2) (.slice A9 (i + 1) c9)
         have e : (r.f4.take (i + 1)).map (fun k => ids.getD k.toNat 0) = ((r.f4.take i).map (fun k => ids.getD k.toNat 0)) ++ [iv] := by
          rw [List.take_add_one, List.getElem?_eq_getElem yb.out, List.map_append, Rx.out, Cr.out]
          rfl
         rw [e]
         exact Kd.cm h1 (fun _ _ => trivial)
def jb (x y : List (Int × gZ)) (id : Int) : List aw :=
 match cK x id, cK y id with
 | none, none => [⟨id, 1⟩, ⟨id, 2⟩]
 | none, some _ => [⟨id, 1⟩]
 | some _, none => [⟨id, 2⟩]
 | some a, some b => (if a.par = b.par then [] else [⟨id, 3⟩]) ++ ((if a.txt = b.txt then [] else [⟨id, 4⟩]) ++ ((if a.gaps = b.gaps then [] else [⟨id, 5⟩]) ++ (if a.kids = b.kids then [] else [⟨id, 6⟩])))
def lA (x y : List (Int × gZ)) (l : List Int) : List aw := l.flatMap (jb x y)
theorem af8 (x y : List (Int × gZ)) (id : Int) : (jb x y id).length ≤ 4 := by
 unfold jb
 split
 ·simp
 ·simp
 ·simp
 ·simp only [List.length_append]
  have h : ∀ (p : Prop) [Decidable p] (z : aw), (if p then [] else [z] : List aw).length ≤ 1 := by
   intro p _ z
   split <;> simp
  have h1 := fun p [Decidable p] z => h p z
  rename_i a b _ _
  have a1 := h (a.par = b.par) ⟨id, 3⟩
  have a2 := h (a.txt = b.txt) ⟨id, 4⟩
  have a3 := h (a.gaps = b.gaps) ⟨id, 5⟩
  have a4 := h (a.kids = b.kids) ⟨id, 6⟩
  omega
theorem PL (x y : List (Int × gZ)) (l : List Int) : (lA x y l).length ≤ 4 * l.length := by
 induction l with
 | nil => simp [lA]
 | cons a l ih =>
  have := af8 x y a
  simp only [lA, List.flatMap_cons, List.length_append, List.length_cons] at ih ⊢
  omega
theorem TX {κ β : Type} [DecidableEq κ] (k : κ) (v : β) : ∀ (l : List (κ × β)) (p : κ × β), p ∈ fG l k v → p = (k, v) ∨ p ∈ l
 | [], p, h => .inl (by simpa [fG] using h)
 | q :: l, p, h => by
  rw [fG] at h
  split at h
  ·rcases List.mem_cons.1 h with h | h
   ·exact .inl h
   ·exact .inr (List.mem_cons_of_mem _ h)
  ·rcases List.mem_cons.1 h with h | h
   ·exact .inr (by rw [h]; simp)
   ·rcases TX k v l p h with h | h
    ·exact .inl h
    ·exact .inr (List.mem_cons_of_mem _ h)
theorem TL {κ β : Type} [DecidableEq κ] {k : κ} {v : β} : ∀ {l : List (κ × β)}, cK l k = some v → (k, v) ∈ l
 | [], h => by simp [cK] at h
 | q :: l, h => by
  rw [cK] at h
  split at h
  ·rename_i e
   obtain rfl := Option.some.inj h
   rw [e]; simp
  ·exact List.mem_cons_of_mem _ (TL h)
theorem Un (rows : List bC) (ids : List Int) : ∀ (n : Nat) (p : Int × gZ), p ∈ eX rows ids n → ∃ i, i < n ∧ p = (ids.getD i 0, eo ids (rows.getD i z70))
 | 0, p, h => by simp [eX] at h
 | n + 1, p, h => by
  rw [eX] at h
  rcases TX _ _ _ p h with h | h
  ·exact ⟨n, by omega, h⟩
  ·obtain ⟨i, h1, h2⟩ := Un rows ids n p h
   exact ⟨i, by omega, h2⟩
def XI (f : gZ) : Prop := f.gaps.length ≤ 1000000 ∧ f.kids.length ≤ 1000000
theorem ah7 (x : aX) : ∀ (p : Int) (n : Nat) (r : bC), r ∈ bk x p n → ∃ y ∈ fz x, r.f3 = y.f2 := by
 induction x using s9 with
 | h x ih =>
 intro p n r hr
 have key : ∀ (l : List aX), (∀ y ∈ l, y ∈ x.f3) → ∀ n m, r ∈ ed l n m → ∃ y ∈ cz l, r.f3 = y.f2 := by
  intro l
  induction l with
  | nil => intro _ n m h; simp [ed] at h
  | cons y l ihl =>
   intro hl n m h
   rw [ed, List.mem_append] at h
   rw [cz]
   rcases h with h | h
   ·obtain ⟨z, h1, h2⟩ := ih y (hl y (by simp)) (n : Int) m r h
    exact ⟨z, List.mem_append_left _ h1, h2⟩
   ·obtain ⟨z, h1, h2⟩ := ihl (fun z hz => hl z (by simp [hz])) n (m + (fz y).length) h
    exact ⟨z, List.mem_append_right _ h1, h2⟩
 rw [vC, List.mem_cons] at hr
 rw [l5]
 rcases hr with rfl | hr
 ·exact ⟨x, by simp, rfl⟩
 ·obtain ⟨z, h1, h2⟩ := key x.f3 (fun _ h => h) n (n + 1) hr
  exact ⟨z, List.mem_cons_of_mem _ h1, h2⟩
theorem Ut (x : aX) (hok : j7 x = true) (r : bC) (hr : r ∈ bk x (-1) 0) : r.f3.length ≤ 1000000 := by
 obtain ⟨y, h1, h2⟩ := ah7 x (-1) 0 r hr
 unfold j7 at hok
 simp only [Bool.and_eq_true, decide_eq_true_eq, List.all_eq_true] at hok
 rw [h2]
 exact hok.2 y h1
theorem WJ (x : aX) (hok : j7 x = true) (ids : List Int) (id : Int) (f : gZ) (h : cK (eX (bk x (-1) 0) ids ids.length) id = some f) : XI f := by
 obtain ⟨i, _, h2⟩ := Un _ _ _ _ (TL h)
 obtain rfl := (Prod.mk.inj h2).2
 unfold XI eo
 by_cases hi : i < (bk x (-1) 0).length
 ·have hm : (bk x (-1) 0).getD i z70 ∈ bk x (-1) 0 := by
   rw [List.getD_eq_getElem?_getD, List.getElem?_eq_getElem hi]
   exact List.getElem_mem _
  refine ⟨Ut x hok _ hm, ?_⟩
  simp only [List.length_map]
  exact Pw x hok _ hm
 ·rw [List.getD_eq_getElem?_getD, List.getElem?_eq_none (by omega)]
  exact ⟨by simp [z70], by simp [z70]⟩
set_option maxHeartbeats 4000000 in
set_option maxRecDepth 100000 in
theorem acp (n : Nat) (w : World) (hn : n ≤ 1000000) :
  Calls Try.prog 50 #[.slice none 0 0, .int .i64 (n : Int)] w fun e w' => ∃ A c, e = .returned (.slice A 0 c) ∧ Kd.R (Kd.int .i64) 3 w' w.heap.size (fun _ => True) (.slice A 0 c) [] ∧ Below w.heap.size w w' := by
 have h0 : decide ((n : Int) < 0) = false := decide_eq_false (by omega)
 have HB := ae.mk (Below.refl w.heap.size w)
 have HN := ae.mk hn
 by_cases c : n = 0
 ·subst c
  go_enter Try.func50, Try.ntmps50
  go_wp2
  go_ret
  exact ⟨none, 0, rfl, Kd.lS _ _ _ _ _, Below.refl _ _⟩
 ·have h1 : decide ((0 : Int) < (n : Int)) = true := decide_eq_true (by omega)
  have h2 : decide ((n : Int) > 0) = true := decide_eq_true (by omega)
  have h3 : decide (0 < n) = true := decide_eq_true (by omega)
  have h4 : (0 : Int) ≤ (n : Int) := by omega
  have h5 : (n : Int) ≤ 1000000 := by omega
  clear c
  go_enter Try.func50, Try.ntmps50
  go_wp2_with (first | ((with_reducible refine gP (b := .append) (xs := #[.tmp 20, .tmp 21]) rfl ?_); at_builtin; go_loud (refine Kd.ajQ (Kd.int .i64) (w0 := w) w.heap.size rfl (.tmp 20) (.tmp 21) 26 3 3 (.int .i64 0) 8 rfl Try.underlying26 Try.underlying3 (by kernel_rfl) rfl (by decide) (by omega) (.slice none 0 0) [] (0 : Int) (n : Int) (fun _ => True) rfl rfl rfl (fun _ _ => trivial) (Kd.lS _ _ _ _ _) h4 HB.out (Nat.le_refl _) (by have := HN.out; simp only [List.length_nil, Int.toNat_natCast]; omega) ?_; intro v1 w1 dg hb1 tr uk; obtain ⟨A1, c1, rfl⟩ := Kd.bm dg; have HO1 := ae.mk dg; have jr := ae.mk hb1; have hc1 := (Kd.b_ dg).2.1; simp only [List.nil_append, List.length_replicate, Int.toNat_natCast] at hc1 ⊢; clear dg hb1 tr uk)))
  all_goals (go_ret; exact ⟨A1, c1, rfl, by have := Kd.Wr HO1.out (m := 0) (by omega); rw [List.take_zero] at this; exact this, jr.out⟩)
theorem TI (xss : List (List Int)) (j : Nat) (h : j < xss.length) : (xss.take (j + 1)).flatten = (xss.take j).flatten ++ xss[j] := by
 rw [List.take_add_one, List.getElem?_eq_getElem h, List.flatten_append]
 simp
theorem U1 (xss : List (List Int)) (j : Nat) : (xss.take j).flatten.length ≤ xss.flatten.length := by
 have := congrArg (fun z => z.flatten.length) (List.take_append_drop j xss)
 simp only [List.flatten_append, List.length_append] at this
 omega
set_option maxHeartbeats 4000000 in
set_option maxRecDepth 100000 in
theorem ajm (xss : List (List Int)) (A : Option Addr) (c : Nat) (w : World) (h : Kd.C (Kd.slice 3 (Kd.int .i64)) w A xss.length xss) (hc : xss.length ≤ c) (hs : xss.flatten.length ≤ 1000000) :
  Calls Try.prog 24 #[.slice A xss.length c] w fun e w' => ∃ v, e = .returned v ∧ Kd.R (Kd.int .i64) 3 w' w.heap.size (fun _ => True) v xss.flatten ∧ Below w.heap.size w w' := by
 have H := ae.mk h
 have HC := ae.mk hc
 have HS := ae.mk hs
 have SQ := ae.mk (by have := (Kd.Wo h); exact this : xss.length ≤ 9223372036854775807)
 have HB := ae.mk (Below.refl w.heap.size w)
 clear h hc hs
 go_enter Try.func24, Try.ntmps24
 go_wp2
 go_loopg [3, 11] xss.length (fun gk v3 v11 w' => ∃ (j s : Nat), v11 = .int .i64 j ∧ v3 = .int .i64 s ∧ j + gk = xss.length ∧ ae (s = (xss.take j).flatten.length) ∧ w' = w)
 case atStart => exact ⟨0, 0, rfl, rfl, by omega, ⟨by simp⟩, rfl⟩
 case round =>
  obtain ⟨j, s, rfl, rfl, hj, HE, rfl⟩ := hrel
  obtain ⟨go, rfl⟩ : ∃ go, go = gk := ⟨gk, rfl⟩
  have HJ := ae.mk hj
  cases go with
  | succ g =>
   have hjl : j < xss.length := by omega
   have eV := ae.mk hjl
   have g1 : decide ((j : Int) < (xss.length : Int)) = true := decide_eq_true (by omega)
   have g2 : decide (j < xss.length) = true := decide_eq_true hjl
   have p0 : (0 : Int) ≤ (j : Int) := by omega
   have p1 : (j : Int) < (xss.length : Int) := by omega
   obtain ⟨ad, A0, c0, eA, hx, m0, G0⟩ := Yr H.out (j : Int) p0 p1
   obtain ⟨y, hy⟩ : ∃ y, y = ux xss (j : Int) := ⟨_, rfl⟩
   rw [Int.toNat_natCast] at hx
   rw [← hy] at hx m0 G0
   have HY := ae.mk (hy.trans (by unfold ux; rw [Int.toNat_natCast, List.getD_eq_getElem?_getD, List.getElem?_eq_getElem eV.out]; rfl) : y = xss[j]'eV.out)
   subst eA
   have HF := ae.mk (by rw [TI xss j eV.out, List.length_append, HE.out, HY.out] : (xss.take (j + 1)).flatten.length = s + y.length)
   have Ud : s + y.length ≤ 1000000 := by have := HF.out; have := U1 xss (j + 1); have := HS.out; omega
   have s1 : (s : Int) + (y.length : Int) ≤ 1000000 := by omega
   have s0 : (0 : Int) ≤ (s : Int) + (y.length : Int) := by omega
   have s2 : decide ((s : Int) + (y.length : Int) < 0) = false := decide_eq_false (by omega)
   have Pd := ae.mk Ud
   clear hy m0 G0 hj hjl Ud
   go_wp2
   all_goals
    go_roundg g
    case measure => omega
    case rel => exact ⟨j + 1, s + y.length, by have := SQ.out; have := eV.out; exact congrArg (Value.int .i64) (show wrap64 ((j : Int) + 1) = ((j + 1 : Nat) : Int) from by unfold wrap64; omega), by first | rfl | (rw [Int.natCast_add]), by have := HJ.out; omega, ⟨HF.out.symm⟩, rfl⟩
  | zero =>
   have g1 : decide ((j : Int) < (xss.length : Int)) = false := decide_eq_false (by omega)
   have g2 : decide (j < xss.length) = false := decide_eq_false (by omega)
   obtain rfl : j = xss.length := by omega
   have HSL := ae.mk (by rw [HE.out, List.take_length]; exact HS.out : s ≤ 1000000)
   clear hj
   go_wp2_with (go_at_call 50; go_loud ((with_reducible refine (acp s _ HSL.out).mono ?_); rintro e w1 ⟨A1, c1, rfl, ho, hb⟩; have HO := ae.mk ho; have jr := ae.mk hb; clear ho hb))
   have Lb := ae.mk (by omega : xss.length - 0 = xss.length)
   obtain ⟨wo, rfl⟩ : ∃ wo : World, wo = wr := ⟨_, rfl⟩
   go_loopg [6, 27] xss.length (fun gk v6 v27 w' => ∃ (j : Nat) (Av : Option Addr) (cv : Nat), v27 = .int .i64 j ∧ v6 = .slice Av (xss.take j).flatten.length cv ∧ j + gk = xss.length ∧ ae (Kd.R (Kd.int .i64) 3 w' wo.heap.size (fun _ => True) (.slice Av (xss.take j).flatten.length cv) (xss.take j).flatten) ∧ ae (Below wo.heap.size wo w'))
   case atStart => exact ⟨0, A1, c1, rfl, by simp, by omega, ⟨by simpa using HO.out⟩, jr⟩
   case round =>
    clear HO jr
    obtain ⟨j, Av, cv, rfl, rfl, hj, HO, jr⟩ := hrel
    obtain ⟨go, rfl⟩ : ∃ go, go = gk := ⟨gk, rfl⟩
    have HJ := ae.mk hj
    cases go with
    | succ g =>
     have hjl : j < xss.length := by omega
     have eV := ae.mk hjl
     have g1 : decide ((j : Int) < (xss.length : Int)) = true := decide_eq_true (by omega)
     have g2 : decide (j < xss.length) = true := decide_eq_true hjl
     have p0 : (0 : Int) ≤ (j : Int) := by omega
     have p1 : (j : Int) < (xss.length : Int) := by omega
     obtain ⟨ad, A0, c0, eA, hx, m0, G0⟩ := Yr (Kd.aC H.out jr.out) (j : Int) p0 p1
     obtain ⟨y, hy⟩ : ∃ y, y = ux xss (j : Int) := ⟨_, rfl⟩
     rw [Int.toNat_natCast] at hx
     rw [← hy] at hx m0 G0
     have HY := ae.mk (hy.trans (by unfold ux; rw [Int.toNat_natCast, List.getD_eq_getElem?_getD, List.getElem?_eq_getElem eV.out]; rfl) : y = xss[j]'eV.out)
     subst eA
     have HF := ae.mk (by rw [TI xss j eV.out, HY.out] : (xss.take (j + 1)).flatten = (xss.take j).flatten ++ y)
     have Pd := ae.mk (by have := congrArg List.length HF.out; rw [List.length_append] at this; have := U1 xss (j + 1); have := HS.out; omega : (xss.take j).flatten.length + y.length ≤ 1000000)
     have Rh := ae.mk G0
     obtain ⟨F, hF⟩ : ∃ F, F = (xss.take j).flatten := ⟨_, rfl⟩
     rw [← hF] at HO Pd HF
     rw [← hF]
     clear hy m0 G0 hj hjl hF
     go_wp2_with (first | ((with_reducible refine gP (b := .append) (xs := #[.tmp 31, .tmp 32]) rfl ?_); at_builtin; go_loud (refine Kd.aaZ (Value.int .i64) 0 (h1 := fun _ => rfl) (w0 := wo) wo.heap.size rfl (.tmp 31) (.tmp 32) 26 3 (.int .i64 0) 8 rfl Try.underlying26 (by kernel_rfl) rfl (by omega) (.slice Av F.length cv) F y A0 y.length c0 (fun _ => True) rfl rfl (fun _ _ => trivial) HO.out Rh.out jr.out jr.out.size (by have := Pd.out; omega) ?_; intro v9 w9 jO ma jh pC; obtain ⟨A9, c9, rfl⟩ := Kd.bm jO; have wK := ae.mk jO; have sG := ae.mk ma; clear jO ma jh pC)))
     go_roundg g
     case measure => omega
     case rel => exact ⟨j + 1, A9, c9, by have := SQ.out; have := eV.out; exact congrArg (Value.int .i64) (show wrap64 ((j : Int) + 1) = ((j + 1 : Nat) : Int) from by unfold wrap64; omega), by rw [HF.out, List.length_append], by have := HJ.out; omega, ⟨by rw [HF.out]; exact wK.out⟩, sG⟩
    | zero =>
     have g1 : decide ((j : Int) < (xss.length : Int)) = false := decide_eq_false (by omega)
     have g2 : decide (j < xss.length) = false := decide_eq_false (by omega)
     obtain rfl : j = xss.length := by omega
     have Mb := HO.out
     rw [List.take_length] at Mb
     have HO3 := ae.mk Mb
     clear hj Mb
     go_wp2
     go_ret
     exact ⟨_, rfl, by rw [List.take_length]; exact HO3.out, jr.out⟩
theorem Xp {α : Type} [Inhabited α] {enc : α → Value} {w : World} {g : Nat} {cur : Array Value} {e : TypeId} {ss : List α} (hb : w.heap[g]? = some (.cells cur e (0, 0))) (ht : cur.toList.take ss.length = ss.map enc) : Sort.Holds enc w g 0 ss.toArray := by
 intro j hj
 have hj' : j < ss.length := by simpa using hj
 refine ⟨?_, by simp [World.frozen?, hb]⟩
 have h1 : (cur.toList.take ss.length)[j]? = (ss.map enc)[j]? := by rw [ht]
 rw [List.getElem?_take_of_lt hj'] at h1
 simp only [World.cell?, hb, Nat.zero_add]
 simp only [Option.isSome_none, Bool.false_eq_true, if_false]
 rw [← Array.getElem?_toList, h1]
 simp [hj']
theorem St {α : Type} [Inhabited α] {enc : α → Value} {w : World} {g n : Nat} {os : Array Obj} {cur : Array Value} {e : TypeId} {fr : Nat × Nat} (d : Array α) (hb : w.heap[g]? = some (.cells cur e fr)) :
  (Sort.grow (Sort.putRow enc (Sort.ahead w n) g 0 d) os).heap[g]? = some (.cells (Sort.putCells enc 0 d cur) e fr) := by
 have hg : g < w.heap.size := (Array.getElem?_eq_some_iff.1 hb).1
 rw [Sort.heap_grow_old _ _ (by simpa using hg)]
 simp [Sort.putRow, Sort.mapBlock, Sort.ahead, Array.getElem?_modify, hb, Sort.onCells]
theorem Sw {α : Type} [Inhabited α] {enc : α → Value} {w : World} {g n : Nat} {os : Array Obj} (d : Array α) : w.grownBy (Sort.grow (Sort.putRow enc (Sort.ahead w n) g 0 d) os) (some g) := by
 refine ⟨rfl, rfl, rfl, by simp, fun k hk hne => ?_⟩
 rw [Sort.heap_grow_old _ _ (by simpa using hk)]
 have : g ≠ k := fun e => hne (by rw [e])
 simp [Sort.putRow, Sort.mapBlock, Sort.ahead, Array.getElem?_modify, this]
theorem V4 {α : Type} [Inhabited α] {enc : α → Value} (cur : Array Value) (ts : List α) (h : ts.length ≤ cur.size) : (Sort.putCells enc 0 ts.toArray cur).toList.take ts.length = ts.map enc := by
 apply List.ext_getElem?
 intro j
 by_cases hj : j < ts.length
 ·rw [List.getElem?_take_of_lt hj, Array.getElem?_toList]
  simp [Sort.putCells, hj, show j < cur.size by omega]
 ·rw [List.getElem?_take_eq_none (by omega), List.getElem?_eq_none (by simp; omega)]
def i_ (l : List Int) : List Int := l.mergeSort fun x y => decide (x ≤ y)
theorem Ee (l : List Int) : (i_ l).length = l.length := List.length_mergeSort l
theorem afl (base : Nat) (ok : Nat → Prop) (v : Value) (xs : List Int) (w : World) (h : Kd.R (Kd.int .i64) 3 w base ok v xs) (hs : xs.length < 4611686018427387904) :
  Calls Try.prog 25 #[v] w fun e w' => e = .returned (.tuple #[]) ∧ Kd.R (Kd.int .i64) 3 w' base ok v (i_ xs) ∧ w.grownBy w' v.ownBlock := by
 have ho := Kd.CK h
 rcases ho.2 with ⟨rfl, hn⟩ | ⟨g, cap, cur, rfl, hbase, hb, h1, h2, h3, h4⟩
 ·have hx : xs = [] := by simpa [ff] using hn
  subst hx
  refine (Go.Proofs.Try.slices_Sort_int_none none 0 w).mono ?_
  rintro e w' ⟨rfl, rfl⟩
  exact ⟨rfl, by simpa [i_] using h, ⟨rfl, rfl, rfl, Nat.le_refl _, fun _ _ _ => rfl⟩⟩
 ·refine (Go.Proofs.Try.slices_Sort_int g 0 cap xs w (Xp hb (by simpa [ff] using h4)) (Array.getElem?_eq_some_iff.1 hb).1 hs).mono ?_
  rintro e w' ⟨rfl, n, os, rfl⟩
  refine ⟨rfl, ?_, Sw _⟩
  have hl := Ee xs
  refine Kd.Cp ?_ h.1
  rw [hl]
  exact ⟨by simp [ff, hl], .inr ⟨g, cap, _, rfl, hbase, St _ hb, h1, h2, by simp [Sort.putCells, h3], by
   rw [Nat.mul_one, ← hl]
   exact V4 cur (i_ xs) (by omega)⟩⟩
theorem Ze (base : Nat) (ok : Nat → Prop) (v : Value) (xs : List Int) (w : World) (h : Kd.R (Kd.int .i64) 3 w base ok v xs) (hs : xs.length ≤ 9223372036854775807) (hle : (Lib.compact xs).length ≤ xs.length) :
  Calls Try.prog 26 #[v] w fun e w' => ∃ v', e = .returned v' ∧ Kd.R (Kd.int .i64) 3 w' base ok v' (Lib.compact xs) ∧ w.grownBy w' v.ownBlock := by
 have ho := Kd.CK h
 rcases ho.2 with ⟨rfl, hn⟩ | ⟨g, cap, cur, rfl, hbase, hb, h1, h2, h3, h4⟩
 ·have hx : xs = [] := by simpa [ff] using hn
  subst hx
  refine (Go.Proofs.Try.slices_Compact_int_empty none 0 w).mono ?_
  rintro e w' ⟨rfl, rfl⟩
  have e1 : Lib.compact ([] : List Int) = [] := List.eq_nil_of_length_eq_zero (by simpa using hle)
  exact ⟨_, rfl, by rw [e1]; exact h, ⟨rfl, rfl, rfl, Nat.le_refl _, fun _ _ _ => rfl⟩⟩
 ·refine (Go.Proofs.Try.slices_Compact_int g 0 cap xs w (Xp hb (by simpa [ff] using h4)) hs (by omega)).mono ?_
  rintro e w' ⟨rfl, n, hw⟩
  have hl : (Lib.compact xs ++ List.replicate (xs.length - (Lib.compact xs).length) (0 : Int)).length = xs.length := by simp; omega
  rw [← Sort.grow_empty (Sort.putRow _ _ _ _ _)] at hw
  subst hw
  refine ⟨_, rfl, ?_, Sw _⟩
  have hR : Kd.R (Kd.int .i64) 3 (Sort.grow (Sort.putRow (Value.int .i64) (Sort.ahead w n) g 0 (Lib.compact xs ++ List.replicate (xs.length - (Lib.compact xs).length) (0 : Int)).toArray) #[]) base ok (.slice (some ⟨g, 0, none⟩) xs.length cap) (Lib.compact xs ++ List.replicate (xs.length - (Lib.compact xs).length) (0 : Int)) := by
   refine Kd.Cp ?_ h.1
   rw [hl]
   exact ⟨by simp only [ff, List.length_map, hl, Nat.mul_one], .inr ⟨g, cap, _, rfl, hbase, St _ hb, h1, h2, by simp [Sort.putCells, h3], by
    rw [Nat.mul_one]
    have key : ∀ ts : List Int, ts.length = xs.length → (Sort.putCells (Value.int .i64) 0 ts.toArray cur).toList.take xs.length = ts.map (Value.int .i64) := fun ts h => by rw [← h]; exact V4 cur ts (by omega)
    exact key _ hl⟩⟩
  have hT := Kd.Wr (m := (Lib.compact xs).length) hR (by rw [List.length_append]; omega)
  rw [List.take_append_of_le_length (Nat.le_refl _), List.take_length] at hT
  exact hT
theorem adG (d : Array Int) (hs : ∀ i j, i ≤ j → j < d.size → d[i]! ≤ d[j]!) : ∀ m, m ≤ d.size → (Lib.compactUpTo d m).Pairwise (· < ·) ∧ (∀ a ∈ Lib.compactUpTo d m, 0 < m ∧ a ≤ d[m - 1]!) ∧ (∀ j, j < m → d[j]! ∈ Lib.compactUpTo d m) ∧ (∀ a ∈ Lib.compactUpTo d m, ∃ j, j < m ∧ a = d[j]!) ∧ (Lib.compactUpTo d m).length ≤ m := by
 intro m
 induction m with
 | zero => intro _; simp [Lib.compactUpTo]
 | succ m ih =>
  intro hm
  obtain ⟨h1, h2, h3, h4, h5⟩ := ih (by omega)
  rw [Lib.compactUpTo_succ]
  by_cases hk : Lib.keeps d m = true
  ·rw [if_pos hk]
   have hlt : ∀ a ∈ Lib.compactUpTo d m, a < d[m]! := by
    intro a ha
    obtain ⟨p, q⟩ := h2 a ha
    have r := hs (m - 1) m (by omega) (by omega)
    have hne : d[m]! ≠ d[m - 1]! := by
     unfold Lib.keeps at hk
     rcases of_decide_eq_true hk with e | e
     ·omega
     ·exact e
    omega
   refine ⟨?_, ?_, ?_, ?_, by simp; omega⟩
   ·rw [List.pairwise_append]
    exact ⟨h1, by simp, fun a ha b hb => by rw [List.mem_singleton.1 hb]; exact hlt a ha⟩
   ·intro a ha
    refine ⟨by omega, ?_⟩
    rw [Nat.add_sub_cancel]
    rcases List.mem_append.1 ha with ha | ha
    ·exact Int.le_of_lt (hlt a ha)
    ·rw [List.mem_singleton.1 ha]; exact Int.le_refl _
   ·intro j hj
    rw [List.mem_append]
    by_cases e : j = m
    ·right; rw [e]; simp
    ·left; exact h3 j (by omega)
   ·intro a ha
    rcases List.mem_append.1 ha with ha | ha
    ·obtain ⟨j, p, q⟩ := h4 a ha
     exact ⟨j, by omega, q⟩
    ·exact ⟨m, by omega, List.mem_singleton.1 ha⟩
  ·rw [if_neg hk, List.append_nil]
   have hk2 : ¬ (m = 0 ∨ d[m]! ≠ d[m - 1]!) := by
    intro h
    exact hk (by unfold Lib.keeps; exact decide_eq_true h)
   have hm0 : 0 < m := by omega
   have he : d[m]! = d[m - 1]! := by
    rcases Int.lt_trichotomy d[m]! d[m - 1]! with h | h | h
    ·exact absurd (Or.inr (Int.ne_of_lt h)) hk2
    ·exact h
    ·exact absurd (Or.inr (Int.ne_of_gt h)) hk2
   refine ⟨h1, fun a ha => ⟨by omega, by rw [Nat.add_sub_cancel, he]; exact (h2 a ha).2⟩, fun j hj => ?_, fun a ha => ?_, by omega⟩
   ·by_cases e : j = m
    ·rw [e, he]; exact h3 (m - 1) (by omega)
    ·exact h3 j (by omega)
   ·obtain ⟨j, p, q⟩ := h4 a ha
    exact ⟨j, by omega, q⟩
def xG (l : List Int) : List Int := Lib.compact (i_ l)
theorem Kg (l : List Int) : (xG l).Pairwise (· < ·) ∧ (∀ a, a ∈ xG l ↔ a ∈ l) ∧ (xG l).length ≤ l.length := by
 have hp : (i_ l).Pairwise (fun a b => decide (a ≤ b) = true) := List.pairwise_mergeSort (fun a b c h1 h2 => by simp at *; omega) (fun a b => by simp; omega) l
 have hs : ∀ i j, i ≤ j → j < (i_ l).toArray.size → (i_ l).toArray[i]! ≤ (i_ l).toArray[j]! := by
  intro i j hij hj
  simp only [List.size_toArray] at hj
  rcases Nat.lt_or_eq_of_le hij with h | h
  ·have := (List.pairwise_iff_getElem.1 hp) i j (by omega) hj h
   simpa [getElem!_pos, show i < (i_ l).length by omega, hj] using this
  ·rw [h]; exact Int.le_refl _
 obtain ⟨h1, _, h3, h4, h5⟩ := adG (i_ l).toArray hs (i_ l).length (by simp)
 have hm : ∀ a, a ∈ i_ l ↔ a ∈ l := fun a => (List.mergeSort_perm l _).mem_iff
 refine ⟨h1, fun a => ⟨fun ha => ?_, fun ha => ?_⟩, Nat.le_trans h5 (Nat.le_of_eq (Ee l))⟩
 ·obtain ⟨j, p, q⟩ := h4 a ha
  rw [← hm, q]
  simp [getElem!_pos, p]
 ·rw [← hm] at ha
  obtain ⟨j, hj, e⟩ := List.getElem_of_mem ha
  have := h3 j hj
  rw [← e]
  show (i_ l)[j] ∈ Lib.compactUpTo (i_ l).toArray (i_ l).length
  simpa [getElem!_pos, hj] using this
set_option maxHeartbeats 4000000 in
set_option maxRecDepth 100000 in
theorem ab1 (f : Int) (d : Bool) (bo bi : Nat) (id : Int) (A : Option Addr) (c : Nat) (xs : List aw) (base : Nat) (w0 w : World) (hb0 : Below base w0 w) (hs : base ≤ w.heap.size) (WL : base ≤ bo) (hO : w.heap[bo]? = some (.cells #[.slice A xs.length c] 31 (0, 0))) (hI : w.heap[bi]? = some (.cells #[.int .i64 id] 3 (0, 0))) (hR : Kd.R dT 48 w base (fun _ => True) (.slice A xs.length c) xs) (hl : xs.length ≤ 10000000) :
  Calls Try.prog 27 #[.int .i64 f, .bool d, .pointer (some ⟨bo, 0, none⟩), .pointer (some ⟨bi, 0, none⟩)] w fun e w' => e = .returned (.tuple #[]) ∧ ∃ A' c', w'.heap[bo]? = some (.cells #[.slice A' (if d then xs ++ [⟨id, f⟩] else xs).length c'] 31 (0, 0)) ∧ Kd.R dT 48 w' base (fun _ => True) (.slice A' (if d then xs ++ [⟨id, f⟩] else xs).length c') (if d then xs ++ [⟨id, f⟩] else xs) ∧ Below base w0 w' ∧ Kept w w' (fun k => k = bo ∨ some k = (Value.slice A xs.length c).ownBlock) := by
 have HB := ae.mk hb0
 have HS := ae.mk hs
 have HO := ae.mk hO
 have HI := ae.mk hI
 have HR := ae.mk hR
 have HL := ae.mk hl
 have HBO := ae.mk WL
 have z0 := (aj hO 0).trans rfl
 have y0 := bN hO 0
 have z1 := (aj hI 0).trans rfl
 have oE := ae.mk (Kd.BZ hR hO (by decide) : some bo ≠ (Value.slice A xs.length c).ownBlock)
 clear hb0 hO hI hR hl WL hs
 cases d with
 | false =>
  go_enter Try.func27, Try.ntmps27
  go_wp2
  go_end0
  exact ⟨rfl, A, c, HO.out, HR.out, HB.out, Kept.refl _ _⟩
 | true =>
  go_enter Try.func27, Try.ntmps27
  go_wp2_with (first | ((with_reducible refine gP (b := .append) (xs := #[.tmp 7, .tmp 11]) rfl ?_); at_builtin; go_loud (refine Kd.ia dT (w0 := w0) base rfl (.tmp 7) (.tmp 11) 31 48 (.agg #[(.int .i64 0), (.int .i64 0)]) 16 rfl Try.underlying31 (by kernel_rfl) rfl (by decide) (by omega) (.slice A xs.length c) xs ⟨id, f⟩ [.int .i64 id, .int .i64 f] (fun _ => True) (fun _ => False) rfl rfl ?aP (fun _ h => h.elim) (fun _ _ => trivial) HR.out HB.out HS.out (by have := HL.out; omega) ?_; (case aP => exact i5 _ _ _ ⟨id, f⟩); intro v9 w9 jO ma jh pC; obtain ⟨A9, c9, rfl⟩ := Kd.bm jO; have wK := ae.mk jO; have sG := ae.mk ma; have HG9 := ae.mk jh; have J3 := ae.mk (fe HO.out jh oE.out); have z9 := (aj J3.out 0).trans rfl; have y9 := bN J3.out 0; clear jO ma jh pC z0 y0 z1)))
  all_goals
   go_end0
   have h1 := Kd.oF (p := ⟨bo, 0, none⟩) (Kd.xY wK.out J3.out (by decide)) (fun k hk => hk.2) (.slice A9 (xs ++ [(⟨id, f⟩ : aw)]).length c9)
   have e : (xs ++ [(⟨id, f⟩ : aw)]).length = xs.length + 1 := by simp
   rw [e] at h1
   refine ⟨rfl, A9, c9, ix J3.out 0 _ rfl, ?_, sG.out.setCell HBO.out _, Kept.setCell (Kept.kB HG9.out (Kept.refl w _) (fun k e => .inl (.inr e.symm))) (.inl (.inl rfl)) _⟩
   exact Kd.cm h1 (fun _ _ => trivial)
theorem toList_inj {a b : ByteArray} : a.toList = b.toList ↔ a = b := by
 rw [ByteArray.toList_eq, ByteArray.toList_eq]
 exact ⟨fun h => ByteArray.ext (Array.ext' h), fun h => by rw [h]⟩
theorem Ta {i : Nat} (h : i ≤ 1000000000) : wrap64 ((i : Int) + 1) = ((i + 1 : Nat) : Int) := by unfold wrap64; omega
theorem ahN (a b : List ByteArray) (hab : a.length = b.length) (ha : a.length ≤ 1000000) : ∀ (d i : Nat), i + d = a.length → ∀ k, d < k → jv.l0 k a b (a.length : Int) (i : Int) = some (decide (a.drop i = b.drop i)) := by
 intro d
 induction d with
 | zero =>
  intro i hi k hk
  obtain ⟨k, rfl⟩ : ∃ m, k = m + 1 := ⟨k - 1, by omega⟩
  rw [jv.l0, if_neg (by omega), List.drop_of_length_le (by omega), List.drop_of_length_le (by omega)]
  rfl
 | succ d ih =>
  intro i hi k hk
  obtain ⟨k, rfl⟩ : ∃ m, k = m + 1 := ⟨k - 1, by omega⟩
  have h1 : i < a.length := by omega
  have h2 : i < b.length := by omega
  have e1 : eY ByteArray.empty a (i : Int) = a[i] := by simp [eY, List.getD_eq_getElem?_getD, List.getElem?_eq_getElem h1]
  have e2 : eY ByteArray.empty b (i : Int) = b[i] := by simp [eY, List.getD_eq_getElem?_getD, List.getElem?_eq_getElem h2]
  rw [jv.l0, if_pos (by omega), if_pos (by omega), if_pos (by omega), if_pos (by omega), e1, e2, List.drop_eq_getElem_cons h1, List.drop_eq_getElem_cons h2]
  by_cases h : a[i] = b[i]
  ·rw [if_pos (toList_inj.2 h), Ta (by omega), ih (i + 1) (by omega) k (by omega), h]
   exact congrArg some (decide_eq_decide.2 ⟨fun e => by rw [e], fun e => (List.cons.inj e).2⟩)
  ·rw [if_neg (fun e => h (toList_inj.1 e))]
   exact congrArg some (decide_eq_false (fun e => h (List.cons.inj e).1)).symm
theorem aaL (a b : List ByteArray) (ha : a.length ≤ 1000000) : jv.f (a.length + 1) a b = some (decide (a = b)) := by
 unfold jv.f
 by_cases h : a.length = b.length
 ·rw [if_pos (by omega)]
  have := ahN a b h ha a.length 0 (by omega) (a.length + 1) (by omega)
  simpa using this
 ·rw [if_neg (by omega), decide_eq_false (fun e => h (by rw [e]))]
theorem ae_ (a b : List Int) (hab : a.length = b.length) (ha : a.length ≤ 1000000) : ∀ (d i : Nat), i + d = a.length → ∀ k, d < k → jE.l0 k a b (a.length : Int) (i : Int) = some (decide (a.drop i = b.drop i)) := by
 intro d
 induction d with
 | zero =>
  intro i hi k hk
  obtain ⟨k, rfl⟩ : ∃ m, k = m + 1 := ⟨k - 1, by omega⟩
  rw [jE.l0, if_neg (by omega), List.drop_of_length_le (by omega), List.drop_of_length_le (by omega)]
  rfl
 | succ d ih =>
  intro i hi k hk
  obtain ⟨k, rfl⟩ : ∃ m, k = m + 1 := ⟨k - 1, by omega⟩
  have h1 : i < a.length := by omega
  have h2 : i < b.length := by omega
  have e1 : rd a (i : Int) = a[i] := by simp [rd, List.getD_eq_getElem?_getD, List.getElem?_eq_getElem h1]
  have e2 : rd b (i : Int) = b[i] := by simp [rd, List.getD_eq_getElem?_getD, List.getElem?_eq_getElem h2]
  rw [jE.l0, if_pos (by omega), if_pos (by omega), if_pos (by omega), if_pos (by omega), e1, e2, List.drop_eq_getElem_cons h1, List.drop_eq_getElem_cons h2]
  by_cases h : a[i] = b[i]
  ·rw [if_pos h, Ta (by omega), ih (i + 1) (by omega) k (by omega), h]
   exact congrArg some (decide_eq_decide.2 ⟨fun e => by rw [e], fun e => (List.cons.inj e).2⟩)
  ·rw [if_neg h]
   exact congrArg some (decide_eq_false (fun e => h (List.cons.inj e).1)).symm
theorem adV (a b : List Int) (ha : a.length ≤ 1000000) : jE.f (a.length + 1) a b = some (decide (a = b)) := by
 unfold jE.f
 by_cases h : a.length = b.length
 ·rw [if_pos (by omega)]
  have := ae_ a b h ha a.length 0 (by omega) (a.length + 1) (by omega)
  simpa using this
 ·rw [if_neg (by omega), decide_eq_false (fun e => h (by rw [e]))]
theorem SS {w w' : World} (h : bL w w') : Below w.heap.size w w' := by
 obtain ⟨n, rfl⟩ := h.out
 exact aY (Below.refl _ _) n
theorem ai1 (A0 : Option Addr) (c0 : Nat) (l0 : List ByteArray) (A1 : Option Addr) (c1 : Nat) (l1 : List ByteArray) (w : World) (hr0 : Kd.C Kd.string w A0 l0.length l0) (hc0 : l0.length ≤ c0) (hr1 : Kd.C Kd.string w A1 l1.length l1) (hc1 : l1.length ≤ c1) (hl : l0.length ≤ 1000000) :
  Calls Try.prog 28 #[.slice A0 l0.length c0, .slice A1 l1.length c1] w fun e w' => e = .returned (.bool (decide (l0 = l1))) ∧ Below w.heap.size w w' :=
 (jv.calls (l0.length + 1) A0 c0 l0 A1 c1 l1 _ w hr0 hc0 hr1 hc1 (aaL l0 l1 hl)).mono fun _ _ h => ⟨h.1, SS h.2⟩
theorem afQ (A0 : Option Addr) (c0 : Nat) (l0 : List Int) (A1 : Option Addr) (c1 : Nat) (l1 : List Int) (w : World) (hr0 : Kd.C (Kd.int .i64) w A0 l0.length l0) (hc0 : l0.length ≤ c0) (hr1 : Kd.C (Kd.int .i64) w A1 l1.length l1) (hc1 : l1.length ≤ c1) (hl : l0.length ≤ 1000000) :
  Calls Try.prog 29 #[.slice A0 l0.length c0, .slice A1 l1.length c1] w fun e w' => e = .returned (.bool (decide (l0 = l1))) ∧ Below w.heap.size w w' :=
 (jE.calls (l0.length + 1) A0 c0 l0 A1 c1 l1 _ w hr0 hc0 hr1 hc1 (adV l0 l1 hl)).mono fun _ _ h => ⟨h.1, SS h.2⟩
theorem adl (b o : List Int) (Ab Ao : Option Addr) (cb co g : Nat) (T : Nat) (w : World) (hb : Kd.C (Kd.int .i64) w Ab b.length b) (lb : b.length ≤ cb) (ho : Kd.C (Kd.int .i64) w Ao o.length o) (lo : o.length ≤ co) (h : w.heap[g]? = some (.cells #[.slice Ab b.length cb, .slice Ao o.length co] T (0, 0))) :
  Kd.C (Kd.slice 3 (Kd.int .i64)) w (some ⟨g, 0, none⟩) [b, o].length [b, o] := by
 refine ⟨rfl, by simp, fun _ => ⟨⟨g, 0, none⟩, rfl, fun j p hp => ?_⟩⟩
 match j, hp with
 | 0, hp =>
  obtain rfl := Option.some.inj hp
  refine ⟨[.slice Ab b.length cb], rfl, ⟨Ab, cb, rfl, lb, hb⟩, fun i u hu => ?_⟩
  match i, hu with
  | 0, hu => obtain rfl := Option.some.inj hu; exact (aj h 0).trans rfl
  | i + 1, hu => simp at hu
 | 1, hp =>
  obtain rfl := Option.some.inj hp
  refine ⟨[.slice Ao o.length co], rfl, ⟨Ao, co, rfl, lo, ho⟩, fun i u hu => ?_⟩
  match i, hu with
  | 0, hu => obtain rfl := Option.some.inj hu; exact (aj h 1).trans rfl
  | i + 1, hu => simp at hu
 | j + 2, hp => simp at hp
structure RS (w8 : World) (B g15 : Nat) (L : List aw) (A : Option Addr) (c : Nat) (W : World) : Prop where
 hb : Below B w8 W
 hs : B ≤ W.heap.size
 ho : W.heap[g15]? = some (.cells #[.slice A L.length c] 31 (0, 0))
 hr : Kd.R dT 48 W B (fun _ => True) (.slice A L.length c) L
theorem RS.below {w8 W W' : World} {B g15 c : Nat} {L : List aw} {A : Option Addr} (h : RS w8 B g15 L A c W) (hb : Below W.heap.size W W') : RS w8 B g15 L A c W' :=
 ⟨vu h.hb h.hs hb, Nat.le_trans h.hs hb.size, di h.ho hb, Kd.p_ h.hr hb⟩
theorem RS.own {w8 W W' : World} {B g15 c g t : Nat} {cs : Array Value} {L : List aw} {A : Option Addr} (h : RS w8 B g15 L A c W) (hg : W.grownBy W' (some g)) (hgB : B ≤ g) (hne : g15 ≠ g) (hc : W.heap[g]? = some (.cells cs t (0, 0))) (ht : ∀ q, q ∈ 48 :: dT.E → q ≠ t) : RS w8 B g15 L A c W' :=
 ⟨jc h.hb hg hgB h.hs, Nat.le_trans h.hs hg.size, fe h.ho hg (fun e => hne (by injection e)), Kd.cm (Kd.uE (Kd.xY h.hr hc ht) hg (fun k hk e => hk.2 (by injection e))) (fun _ _ => trivial)⟩
theorem Iv (f : Int) (d : Bool) {w8 W : World} {B g15 c : Nat} {L : List aw} {A : Option Addr} (g17 : Nat) (id : Int) (h : RS w8 B g15 L A c W) (hB : B ≤ g15) (hI : W.heap[g17]? = some (.cells #[.int .i64 id] 3 (0, 0))) (hl : L.length ≤ 10000000) :
  Calls Try.prog 27 #[.int .i64 f, .bool d, .pointer (some ⟨g15, 0, none⟩), .pointer (some ⟨g17, 0, none⟩)] W fun e w' => e = .returned (.tuple #[]) ∧ ∃ A' c', RS w8 B g15 (if d then L ++ [⟨id, f⟩] else L) A' c' w' ∧ (∀ k cs t, t ≠ 48 → k ≠ g15 → W.heap[k]? = some (.cells cs t (0, 0)) → w'.heap[k]? = some (.cells cs t (0, 0))) :=
 (ab1 f d g15 g17 id A c L B w8 W h.hb h.hs hB h.ho hI h.hr hl).mono fun e w' ⟨h1, A', c', h2, h3, h4, h5⟩ => ⟨h1, A', c', ⟨h4, Nat.le_trans h.hs h5.1, h2, h3⟩, fun k cs t ht hk hb => gL hb h5 (fun hS => by
  rcases hS with rfl | hS
  ·exact hk rfl
  ·exact Kd.BZ h.hr hb (fun e => ht e.symm) hS)⟩
theorem aeg {x : aw} {d : Bool} {l : List aw} {n : Nat} (h : l.length ≤ n) : (if d then l ++ [x] else l).length ≤ n + 1 := by
 split
 ·rw [List.length_append]; simp; omega
 ·omega
theorem abB (Mx My : List (Int × gZ)) (l : List Int) (j : Nat) (h : j < l.length) : lA Mx My (l.take (j + 1)) = lA Mx My (l.take j) ++ jb Mx My l[j] := by
 unfold lA
 rw [List.take_add_one, List.getElem?_eq_getElem h, List.flatMap_append]
 simp
theorem o_.old {w W : World} {b : Nat} {m : List (Int × gZ)} (h : o_ w b m) (hb : Below w.heap.size w W) : dd ld (nW W (fun k => k < w.heap.size)) W b m := by
 refine dd.mono (dd.below h.map hb) (fun x v hv => ?_)
 obtain ⟨A2, c2, A3, c3, h1, h2, h3, h4, h5⟩ := hv
 exact nW.step ⟨A2, c2, A3, c3, h1, h2, Kd.ra (Kd.Pz h3) (fun k hk => hk.2), h4, Kd.ra (Kd.Pz h5) (fun k hk => hk.2)⟩ (fun k hk _ => hb.block k hk)
theorem RS.len {w8 W : World} {B g15 c : Nat} {L : List aw} {A : Option Addr} {x : aw} {d : Bool} {n : Nat} (_ : RS w8 B g15 (if d then L ++ [x] else L) A c W) (h : L.length ≤ n) : (if d then L ++ [x] else L).length ≤ n + 1 := aeg h
theorem RS.cast {w8 W : World} {B g15 c : Nat} {L L' : List aw} {A : Option Addr} (e : L = L') (h : RS w8 B g15 L A c W) : RS w8 B g15 L' A c W := e ▸ h
def kK (a : Int) : List Int → List Int
 | [] => [a]
 | b :: l => if a < b then a :: b :: l else if a = b then b :: l else b :: kK a l
def mh : List Int → List Int
 | [] => []
 | a :: l => kK a (mh l)
theorem JY (a x : Int) : ∀ l : List Int, x ∈ kK a l ↔ x = a ∨ x ∈ l
 | [] => by simp [kK]
 | b :: l => by
  rw [kK]
  split
  ·simp
  ·split
   ·rename_i h; subst h; simp
   ·rw [List.mem_cons, JY a x l, List.mem_cons]
    constructor
    ·rintro (h | h | h)
     ·exact .inr (.inl h)
     ·exact .inl h
     ·exact .inr (.inr h)
    ·rintro (h | h | h)
     ·exact .inr (.inl h)
     ·exact .inl h
     ·exact .inr (.inr h)
theorem PP (a : Int) : ∀ l : List Int, l.Pairwise (· < ·) → (kK a l).Pairwise (· < ·)
 | [], _ => by simp [kK]
 | b :: l, h => by
  have hc := List.pairwise_cons.1 h
  rw [kK]
  split
  ·rename_i hab
   exact List.pairwise_cons.2 ⟨fun x hx => by rcases List.mem_cons.1 hx with rfl | hx; exact hab; have := hc.1 x hx; omega, h⟩
  ·split
   ·exact h
   ·rename_i h1 h2
    refine List.pairwise_cons.2 ⟨fun x hx => ?_, PP a l hc.2⟩
    rcases (JY a x l).1 hx with rfl | hx
    ·omega
    ·exact hc.1 x hx
theorem zc (x : Int) : ∀ l : List Int, x ∈ mh l ↔ x ∈ l
 | [] => by simp [mh]
 | a :: l => by rw [mh, JY, zc x l, List.mem_cons]
theorem AZ : ∀ l : List Int, (mh l).Pairwise (· < ·)
 | [] => by simp [mh]
 | a :: l => by rw [mh]; exact PP a _ (AZ l)
theorem Kb {l m : List Int} (hl : l.Pairwise (· < ·)) (hm : m.Pairwise (· < ·)) (h : ∀ x, x ∈ l ↔ x ∈ m) : l = m := by
 have nl : l.Nodup := hl.imp (fun h e => by subst e; exact absurd h (Int.lt_irrefl _))
 have nm : m.Nodup := hm.imp (fun h e => by subst e; exact absurd h (Int.lt_irrefl _))
 exact ((List.perm_ext_iff_of_nodup nl nm).2 h).eq_of_pairwise (le := (· < ·)) (fun a b _ _ h1 h2 => absurd h1 (Int.lt_asymm h2)) hl hm
theorem abW (l : List Int) : xG l = mh l := Kb (Kg l).1 (AZ l) (fun x => by rw [(Kg l).2.1, zc])
theorem Zo {l : List Int} (hn : l.Nodup) : i_ l = mh l := by
 have hp : (i_ l).Pairwise (fun a b => decide (a ≤ b) = true) := List.pairwise_mergeSort (fun a b c h1 h2 => by simp at *; omega) (fun a b => by simp; omega) l
 have n2 : (i_ l).Nodup := (List.mergeSort_perm l _).nodup_iff.2 hn
 refine Kb ((hp.and n2).imp (fun h => ?_)) (AZ l) (fun x => by rw [zc]; exact (List.mergeSort_perm l _).mem_iff)
 have h1 := of_decide_eq_true h.1
 have h2 := h.2
 omega
set_option maxHeartbeats 16000000 in
set_option maxRecDepth 100000 in
theorem agT (x y : aX) (b o : List Int) (lC : Option Addr) (ln : Nat) (lu : Option Addr) (lE : Nat) (np : Option Addr) (m8 : Nat) (m5 : Option Addr) (mV : Nat) (Ab : Option Addr) (cb : Nat) (Ao : Option Addr) (co : Nat) (w : World)
  (hx2 : Kd.C Kd.string w lC x.f2.length x.f2) (vJ : x.f2.length ≤ ln) (kE : Kd.C k25 w lu x.f3.length x.f3) (vL : x.f3.length ≤ lE) (hy2 : Kd.C Kd.string w np y.f2.length y.f2) (Ey : y.f2.length ≤ m8) (hy3 : Kd.C k25 w m5 y.f3.length y.f3) (FP : y.f3.length ≤ mV)
  (hb : Kd.C (Kd.int .i64) w Ab b.length b) (lb : b.length ≤ cb) (ho : Kd.C (Kd.int .i64) w Ao o.length o) (lo : o.length ≤ co) (tC : j7 x = true) (Bm : j7 y = true) (nb : b.length ≤ 400000) (no : o.length ≤ 400000) :
  Calls Try.prog 10 #[.agg #[.int .i64 x.f0, .string x.f1, .slice lC x.f2.length ln, .slice lu x.f3.length lE], .agg #[.int .i64 y.f0, .string y.f1, .slice np y.f2.length m8, .slice m5 y.f3.length mV], .slice Ab b.length cb, .slice Ao o.length co] w fun e w' => ∃ (v : Value) (r : List aw), e = .returned (.tuple #[v, .int .i64 (if (k5 (bk x (-1) 0) b && k5 (bk y (-1) 0) o) = true then 0 else 15)]) ∧ r = (if (k5 (bk x (-1) 0) b && k5 (bk y (-1) 0) o) = true then lA (eX (bk x (-1) 0) b b.length) (eX (bk y (-1) 0) o o.length) (xG (b ++ o)) else []) ∧ Kd.R dT 48 w' w.heap.size (fun _ => True) v r ∧ Below w.heap.size w w' := by
 obtain ⟨fx, hfx⟩ : ∃ fx, fx = k5 (bk x (-1) 0) b := ⟨_, rfl⟩
 obtain ⟨fy, QK⟩ : ∃ fy, fy = k5 (bk y (-1) 0) o := ⟨_, rfl⟩
 obtain ⟨Mx, Km⟩ : ∃ Mx, Mx = eX (bk x (-1) 0) b b.length := ⟨_, rfl⟩
 obtain ⟨My, JK⟩ : ∃ My, My = eX (bk y (-1) 0) o o.length := ⟨_, rfl⟩
 have MW := ae.mk (fun (W : World) (hW : Below w.heap.size w W) => by
  have h := VC x b lC ln lu lE Ab cb W (Kd.aC hx2 hW) vJ (Kd.aC kE hW) vL (Kd.aC hb hW) lb tC
  rw [← hfx, ← Km] at h
  exact h)
 have QZ := ae.mk (fun (W : World) (hW : Below w.heap.size w W) => by
  have h := VC y o np m8 m5 mV Ao co W (Kd.aC hy2 hW) Ey (Kd.aC hy3 hW) FP (Kd.aC ho hW) lo Bm
  rw [← QK, ← JK] at h
  exact h)
 have VJ := ae.mk (fun id f (h : cK Mx id = some f) => WJ x tC b id f (by rw [← Km]; exact h))
 have HFY := ae.mk (fun id f (h : cK My id = some f) => WJ y Bm o id f (by rw [← JK]; exact h))
 have Gb := ae.mk (fun (W : World) (hW : Below w.heap.size w W) => show Calls Try.prog 24 #[.slice (some ⟨W.heap.size, 0, none⟩) 2 2] (W.alloc (.cells #[.slice Ab b.length cb, .slice Ao o.length co] 26)) (fun e w' => ∃ v, e = .returned v ∧ Kd.R (Kd.int .i64) 3 w' W.heap.size (fun _ => True) v (b ++ o) ∧ Below W.heap.size W w') from
  (ajm [b, o] _ 2 _ (adl b o Ab Ao cb co W.heap.size 26 _ (Kd.dH (Kd.aC hb hW) _) lb (Kd.dH (Kd.aC ho hW) _) lo (WV W _)) (Nat.le_refl _) (by simp; omega)).mono fun e w' ⟨v, h1, h2, h3⟩ => ⟨v, h1, by have h4 := Kd.eB (base' := W.heap.size) h2 (by simp); simpa using h4, d_ (aQ (Below.refl _ _) _) h3⟩)
 have ab0 := ae.mk (by rw [List.length_append]; omega : (b ++ o).length < 4611686018427387904)
 have aa9 := ae.mk (by rw [Ee, List.length_append]; omega : (i_ (b ++ o)).length ≤ 9223372036854775807)
 have acF := ae.mk (by have h := (Kg (b ++ o)).2.2; rw [Ee]; exact h : (Lib.compact (i_ (b ++ o))).length ≤ (i_ (b ++ o)).length)
 have HLI := ae.mk (by have h := (Kg (b ++ o)).2.2; rw [List.length_append] at h; omega : (xG (b ++ o)).length ≤ 800000)
 have HW := ae.mk (Below.refl w.heap.size w)
 rw [← hfx, ← QK, ← Km, ← JK]
 clear hx2 vJ kE vL hy2 Ey hy3 FP hb lb ho lo tC Bm nb no hfx QK Km JK
 have hnn : ((fx && fy) = true) = (fx = true ∧ fy = true) := by simp
 clear hnn
 cases fx
 ·go_enter Try.func10, Try.ntmps10
  go_wp2_with (first | ((with_reducible refine bz (N := 4) rfl ?_); refine bT ?hg (N := 4) ?hd (cs := #[.int .i64 x.f0, .string x.f1, .slice lC x.f2.length ln, .slice lu x.f3.length lE]) (t := 25) ?hr ?_; (case hd => rfl); (case hg => rfl); (case hr => first | (go_simp; done) | (go_simp; rfl)); intro g4 hg w1 av hb; have jr := ae.mk hb; have aN := ae.mk av; clear av hb hg; have z40 := (aj aN.out 0).trans rfl; have z41 := (aj aN.out 1).trans rfl; have ga := (aj aN.out 2).trans rfl; have eK := (aj aN.out 3).trans rfl) | ((with_reducible refine bz (N := 5) rfl ?_); refine bT ?hg (N := 5) ?hd (cs := #[.int .i64 y.f0, .string y.f1, .slice np y.f2.length m8, .slice m5 y.f3.length mV]) (t := 25) ?hr ?_; (case hd => rfl); (case hg => rfl); (case hr => first | (go_simp; done) | (go_simp; rfl)); intro g5 hg w2 av hb; have nZ := ae.mk (d_ jr.out hb); have pf := ae.mk (di aN.out hb); have bH := ae.mk av; clear av hb hg; clear z40 z41 ga eK; have z40 := (aj pf.out 0).trans rfl; have z41 := (aj pf.out 1).trans rfl; have ga := (aj pf.out 2).trans rfl; have eK := (aj pf.out 3).trans rfl) | (go_at_call 23; go_loud ((with_reducible refine (MW.out _ nZ.out).mono ?_); rintro e w3 ⟨mx, rfl, hb3, kE⟩; have gp := ae.mk (d_ nZ.out hb3); have RR := ae.mk kE; have nh := ae.mk (di bH.out hb3); clear z40 z41 ga eK; clear hb3 kE; have gO := (aj nh.out 0).trans rfl; have z51 := (aj nh.out 1).trans rfl; have gV := (aj nh.out 2).trans rfl; have z53 := (aj nh.out 3).trans rfl)) | (go_at_call 23; go_loud ((with_reducible refine (QZ.out _ gp.out).mono ?_); rintro e w4 ⟨my, rfl, hb4, nU⟩; have nI := ae.mk (d_ gp.out hb4); have Y6 := ae.mk hb4; have L4 := ae.mk nU; clear gO z51 gV z53; clear hb4 nU)))
  all_goals
   go_ret2
   exact ⟨.slice none 0 0, rfl, Kd.lS _ _ _ _ _, nI.out⟩
 cases fy
 ·go_enter Try.func10, Try.ntmps10
  go_wp2_with (first | ((with_reducible refine bz (N := 4) rfl ?_); refine bT ?hg (N := 4) ?hd (cs := #[.int .i64 x.f0, .string x.f1, .slice lC x.f2.length ln, .slice lu x.f3.length lE]) (t := 25) ?hr ?_; (case hd => rfl); (case hg => rfl); (case hr => first | (go_simp; done) | (go_simp; rfl)); intro g4 hg w1 av hb; have jr := ae.mk hb; have aN := ae.mk av; clear av hb hg; have z40 := (aj aN.out 0).trans rfl; have z41 := (aj aN.out 1).trans rfl; have ga := (aj aN.out 2).trans rfl; have eK := (aj aN.out 3).trans rfl) | ((with_reducible refine bz (N := 5) rfl ?_); refine bT ?hg (N := 5) ?hd (cs := #[.int .i64 y.f0, .string y.f1, .slice np y.f2.length m8, .slice m5 y.f3.length mV]) (t := 25) ?hr ?_; (case hd => rfl); (case hg => rfl); (case hr => first | (go_simp; done) | (go_simp; rfl)); intro g5 hg w2 av hb; have nZ := ae.mk (d_ jr.out hb); have pf := ae.mk (di aN.out hb); have bH := ae.mk av; clear av hb hg; clear z40 z41 ga eK; have z40 := (aj pf.out 0).trans rfl; have z41 := (aj pf.out 1).trans rfl; have ga := (aj pf.out 2).trans rfl; have eK := (aj pf.out 3).trans rfl) | (go_at_call 23; go_loud ((with_reducible refine (MW.out _ nZ.out).mono ?_); rintro e w3 ⟨mx, rfl, hb3, kE⟩; have gp := ae.mk (d_ nZ.out hb3); obtain ⟨bx, rfl, qK, CS⟩ := kE (by first | trivial | rfl); have RR := ae.mk CS; have nh := ae.mk (di bH.out hb3); clear z40 z41 ga eK; clear hb3 CS qK kE; have gO := (aj nh.out 0).trans rfl; have z51 := (aj nh.out 1).trans rfl; have gV := (aj nh.out 2).trans rfl; have z53 := (aj nh.out 3).trans rfl)) | (go_at_call 23; go_loud ((with_reducible refine (QZ.out _ gp.out).mono ?_); rintro e w4 ⟨my, rfl, hb4, nU⟩; have nI := ae.mk (d_ gp.out hb4); have Y6 := ae.mk hb4; have L4 := ae.mk nU; clear gO z51 gV z53; clear hb4 nU)))
  all_goals
   go_ret2
   exact ⟨.slice none 0 0, rfl, Kd.lS _ _ _ _ _, nI.out⟩
 go_enter Try.func10, Try.ntmps10
 go_wp2_with (first | ((with_reducible refine bz (N := 4) rfl ?_); refine bT ?hg (N := 4) ?hd (cs := #[.int .i64 x.f0, .string x.f1, .slice lC x.f2.length ln, .slice lu x.f3.length lE]) (t := 25) ?hr ?_; (case hd => rfl); (case hg => rfl); (case hr => first | (go_simp; done) | (go_simp; rfl)); intro g4 hg w1 av hb; have jr := ae.mk hb; have aN := ae.mk av; clear av hb hg; have z40 := (aj aN.out 0).trans rfl; have z41 := (aj aN.out 1).trans rfl; have ga := (aj aN.out 2).trans rfl; have eK := (aj aN.out 3).trans rfl) | ((with_reducible refine bz (N := 5) rfl ?_); refine bT ?hg (N := 5) ?hd (cs := #[.int .i64 y.f0, .string y.f1, .slice np y.f2.length m8, .slice m5 y.f3.length mV]) (t := 25) ?hr ?_; (case hd => rfl); (case hg => rfl); (case hr => first | (go_simp; done) | (go_simp; rfl)); intro g5 hg w2 av hb; have nZ := ae.mk (d_ jr.out hb); have pf := ae.mk (di aN.out hb); have bH := ae.mk av; clear av hb hg; clear z40 z41 ga eK; have z40 := (aj pf.out 0).trans rfl; have z41 := (aj pf.out 1).trans rfl; have ga := (aj pf.out 2).trans rfl; have eK := (aj pf.out 3).trans rfl) | (go_at_call 23; go_loud ((with_reducible refine (MW.out _ nZ.out).mono ?_); rintro e w3 ⟨mx, rfl, hb3, kE⟩; have gp := ae.mk (d_ nZ.out hb3); obtain ⟨bx, rfl, qK, CS⟩ := kE (by first | trivial | rfl); have RR := ae.mk CS; have nh := ae.mk (di bH.out hb3); clear z40 z41 ga eK; clear hb3 CS qK kE; have gO := (aj nh.out 0).trans rfl; have z51 := (aj nh.out 1).trans rfl; have gV := (aj nh.out 2).trans rfl; have z53 := (aj nh.out 3).trans rfl)) | (go_at_call 23; go_loud ((with_reducible refine (QZ.out _ gp.out).mono ?_); rintro e w4 ⟨my, rfl, hb4, nU⟩; have nI := ae.mk (d_ gp.out hb4); have Y6 := ae.mk hb4; obtain ⟨by_, rfl, re, Yh⟩ := nU (by first | trivial | rfl); have L4 := ae.mk Yh; have ahB := ae.mk (RR.out.below hb4); clear gO z51 gV z53; clear hb4 Yh re nU)) | (go_at_call 24; go_loud ((with_reducible refine (Gb.out _ nI.out).mono ?_); rintro e w5 ⟨v5, rfl, Up, ur⟩; have pR := ae.mk (d_ nI.out ur); have LA := ae.mk ur; have XK := ae.mk Up; clear Up ur)) | (go_at_call 25; go_loud ((with_reducible refine (afl w4.heap.size (fun k => k < w5.heap.size) v5 (b ++ o) w5 (Kd.cm (Kd.jY XK.out) (fun k hk => hk.2.2.1)) ab0.out).mono ?_); rintro e w6 ⟨rfl, SB, E6⟩; have HR6 := ae.mk SB; have aaw := ae.mk (LA.out.grown E6 LA.out.size (fun k hk => Kd.aV XK.out k hk)); have Ok := ae.mk (by have h := E6.size; exact h : w5.heap.size ≤ w6.heap.size); clear SB E6)) | ((with_reducible refine bz (N := 15) rfl ?_); refine bT ?hg (N := 15) ?hd (cs := #[.slice none 0 0]) (t := 31) ?hr ?_; (case hd => rfl); (case hg => rfl); (case hr => first | (go_simp; done) | (go_simp; rfl)); intro g15 hg w7 av hb; have abP := ae.mk av; have UV := ae.mk (by rw [hg]; exact Nat.le_refl _ : w6.heap.size ≤ g15); have Lh := ae.mk (Kd.p_ HR6.out hb); have ajE := ae.mk hb; have Xb := ae.mk (d_ aaw.out hb); clear av hb hg) | (go_at_call 26; go_loud ((with_reducible refine (Ze w4.heap.size (fun k => k < w5.heap.size) v5 (i_ (b ++ o)) w7 Lh.out aa9.out acF.out).mono ?_); rintro e w8 ⟨v8, rfl, Ny, tW⟩; obtain ⟨Al, cl, rfl⟩ := Kd.bm Ny; have Uo := ae.mk (Kd.sc Ny); have abC := ae.mk (Xb.out.grown tW Xb.out.size (fun k hk => Kd.aV Lh.out k hk)); have BKG := ae.mk (fe abP.out tW (fun e => by have h1 := Lh.out.1 g15 e.symm; have h2 := UV.out; have h3 := Ok.out; omega)); have HS8 := ae.mk (Nat.le_trans ajE.out.size (by have h := tW.size; exact h) : w6.heap.size ≤ w8.heap.size); clear Ny tW)))
 generalize hl : Lib.compact (i_ (b ++ o)) = l at Uo ⊢
 have t7 := ae.mk (show xG (b ++ o) = l from hl)
 have f9 := ae.mk (by have h := HLI.out; rw [t7.out] at h; exact h : l.length ≤ 800000)
 clear hl
 have SJ := ae.mk (Nat.le_trans LA.out.size Ok.out : w4.heap.size ≤ w6.heap.size)
 have H4 := ae.mk (fun (W : World) (hW : Below w6.heap.size w8 W) => (abC.out.trans (hW.mono SJ.out) : Below w4.heap.size w4 W))
 have Jd := ae.mk (fun (W : World) (hW : Below w6.heap.size w8 W) => o_.old ahB.out (H4.out W hW))
 have IQ := ae.mk (fun (W : World) (hW : Below w6.heap.size w8 W) => o_.old L4.out (H4.out W hW))
 have UC := ae.mk (nI.out.size)
 have KO := UV
 go_loopg [50] l.length (fun gk Ck w' => ∃ (j : Nat) (A : Option Addr) (c : Nat), Ck = .int .i64 j ∧ j + gk = l.length ∧ ae (RS w8 w6.heap.size g15 (lA Mx My (l.take j)) A c w'))
 case atStart => exact ⟨0, none, 0, rfl, by omega, ⟨⟨Below.refl _ _, HS8.out, BKG.out, Kd.lS _ _ _ _ _⟩⟩⟩
 case round =>
  obtain ⟨j, A, c, rfl, hj, R⟩ := hrel
  obtain ⟨go, rfl⟩ : ∃ go, go = gk := ⟨gk, rfl⟩
  have HJ := ae.mk hj
  cases go with
  | zero =>
   have g1 : decide ((j : Int) < (l.length : Int)) = false := decide_eq_false (by omega)
   have g2 : decide (j < l.length) = false := decide_eq_false (by omega)
   obtain rfl : j = l.length := by omega
   have R2 := R.out
   rw [List.take_length] at R2
   have R3 := ae.mk R2
   have aoK := (aj R2.ho 0).trans rfl
   clear hj R2 R
   go_wp2
   go_ret2
   rw [t7.out]
   exact ⟨_, rfl, Kd.eB R3.out.hr (Nat.le_trans UC.out SJ.out), vu nI.out UC.out (H4.out _ R3.out.hb)⟩
  | succ g =>
   have hjl : j < l.length := by omega
   have eV := ae.mk hjl
   have g1 : decide ((j : Int) < (l.length : Int)) = true := decide_eq_true (by omega)
   have g2 : decide (j < l.length) = true := decide_eq_true hjl
   have p0 : (0 : Int) ≤ (j : Int) := by omega
   have p1 : (j : Int) < (l.length : Int) := by omega
   obtain ⟨al, el, hcx⟩ := Kd.dB (Kd.pK (Kd.pS (W1 := wr) Uo.out (fun k hk _ => R.out.hb.block k (Nat.lt_of_lt_of_le hk Ok.out)))) (j : Int) p0 p1
   subst el
   rw [Int.toNat_natCast] at hcx
   obtain ⟨id, hid⟩ : ∃ id, id = rd l (j : Int) := ⟨_, rfl⟩
   rw [← hid] at hcx
   have pZ := ae.mk (hid.trans (by unfold rd; rw [Int.toNat_natCast, List.getD_eq_getElem?_getD, List.getElem?_eq_getElem eV.out]; rfl) : id = l[j]'eV.out)
   have EM := ae.mk (by rw [pZ.out]; exact abB Mx My l j eV.out : lA Mx My (l.take (j + 1)) = lA Mx My (l.take j) ++ jb Mx My id)
   have HL := ae.mk (by have h := PL Mx My (l.take j); rw [List.length_take] at h; omega : (lA Mx My (l.take j)).length ≤ 4 * j)
   have GZ := ae.mk (by have := f9.out; omega : 4 * j ≤ 3200000)
   obtain ⟨L, hL⟩ : ∃ L, L = lA Mx My (l.take j) := ⟨_, rfl⟩
   rw [← hL] at R EM HL
   have qD := ae.mk (Nat.le_trans HL.out (by have := GZ.out; omega) : L.length ≤ 10000000)
   clear hid hj hL hjl
   cases qK : cK Mx id with
   | none =>
    have tY := ae.mk qK
    cases re : cK My id with
    | none =>
     have rF := ae.mk re
     clear qK re
     go_wp2_with (first | ((with_reducible refine bz (N := 17) rfl ?_); refine bT ?hg (N := 17) ?hd (cs := #[.int .i64 0]) (t := 3) ?hr ?_; (case hd => rfl); (case hg => rfl); (case hr => first | (go_simp; done) | (go_simp; rfl)); intro g17 hg Q9 av hb; have wS := ae.mk (by rw [hg]; exact R.out.hs : w6.heap.size ≤ g17); have rY := ae.mk (by have := em R.out.ho; omega : g15 ≠ g17); have af := ae.mk (R.out.below hb); clear R; have R := af; clear af; clear hcx; have bI := ae.mk av; clear av hb hg; have ko := (aj bI.out 0).trans rfl; have rZ := bN bI.out 0) | ((with_reducible refine J1 bI.out ?_); intro LB hbk hg; clear ko rZ; have af := ae.mk (R.out.own hg wS.out rY.out bI.out (by decide)); clear R; have R := af; clear af; clear bI; have bI := ae.mk hbk; clear hbk hg; have ko := (aj bI.out 0).trans rfl) | ((with_reducible refine JB (z := .agg #[.int .i64 0, .string ⟨#[]⟩, .slice none 0 0, .slice none 0 0]) rfl (.tmp 55) (.tmp 56) rfl (ej.int Try.underlying3) Try.underlying52 (by kernel_rfl) rfl (Jd.out _ R.out.hb) id rfl tY.out ?_)) | ((with_reducible refine bz (N := 18) rfl ?_); refine bT ?hg (N := 18) ?hd (cs := #[.int .i64 0, .string (⟨#[]⟩ : ByteArray), .slice none 0 0, .slice none 0 0]) (t := 59) ?hr ?_; (case hd => rfl); (case hg => rfl); (case hr => first | (go_simp; done) | (go_simp; rfl)); intro g18 hg Rw av hb; have zz := ae.mk (by rw [hg]; exact R.out.hs : w6.heap.size ≤ g18); have vM := ae.mk (by have := em R.out.ho; omega : g15 ≠ g18); have xg := ae.mk (by have := em bI.out; omega : g17 ≠ g18); have af := ae.mk (R.out.below hb); clear R; have R := af; clear af; clear ko; have dv := ae.mk (di bI.out hb); clear bI; have bI := dv; clear dv; have bV := ae.mk av; clear av hb hg; have pk := (aj bV.out 0).trans rfl; have pA := (aj bV.out 1).trans rfl; have z182 := (aj bV.out 2).trans rfl; have z183 := (aj bV.out 3).trans rfl; have xi := bN bV.out 0; have wx := bN bV.out 1; have wU := bN bV.out 2; have xH := bN bV.out 3) | ((with_reducible refine sw bV.out ?_); intro R_ hbk hg; clear pk pA z182 z183 xi wx wU xH; have af := ae.mk (R.out.own hg zz.out vM.out bV.out (by decide)); clear R; have R := af; clear af; have dv := ae.mk (fe bI.out hg (fun e => xg.out (by injection e))); clear bI; have bI := dv; clear dv; clear bV; have bV := ae.mk hbk; clear hbk hg; have ko := (aj bI.out 0).trans rfl) | ((with_reducible refine JB (z := .agg #[.int .i64 0, .string ⟨#[]⟩, .slice none 0 0, .slice none 0 0]) rfl (.tmp 61) (.tmp 62) rfl (ej.int Try.underlying3) Try.underlying52 (by kernel_rfl) rfl (IQ.out _ R.out.hb) id rfl rF.out ?_)) | ((with_reducible refine bz (N := 20) rfl ?_); refine bT ?hg (N := 20) ?hd (cs := #[.int .i64 0, .string (⟨#[]⟩ : ByteArray), .slice none 0 0, .slice none 0 0]) (t := 59) ?hr ?_; (case hd => rfl); (case hg => rfl); (case hr => first | (go_simp; done) | (go_simp; rfl)); intro g20 hg Qp av hb; have zb := ae.mk (by rw [hg]; exact R.out.hs : w6.heap.size ≤ g20); have vN := ae.mk (by have := em R.out.ho; omega : g15 ≠ g20); have yj := ae.mk (by have := em bI.out; omega : g17 ≠ g20); have wM := ae.mk (by have := em bV.out; omega : g18 ≠ g20); have af := ae.mk (R.out.below hb); clear R; have R := af; clear af; clear ko; have dv := ae.mk (di bI.out hb); have ic := ae.mk (di bV.out hb); clear bI bV; have bI := dv; clear dv; have bV := ic; clear ic; have cO := ae.mk av; clear av hb hg; have pz := (aj cO.out 0).trans rfl; have z201 := (aj cO.out 1).trans rfl; have pd := (aj cO.out 2).trans rfl; have z203 := (aj cO.out 3).trans rfl; have wR := bN cO.out 0; have xe := bN cO.out 1; have xA := bN cO.out 2; have qk := bN cO.out 3) | ((with_reducible refine sw cO.out ?_); intro Od hbk hg; clear pz z201 pd z203 wR xe xA qk; have af := ae.mk (R.out.own hg zb.out vN.out cO.out (by decide)); clear R; have R := af; clear af; have dv := ae.mk (fe bI.out hg (fun e => yj.out (by injection e))); have ic := ae.mk (fe bV.out hg (fun e => wM.out (by injection e))); clear bI bV; have bI := dv; clear dv; have bV := ic; clear ic; clear cO; have cO := ae.mk hbk; clear hbk hg) | (go_at_call 27; go_loud ((with_reducible refine Calls.mono (Iv _ _ g17 id R.out KO.out bI.out qD.out) ?_); rintro e QU ⟨rfl, A9, c9, r9, k9⟩; have af := ae.mk (RS.len r9 HL.out); clear R HL qD; have HL := af; have qD := ae.mk (Nat.le_trans HL.out (by have := GZ.out; omega) : _ ≤ 10000000); have R := ae.mk r9; clear af r9; have dv := ae.mk (k9 _ _ _ (by decide) (Ne.symm rY.out) bI.out); clear bI; have bI := dv; clear dv; clear k9)))
     all_goals
      go_roundg g
      case measure => omega
      case rel =>
       have hR := R.out
       have e : L ++ jb Mx My id = _ := (by unfold jb; rw [tY.out, rF.out])
       exact ⟨j + 1, _, _, by have := f9.out; have := eV.out; exact congrArg (Value.int .i64) (show wrap64 ((j : Int) + 1) = ((j + 1 : Nat) : Int) from by unfold wrap64; omega), by have := HJ.out; omega, ⟨by rw [EM.out, e]; simpa using hR⟩⟩
    | some b' =>
     have rF := ae.mk re
     clear qK re
     go_wp2_with (first | ((with_reducible refine bz (N := 17) rfl ?_); refine bT ?hg (N := 17) ?hd (cs := #[.int .i64 0]) (t := 3) ?hr ?_; (case hd => rfl); (case hg => rfl); (case hr => first | (go_simp; done) | (go_simp; rfl)); intro g17 hg Q9 av hb; have wS := ae.mk (by rw [hg]; exact R.out.hs : w6.heap.size ≤ g17); have rY := ae.mk (by have := em R.out.ho; omega : g15 ≠ g17); have af := ae.mk (R.out.below hb); clear R; have R := af; clear af; clear hcx; have bI := ae.mk av; clear av hb hg; have ko := (aj bI.out 0).trans rfl; have rZ := bN bI.out 0) | ((with_reducible refine J1 bI.out ?_); intro LB hbk hg; clear ko rZ; have af := ae.mk (R.out.own hg wS.out rY.out bI.out (by decide)); clear R; have R := af; clear af; clear bI; have bI := ae.mk hbk; clear hbk hg; have ko := (aj bI.out 0).trans rfl) | ((with_reducible refine JB (z := .agg #[.int .i64 0, .string ⟨#[]⟩, .slice none 0 0, .slice none 0 0]) rfl (.tmp 55) (.tmp 56) rfl (ej.int Try.underlying3) Try.underlying52 (by kernel_rfl) rfl (Jd.out _ R.out.hb) id rfl tY.out ?_)) | ((with_reducible refine bz (N := 18) rfl ?_); refine bT ?hg (N := 18) ?hd (cs := #[.int .i64 0, .string (⟨#[]⟩ : ByteArray), .slice none 0 0, .slice none 0 0]) (t := 59) ?hr ?_; (case hd => rfl); (case hg => rfl); (case hr => first | (go_simp; done) | (go_simp; rfl)); intro g18 hg Rw av hb; have zz := ae.mk (by rw [hg]; exact R.out.hs : w6.heap.size ≤ g18); have vM := ae.mk (by have := em R.out.ho; omega : g15 ≠ g18); have xg := ae.mk (by have := em bI.out; omega : g17 ≠ g18); have af := ae.mk (R.out.below hb); clear R; have R := af; clear af; clear ko; have dv := ae.mk (di bI.out hb); clear bI; have bI := dv; clear dv; have bV := ae.mk av; clear av hb hg; have pk := (aj bV.out 0).trans rfl; have pA := (aj bV.out 1).trans rfl; have z182 := (aj bV.out 2).trans rfl; have z183 := (aj bV.out 3).trans rfl; have xi := bN bV.out 0; have wx := bN bV.out 1; have wU := bN bV.out 2; have xH := bN bV.out 3) | ((with_reducible refine sw bV.out ?_); intro R_ hbk hg; clear pk pA z182 z183 xi wx wU xH; have af := ae.mk (R.out.own hg zz.out vM.out bV.out (by decide)); clear R; have R := af; clear af; have dv := ae.mk (fe bI.out hg (fun e => xg.out (by injection e))); clear bI; have bI := dv; clear dv; clear bV; have bV := ae.mk hbk; clear hbk hg; have ko := (aj bI.out 0).trans rfl) | ((with_reducible refine IE (z := .agg #[.int .i64 0, .string ⟨#[]⟩, .slice none 0 0, .slice none 0 0]) rfl (.tmp 61) (.tmp 62) rfl (ej.int Try.underlying3) Try.underlying52 (by kernel_rfl) rfl (IQ.out _ R.out.hb) id rfl b' rF.out ?_); intro v_b hv; obtain ⟨AB2, cB2, AB3, cB3, rfl, E3, FJ, EF, Cz⟩ := hv; have RW := ae.mk R.out.hb; have Ym := ae.mk (fun (W' : World) (mR : Below w6.heap.size w8 W') => Kd.pK (Kd.pS (W1 := W') FJ (fun k hk _ => ((H4.out _ mR).block k hk).trans ((H4.out _ RW.out).block k hk).symm))); have Vw := ae.mk (fun (W' : World) (mR : Below w6.heap.size w8 W') => Kd.pK (Kd.pS (W1 := W') Cz (fun k hk _ => ((H4.out _ mR).block k hk).trans ((H4.out _ RW.out).block k hk).symm))); have WT := ae.mk E3; have Yx := ae.mk EF; clear E3 FJ EF Cz RW) | ((with_reducible refine bz (N := 20) rfl ?_); refine bT ?hg (N := 20) ?hd (cs := #[.int .i64 0, .string (⟨#[]⟩ : ByteArray), .slice none 0 0, .slice none 0 0]) (t := 59) ?hr ?_; (case hd => rfl); (case hg => rfl); (case hr => first | (go_simp; done) | (go_simp; rfl)); intro g20 hg Qp av hb; have zb := ae.mk (by rw [hg]; exact R.out.hs : w6.heap.size ≤ g20); have vN := ae.mk (by have := em R.out.ho; omega : g15 ≠ g20); have yj := ae.mk (by have := em bI.out; omega : g17 ≠ g20); have wM := ae.mk (by have := em bV.out; omega : g18 ≠ g20); have af := ae.mk (R.out.below hb); clear R; have R := af; clear af; clear ko; have dv := ae.mk (di bI.out hb); have ic := ae.mk (di bV.out hb); clear bI bV; have bI := dv; clear dv; have bV := ic; clear ic; have cO := ae.mk av; clear av hb hg; have pz := (aj cO.out 0).trans rfl; have z201 := (aj cO.out 1).trans rfl; have pd := (aj cO.out 2).trans rfl; have z203 := (aj cO.out 3).trans rfl; have wR := bN cO.out 0; have xe := bN cO.out 1; have xA := bN cO.out 2; have qk := bN cO.out 3) | ((with_reducible refine sw cO.out ?_); intro Od hbk hg; clear pz z201 pd z203 wR xe xA qk; have af := ae.mk (R.out.own hg zb.out vN.out cO.out (by decide)); clear R; have R := af; clear af; have dv := ae.mk (fe bI.out hg (fun e => yj.out (by injection e))); have ic := ae.mk (fe bV.out hg (fun e => wM.out (by injection e))); clear bI bV; have bI := dv; clear dv; have bV := ic; clear ic; clear cO; have cO := ae.mk hbk; clear hbk hg) | (go_at_call 27; go_loud ((with_reducible refine Calls.mono (Iv _ _ g17 id R.out KO.out bI.out qD.out) ?_); rintro e QU ⟨rfl, A9, c9, r9, k9⟩; have af := ae.mk (RS.len r9 HL.out); clear R HL qD; have HL := af; have qD := ae.mk (Nat.le_trans HL.out (by have := GZ.out; omega) : _ ≤ 10000000); have R := ae.mk r9; clear af r9; have dv := ae.mk (k9 _ _ _ (by decide) (Ne.symm rY.out) bI.out); clear bI; have bI := dv; clear dv; clear k9)))
     all_goals
      go_roundg g
      case measure => omega
      case rel =>
       have hR := R.out
       have e : L ++ jb Mx My id = _ := (by unfold jb; rw [tY.out, rF.out])
       exact ⟨j + 1, _, _, by have := f9.out; have := eV.out; exact congrArg (Value.int .i64) (show wrap64 ((j : Int) + 1) = ((j + 1 : Nat) : Int) from by unfold wrap64; omega), by have := HJ.out; omega, ⟨by rw [EM.out, e]; simpa using hR⟩⟩
   | some a =>
    have tY := ae.mk qK
    cases re : cK My id with
    | none =>
     have rF := ae.mk re
     clear qK re
     go_wp2_with (first | ((with_reducible refine bz (N := 17) rfl ?_); refine bT ?hg (N := 17) ?hd (cs := #[.int .i64 0]) (t := 3) ?hr ?_; (case hd => rfl); (case hg => rfl); (case hr => first | (go_simp; done) | (go_simp; rfl)); intro g17 hg Q9 av hb; have wS := ae.mk (by rw [hg]; exact R.out.hs : w6.heap.size ≤ g17); have rY := ae.mk (by have := em R.out.ho; omega : g15 ≠ g17); have af := ae.mk (R.out.below hb); clear R; have R := af; clear af; clear hcx; have bI := ae.mk av; clear av hb hg; have ko := (aj bI.out 0).trans rfl; have rZ := bN bI.out 0) | ((with_reducible refine J1 bI.out ?_); intro LB hbk hg; clear ko rZ; have af := ae.mk (R.out.own hg wS.out rY.out bI.out (by decide)); clear R; have R := af; clear af; clear bI; have bI := ae.mk hbk; clear hbk hg; have ko := (aj bI.out 0).trans rfl) | ((with_reducible refine IE (z := .agg #[.int .i64 0, .string ⟨#[]⟩, .slice none 0 0, .slice none 0 0]) rfl (.tmp 55) (.tmp 56) rfl (ej.int Try.underlying3) Try.underlying52 (by kernel_rfl) rfl (Jd.out _ R.out.hb) id rfl a tY.out ?_); intro v_a hv; obtain ⟨AA2, cA2, AA3, cA3, rfl, DM, Dh, FW, Hf⟩ := hv; have RW := ae.mk R.out.hb; have X3 := ae.mk (fun (W' : World) (mR : Below w6.heap.size w8 W') => Kd.pK (Kd.pS (W1 := W') Dh (fun k hk _ => ((H4.out _ mR).block k hk).trans ((H4.out _ RW.out).block k hk).symm))); have Uh := ae.mk (fun (W' : World) (mR : Below w6.heap.size w8 W') => Kd.pK (Kd.pS (W1 := W') Hf (fun k hk _ => ((H4.out _ mR).block k hk).trans ((H4.out _ RW.out).block k hk).symm))); have YN := ae.mk DM; have Yd := ae.mk FW; clear DM Dh FW Hf RW) | ((with_reducible refine bz (N := 18) rfl ?_); refine bT ?hg (N := 18) ?hd (cs := #[.int .i64 0, .string (⟨#[]⟩ : ByteArray), .slice none 0 0, .slice none 0 0]) (t := 59) ?hr ?_; (case hd => rfl); (case hg => rfl); (case hr => first | (go_simp; done) | (go_simp; rfl)); intro g18 hg Rw av hb; have zz := ae.mk (by rw [hg]; exact R.out.hs : w6.heap.size ≤ g18); have vM := ae.mk (by have := em R.out.ho; omega : g15 ≠ g18); have xg := ae.mk (by have := em bI.out; omega : g17 ≠ g18); have af := ae.mk (R.out.below hb); clear R; have R := af; clear af; clear ko; have dv := ae.mk (di bI.out hb); clear bI; have bI := dv; clear dv; have bV := ae.mk av; clear av hb hg; have pk := (aj bV.out 0).trans rfl; have pA := (aj bV.out 1).trans rfl; have z182 := (aj bV.out 2).trans rfl; have z183 := (aj bV.out 3).trans rfl; have xi := bN bV.out 0; have wx := bN bV.out 1; have wU := bN bV.out 2; have xH := bN bV.out 3) | ((with_reducible refine sw bV.out ?_); intro R_ hbk hg; clear pk pA z182 z183 xi wx wU xH; have af := ae.mk (R.out.own hg zz.out vM.out bV.out (by decide)); clear R; have R := af; clear af; have dv := ae.mk (fe bI.out hg (fun e => xg.out (by injection e))); clear bI; have bI := dv; clear dv; clear bV; have bV := ae.mk hbk; clear hbk hg; have ko := (aj bI.out 0).trans rfl) | ((with_reducible refine JB (z := .agg #[.int .i64 0, .string ⟨#[]⟩, .slice none 0 0, .slice none 0 0]) rfl (.tmp 61) (.tmp 62) rfl (ej.int Try.underlying3) Try.underlying52 (by kernel_rfl) rfl (IQ.out _ R.out.hb) id rfl rF.out ?_)) | ((with_reducible refine bz (N := 20) rfl ?_); refine bT ?hg (N := 20) ?hd (cs := #[.int .i64 0, .string (⟨#[]⟩ : ByteArray), .slice none 0 0, .slice none 0 0]) (t := 59) ?hr ?_; (case hd => rfl); (case hg => rfl); (case hr => first | (go_simp; done) | (go_simp; rfl)); intro g20 hg Qp av hb; have zb := ae.mk (by rw [hg]; exact R.out.hs : w6.heap.size ≤ g20); have vN := ae.mk (by have := em R.out.ho; omega : g15 ≠ g20); have yj := ae.mk (by have := em bI.out; omega : g17 ≠ g20); have wM := ae.mk (by have := em bV.out; omega : g18 ≠ g20); have af := ae.mk (R.out.below hb); clear R; have R := af; clear af; clear ko; have dv := ae.mk (di bI.out hb); have ic := ae.mk (di bV.out hb); clear bI bV; have bI := dv; clear dv; have bV := ic; clear ic; have cO := ae.mk av; clear av hb hg; have pz := (aj cO.out 0).trans rfl; have z201 := (aj cO.out 1).trans rfl; have pd := (aj cO.out 2).trans rfl; have z203 := (aj cO.out 3).trans rfl; have wR := bN cO.out 0; have xe := bN cO.out 1; have xA := bN cO.out 2; have qk := bN cO.out 3) | ((with_reducible refine sw cO.out ?_); intro Od hbk hg; clear pz z201 pd z203 wR xe xA qk; have af := ae.mk (R.out.own hg zb.out vN.out cO.out (by decide)); clear R; have R := af; clear af; have dv := ae.mk (fe bI.out hg (fun e => yj.out (by injection e))); have ic := ae.mk (fe bV.out hg (fun e => wM.out (by injection e))); clear bI bV; have bI := dv; clear dv; have bV := ic; clear ic; clear cO; have cO := ae.mk hbk; clear hbk hg) | (go_at_call 27; go_loud ((with_reducible refine Calls.mono (Iv _ _ g17 id R.out KO.out bI.out qD.out) ?_); rintro e QU ⟨rfl, A9, c9, r9, k9⟩; have af := ae.mk (RS.len r9 HL.out); clear R HL qD; have HL := af; have qD := ae.mk (Nat.le_trans HL.out (by have := GZ.out; omega) : _ ≤ 10000000); have R := ae.mk r9; clear af r9; have dv := ae.mk (k9 _ _ _ (by decide) (Ne.symm rY.out) bI.out); clear bI; have bI := dv; clear dv; clear k9)))
     all_goals
      go_roundg g
      case measure => omega
      case rel =>
       have hR := R.out
       have e : L ++ jb Mx My id = _ := (by unfold jb; rw [tY.out, rF.out])
       exact ⟨j + 1, _, _, by have := f9.out; have := eV.out; exact congrArg (Value.int .i64) (show wrap64 ((j : Int) + 1) = ((j + 1 : Nat) : Int) from by unfold wrap64; omega), by have := HJ.out; omega, ⟨by rw [EM.out, e]; simpa using hR⟩⟩
    | some b' =>
     have rF := ae.mk re
     have MP := ae.mk (VJ.out id a qK).1
     have HF3 := ae.mk (VJ.out id a qK).2
     clear qK re
     go_wp2_with (first | ((with_reducible refine bz (N := 17) rfl ?_); refine bT ?hg (N := 17) ?hd (cs := #[.int .i64 0]) (t := 3) ?hr ?_; (case hd => rfl); (case hg => rfl); (case hr => first | (go_simp; done) | (go_simp; rfl)); intro g17 hg Q9 av hb; have wS := ae.mk (by rw [hg]; exact R.out.hs : w6.heap.size ≤ g17); have rY := ae.mk (by have := em R.out.ho; omega : g15 ≠ g17); have af := ae.mk (R.out.below hb); clear R; have R := af; clear af; clear hcx; have bI := ae.mk av; clear av hb hg; have ko := (aj bI.out 0).trans rfl; have rZ := bN bI.out 0) | ((with_reducible refine J1 bI.out ?_); intro LB hbk hg; clear ko rZ; have af := ae.mk (R.out.own hg wS.out rY.out bI.out (by decide)); clear R; have R := af; clear af; clear bI; have bI := ae.mk hbk; clear hbk hg; have ko := (aj bI.out 0).trans rfl) | ((with_reducible refine IE (z := .agg #[.int .i64 0, .string ⟨#[]⟩, .slice none 0 0, .slice none 0 0]) rfl (.tmp 55) (.tmp 56) rfl (ej.int Try.underlying3) Try.underlying52 (by kernel_rfl) rfl (Jd.out _ R.out.hb) id rfl a tY.out ?_); intro v_a hv; obtain ⟨AA2, cA2, AA3, cA3, rfl, DM, Dh, FW, Hf⟩ := hv; have RW := ae.mk R.out.hb; have X3 := ae.mk (fun (W' : World) (mR : Below w6.heap.size w8 W') => Kd.pK (Kd.pS (W1 := W') Dh (fun k hk _ => ((H4.out _ mR).block k hk).trans ((H4.out _ RW.out).block k hk).symm))); have Uh := ae.mk (fun (W' : World) (mR : Below w6.heap.size w8 W') => Kd.pK (Kd.pS (W1 := W') Hf (fun k hk _ => ((H4.out _ mR).block k hk).trans ((H4.out _ RW.out).block k hk).symm))); have YN := ae.mk DM; have Yd := ae.mk FW; clear DM Dh FW Hf RW) | ((with_reducible refine bz (N := 18) rfl ?_); refine bT ?hg (N := 18) ?hd (cs := #[.int .i64 0, .string (⟨#[]⟩ : ByteArray), .slice none 0 0, .slice none 0 0]) (t := 59) ?hr ?_; (case hd => rfl); (case hg => rfl); (case hr => first | (go_simp; done) | (go_simp; rfl)); intro g18 hg Rw av hb; have zz := ae.mk (by rw [hg]; exact R.out.hs : w6.heap.size ≤ g18); have vM := ae.mk (by have := em R.out.ho; omega : g15 ≠ g18); have xg := ae.mk (by have := em bI.out; omega : g17 ≠ g18); have af := ae.mk (R.out.below hb); clear R; have R := af; clear af; clear ko; have dv := ae.mk (di bI.out hb); clear bI; have bI := dv; clear dv; have bV := ae.mk av; clear av hb hg; have pk := (aj bV.out 0).trans rfl; have pA := (aj bV.out 1).trans rfl; have z182 := (aj bV.out 2).trans rfl; have z183 := (aj bV.out 3).trans rfl; have xi := bN bV.out 0; have wx := bN bV.out 1; have wU := bN bV.out 2; have xH := bN bV.out 3) | ((with_reducible refine sw bV.out ?_); intro R_ hbk hg; clear pk pA z182 z183 xi wx wU xH; have af := ae.mk (R.out.own hg zz.out vM.out bV.out (by decide)); clear R; have R := af; clear af; have dv := ae.mk (fe bI.out hg (fun e => xg.out (by injection e))); clear bI; have bI := dv; clear dv; clear bV; have bV := ae.mk hbk; clear hbk hg; have ko := (aj bI.out 0).trans rfl) | ((with_reducible refine IE (z := .agg #[.int .i64 0, .string ⟨#[]⟩, .slice none 0 0, .slice none 0 0]) rfl (.tmp 61) (.tmp 62) rfl (ej.int Try.underlying3) Try.underlying52 (by kernel_rfl) rfl (IQ.out _ R.out.hb) id rfl b' rF.out ?_); intro v_b hv; obtain ⟨AB2, cB2, AB3, cB3, rfl, E3, FJ, EF, Cz⟩ := hv; have RW := ae.mk R.out.hb; have Ym := ae.mk (fun (W' : World) (mR : Below w6.heap.size w8 W') => Kd.pK (Kd.pS (W1 := W') FJ (fun k hk _ => ((H4.out _ mR).block k hk).trans ((H4.out _ RW.out).block k hk).symm))); have Vw := ae.mk (fun (W' : World) (mR : Below w6.heap.size w8 W') => Kd.pK (Kd.pS (W1 := W') Cz (fun k hk _ => ((H4.out _ mR).block k hk).trans ((H4.out _ RW.out).block k hk).symm))); have WT := ae.mk E3; have Yx := ae.mk EF; clear E3 FJ EF Cz RW) | ((with_reducible refine bz (N := 20) rfl ?_); refine bT ?hg (N := 20) ?hd (cs := #[.int .i64 0, .string (⟨#[]⟩ : ByteArray), .slice none 0 0, .slice none 0 0]) (t := 59) ?hr ?_; (case hd => rfl); (case hg => rfl); (case hr => first | (go_simp; done) | (go_simp; rfl)); intro g20 hg Qp av hb; have zb := ae.mk (by rw [hg]; exact R.out.hs : w6.heap.size ≤ g20); have vN := ae.mk (by have := em R.out.ho; omega : g15 ≠ g20); have yj := ae.mk (by have := em bI.out; omega : g17 ≠ g20); have wM := ae.mk (by have := em bV.out; omega : g18 ≠ g20); have af := ae.mk (R.out.below hb); clear R; have R := af; clear af; clear ko; have dv := ae.mk (di bI.out hb); have ic := ae.mk (di bV.out hb); clear bI bV; have bI := dv; clear dv; have bV := ic; clear ic; have cO := ae.mk av; clear av hb hg; have pz := (aj cO.out 0).trans rfl; have z201 := (aj cO.out 1).trans rfl; have pd := (aj cO.out 2).trans rfl; have z203 := (aj cO.out 3).trans rfl; have wR := bN cO.out 0; have xe := bN cO.out 1; have xA := bN cO.out 2; have qk := bN cO.out 3) | ((with_reducible refine sw cO.out ?_); intro Od hbk hg; clear pz z201 pd z203 wR xe xA qk; have af := ae.mk (R.out.own hg zb.out vN.out cO.out (by decide)); clear R; have R := af; clear af; have dv := ae.mk (fe bI.out hg (fun e => yj.out (by injection e))); have ic := ae.mk (fe bV.out hg (fun e => wM.out (by injection e))); clear bI bV; have bI := dv; clear dv; have bV := ic; clear ic; clear cO; have cO := ae.mk hbk; clear hbk hg; have pk := (aj bV.out 0).trans rfl; have pA := (aj bV.out 1).trans rfl; have z182 := (aj bV.out 2).trans rfl; have z183 := (aj bV.out 3).trans rfl; have pz := (aj cO.out 0).trans rfl; have z201 := (aj cO.out 1).trans rfl; have pd := (aj cO.out 2).trans rfl; have z203 := (aj cO.out 3).trans rfl) | (go_at_call 27; go_loud ((with_reducible refine Calls.mono (Iv _ _ g17 id R.out KO.out bI.out qD.out) ?_); rintro e QU ⟨rfl, A9, c9, r9, k9⟩; clear pk pA z182 z183; clear pz z201 pd z203; have af := ae.mk (RS.len r9 HL.out); clear R HL qD; have HL := af; have qD := ae.mk (Nat.le_trans HL.out (by have := GZ.out; omega) : _ ≤ 10000000); have R := ae.mk r9; clear af r9; have dv := ae.mk (k9 _ _ _ (by decide) (Ne.symm rY.out) bI.out); have ic := ae.mk (k9 _ _ _ (by decide) (Ne.symm vM.out) bV.out); have uO := ae.mk (k9 _ _ _ (by decide) (Ne.symm vN.out) cO.out); clear bI bV cO; have bI := dv; clear dv; have bV := ic; clear ic; have cO := uO; clear uO; clear k9; have pk := (aj bV.out 0).trans rfl; have pA := (aj bV.out 1).trans rfl; have z182 := (aj bV.out 2).trans rfl; have z183 := (aj bV.out 3).trans rfl; have pz := (aj cO.out 0).trans rfl; have z201 := (aj cO.out 1).trans rfl; have pd := (aj cO.out 2).trans rfl; have z203 := (aj cO.out 3).trans rfl)) | (go_at_call 28; ((with_reducible refine (ai1 _ _ a.gaps _ _ b'.gaps _ (X3.out _ R.out.hb) YN.out (Ym.out _ R.out.hb) WT.out MP.out).mono ?_); rintro e w_q ⟨rfl, qX⟩; clear pk pA z182 z183; clear pz z201 pd z203; have af := ae.mk (R.out.below qX); clear R; have R := af; clear af; have dv := ae.mk (di bI.out qX); have ic := ae.mk (di bV.out qX); have uO := ae.mk (di cO.out qX); clear bI bV cO; have bI := dv; clear dv; have bV := ic; clear ic; have cO := uO; clear uO; clear qX; have pk := (aj bV.out 0).trans rfl; have pA := (aj bV.out 1).trans rfl; have z182 := (aj bV.out 2).trans rfl; have z183 := (aj bV.out 3).trans rfl; have pz := (aj cO.out 0).trans rfl; have z201 := (aj cO.out 1).trans rfl; have pd := (aj cO.out 2).trans rfl; have z203 := (aj cO.out 3).trans rfl)) | (go_at_call 29; ((with_reducible refine (afQ _ _ a.kids _ _ b'.kids _ (Uh.out _ R.out.hb) Yd.out (Vw.out _ R.out.hb) Yx.out HF3.out).mono ?_); rintro e w_q ⟨rfl, qX⟩; clear pk pA z182 z183; clear pz z201 pd z203; have af := ae.mk (R.out.below qX); clear R; have R := af; clear af; have dv := ae.mk (di bI.out qX); have ic := ae.mk (di bV.out qX); have uO := ae.mk (di cO.out qX); clear bI bV cO; have bI := dv; clear dv; have bV := ic; clear ic; have cO := uO; clear uO; clear qX; have pk := (aj bV.out 0).trans rfl; have pA := (aj bV.out 1).trans rfl; have z182 := (aj bV.out 2).trans rfl; have z183 := (aj bV.out 3).trans rfl; have pz := (aj cO.out 0).trans rfl; have z201 := (aj cO.out 1).trans rfl; have pd := (aj cO.out 2).trans rfl; have z203 := (aj cO.out 3).trans rfl)))
     all_goals
      go_roundg g
      case measure => omega
      case rel =>
       refine ⟨j + 1, _, _, by have := f9.out; have := eV.out; exact congrArg (Value.int .i64) (show wrap64 ((j : Int) + 1) = ((j + 1 : Nat) : Int) from by unfold wrap64; omega), by have := HJ.out; omega, ⟨RS.cast ?_ R.out⟩⟩
       rw [EM.out]
       unfold jb
       rw [tY.out, rF.out]
       by_cases h1 : a.par = b'.par <;> by_cases h2 : a.txt = b'.txt <;> by_cases h3 : a.gaps = b'.gaps <;> by_cases h4 : a.kids = b'.kids <;> simp [h1, h2, h3, h4, toList_inj]
def ib.f (aE : Int) (aA : ByteArray) (ay : List ByteArray) (au : List (aX)) (aK : Int) (aM : ByteArray) (cx : List ByteArray) (bR : List (aX)) (l2 : List Int) (l3 : List Int) : Option ((List (aw)) × Int) :=
 if j7 (⟨aE, aA, ay, au⟩ : aX) && (j7 (⟨aK, aM, cx, bR⟩ : aX) && (decide (l2.length ≤ 400000) && decide (l3.length ≤ 400000))) then
  some (if (k5 (bk (⟨aE, aA, ay, au⟩ : aX) (-1) 0) l2 && k5 (bk (⟨aK, aM, cx, bR⟩ : aX) (-1) 0) l3) = true then (lA (eX (bk (⟨aE, aA, ay, au⟩ : aX) (-1) 0) l2 l2.length) (eX (bk (⟨aK, aM, cx, bR⟩ : aX) (-1) 0) l3 l3.length) (mh (l2 ++ l3)), 0) else ([], 15))
 else none
theorem ib.calls (aE : Int) (aA : ByteArray) (bB : Option Addr) (bA : Nat) (ay : List ByteArray) (br : Option Addr) (bq : Nat) (au : List (aX)) (aK : Int) (aM : ByteArray) (fQ : Option Addr) (fP : Nat) (cx : List ByteArray) (eG : Option Addr) (eD : Nat) (bR : List (aX)) (A2 : Option Addr) (c2 : Nat) (l2 : List Int) (A3 : Option Addr) (c3 : Nat) (l3 : List Int) (r1 : List (aw)) (r2 : Int) (w : World) (fZ : Kd.C Kd.string w bB ay.length ay) (gg : ay.length ≤ bA) (fC : Kd.C k25 w br au.length au) (fL : au.length ≤ bq) (oC : Kd.C Kd.string w fQ cx.length cx) (o3 : cx.length ≤ fP) (mJ : Kd.C k25 w eG bR.length bR) (mK : bR.length ≤ eD) (hr2 : Kd.C (Kd.int .i64) w A2 l2.length l2) (hc2 : l2.length ≤ c2) (hr3 : Kd.C (Kd.int .i64) w A3 l3.length l3) (hc3 : l3.length ≤ c3) (h : ib.f aE aA ay au aK aM cx bR l2 l3 = some (r1, r2)) :
  Calls Try.prog 10 #[.agg #[.int .i64 aE, .string aA, .slice bB ay.length bA, .slice br au.length bq], .agg #[.int .i64 aK, .string aM, .slice fQ cx.length fP, .slice eG bR.length eD], .slice A2 l2.length c2, .slice A3 l3.length c3] w fun e w' => ∃ jC : Value, e = .returned (.tuple #[jC, .int .i64 r2]) ∧ Kd.R dT 48 w' w.heap.size (fun _ => True) jC r1 ∧ Below w.heap.size w w' := by
 unfold ib.f at h
 split at h
 case isFalse => cases h
 rename_i hok
 simp only [Bool.and_eq_true, decide_eq_true_eq] at hok
 have h1 := Option.some.inj h
 refine (agT ⟨aE, aA, ay, au⟩ ⟨aK, aM, cx, bR⟩ l2 l3 bB bA br bq fQ fP eG eD A2 c2 A3 c3 w fZ gg fC fL oC o3 mJ mK hr2 hc2 hr3 hc3 hok.1 hok.2.1 hok.2.2.1 hok.2.2.2).mono ?_
 rintro e w' ⟨v, r, rfl, hr, hR, hB⟩
 rw [abW] at hr
 split at h1
 ·rename_i hc
  rw [if_pos hc] at hr ⊢
  obtain ⟨rfl, rfl⟩ := Prod.mk.inj h1
  exact ⟨v, rfl, by rw [← hr]; exact hR, hB⟩
 ·rename_i hc
  rw [if_neg hc] at hr ⊢
  obtain ⟨rfl, rfl⟩ := Prod.mk.inj h1
  exact ⟨v, rfl, by rw [← hr]; exact hR, hB⟩
end Go.Proofs.Ytcfjdehpbckomaa.Q
