
import Derived.Test.YtcfjdehpbckomaaQ0
import Derived.Test.YtcfjdehpbckomaaQ3
namespace Go.Proofs.Ytcfjdehpbckomaa.Q
open Go.RowKit Go.Proofs.YtcfjdehpbckomaaW.dS Go.Proofs.YtcfjdehpbckomaaW.jm Go.Proofs.YtcfjdehpbckomaaW.mm
attribute [local go_sem] mU na nt mX m6 nu mP mW
set_option linter.unusedVariables false
set_option linter.unusedSimpArgs false
/-! ### treemergeref06_Rows: function 30 (by hand) -/
def ah3 (w0 : World) (P : Nat → Prop) : Kd (List ByteArray) where
 sz := 1
 E := []
 K := fun _ x cs => Kd.FK (Kd.slice 9 Kd.string) w0 P x cs
 M := fun _ _ _ x cs => Kd.FK (Kd.slice 9 Kd.string) w0 P x cs
 jl := fun h => (Kd.slice 9 Kd.string).jl (Kd.vX h)
 ju := fun h => (Kd.slice 9 Kd.string).ju (Kd.vX h)
 lz := fun _ h => h
 gW := fun h => h
 gA := fun _ h => h
 jH := fun h => h
 ja := fun _ h => h
 lG := fun _ h => h
def m9 (w0 : World) (P : Nat → Prop) : Kd bC := Kd.r6 (Kd.pair (Kd.int .i64) (Kd.pair (Kd.int .i64) (Kd.pair Kd.string (Kd.pair (ah3 w0 P) (Kd.slice 3 (Kd.int .i64)))))) (fun x : bC => (x.f0, x.f1, x.f2, x.f3, x.f4))
theorem VR {w0 w : World} {P : Nat → Prop} {base : Nat} {ok : Nat → Prop} {x : bC} {cs : List Value} (h : (m9 w0 P).M w base ok x cs) : ∃ A3 c3 v4, cs = [.int .i64 x.f0, .int .i64 x.f1, .string x.f2, .slice A3 x.f3.length c3, v4] ∧ x.f3.length ≤ c3 ∧ Kd.F Kd.string w0 P A3 x.f3.length x.f3 ∧ (Kd.int .i64).R 3 w base ok v4 x.f4 := by
 obtain ⟨_, _, rfl, rfl, _, _, rfl, rfl, _, _, rfl, rfl, _, _, rfl, hf, v4, rfl, h4⟩ := h
 obtain ⟨A, c, rfl, hl, hc⟩ := Kd.akk hf
 exact ⟨A, c, v4, rfl, hl, hc, h4⟩
theorem Xu (w0 : World) (P : Nat → Prop) (w : World) (base : Nat) (ok : Nat → Prop) (x : bC) {A3 : Option Addr} {c3 : Nat} (l3 : x.f3.length ≤ c3) (g3 : Kd.F Kd.string w0 P A3 x.f3.length x.f3) {v4 : Value} (g4 : (Kd.int .i64).R 3 w base ok v4 x.f4) : (m9 w0 P).M w base ok x [.int .i64 x.f0, .int .i64 x.f1, .string x.f2, .slice A3 x.f3.length c3, v4] := ⟨[.int .i64 x.f0], [.int .i64 x.f1, .string x.f2, .slice A3 x.f3.length c3, v4], rfl, rfl, ⟨[.int .i64 x.f1], [.string x.f2, .slice A3 x.f3.length c3, v4], rfl, rfl, ⟨[.string x.f2], [.slice A3 x.f3.length c3, v4], rfl, rfl, ⟨[.slice A3 x.f3.length c3], [v4], rfl, Kd.acr l3 g3, ⟨v4, rfl, g4⟩⟩⟩⟩⟩
theorem aef {w : World} {P : Nat → Prop} {A : Option Addr} {n : Nat} {xs : List aX} (h : Kd.F k25 w P A n xs) (i : Int) (h0 : 0 ≤ i) (h1 : i < n) : ∃ ad A2 c2 A3 c3, A = some ad ∧ w.cell? (ad.add (i.toNat * 4)) = some (.int .i64 (dp xs i).f0) ∧ w.cell? ⟨(ad.add (i.toNat * 4)).block, (ad.add (i.toNat * 4)).off + 1, none⟩ = some (.string (dp xs i).f1) ∧ w.cell? ⟨(ad.add (i.toNat * 4)).block, (ad.add (i.toNat * 4)).off + 2, none⟩ = some (.slice A2 (dp xs i).f2.length c2) ∧ w.cell? ⟨(ad.add (i.toNat * 4)).block, (ad.add (i.toNat * 4)).off + 3, none⟩ = some (.slice A3 (dp xs i).f3.length c3) ∧ (dp xs i).f2.length ≤ c2 ∧ Kd.F Kd.string w P A2 (dp xs i).f2.length (dp xs i).f2 ∧ (dp xs i).f3.length ≤ c3 ∧ Kd.F k25 w P A3 (dp xs i).f3.length (dp xs i).f3 := by
 obtain ⟨ad, c, e, _, hK, hc0, _⟩ := Kd.TK h z25 i h0 h1
 have hc : ∀ j u, c[j]? = some u → w.cell? (ad.add (i.toNat * 4 + j)) = some u := hc0
 obtain ⟨A2, c2, A3, c3, rfl, l2, g2, l3, g3⟩ := Zp hK
 exact ⟨ad, A2, c2, A3, c3, e, hc 0 _ rfl, by rw [← ea _ _ 1 (by omega)]; exact hc 1 _ rfl, by rw [← ea _ _ 2 (by omega)]; exact hc 2 _ rfl, by rw [← ea _ _ 3 (by omega)]; exact hc 3 _ rfl, l2, g2, l3, g3⟩
theorem af2 (w0 : World) (P : Nat → Prop) : ∀ q, q ∈ 70 :: (m9 w0 P).E → q ≠ 25 := by
 have h : (m9 w0 P).E = [3] := rfl
 rw [h]
 decide
set_option maxHeartbeats 16000000 in
set_option maxRecDepth 100000 in
theorem agt (x : aX) : ∀ (P : Nat → Prop) (xs : List bC) (p : Int) (A2 : Option Addr) (c2 : Nat) (A3 : Option Addr) (c3 : Nat) (P0 : Nat → Prop) (v : Value) (w0 w : World) (hb0 : Below w0.heap.size w0 w) (ho : Kd.R (m9 w0 P) 70 w w0.heap.size P0 v xs) (h2 : Kd.F Kd.string w0 P A2 x.f2.length x.f2) (l2 : x.f2.length ≤ c2) (h3 : Kd.F k25 w0 P A3 x.f3.length x.f3) (l3 : x.f3.length ≤ c3) (hn : (fz x).length ≤ 1000000) (hxs : xs.length + (fz x).length ≤ 2000000),
  Calls Try.prog 53 #[v, .agg #[.int .i64 x.f0, .string x.f1, .slice A2 x.f2.length c2, .slice A3 x.f3.length c3], .int .i64 p] w fun e w' => ∃ v', e = .returned v' ∧ Kd.R (m9 w0 P) 70 w' w0.heap.size (fun k => P0 k ∨ w.heap.size ≤ k) v' (xs ++ bk x p xs.length) ∧ Below w0.heap.size w0 w' ∧ Kept w w' P0 := by
 induction x using s9 with
 | h x ih =>
 intro P xs p A2 c2 A3 c3 P0 v w0 w hb0 ho h2 l2 h3 l3 hn hxs
 have nR := Try.underlying25
 have K9 := Try.underlying70
 have H2 := ae.mk h2
 have L2 := ae.mk l2
 have H3 := ae.mk h3
 have L3 := ae.mk l3
 have HN := ae.mk hn
 have Hl := ae.mk hxs
 have HB := ae.mk hb0
 have HK := ae.mk (Kept.refl w P0)
 have HO := ae.mk (show Kd.R (m9 w0 P) 70 w w0.heap.size (fun k => P0 k ∨ w.heap.size ≤ k) v xs from Kd.cm ho (fun _ h => Or.inl h))
 clear h2 l2 h3 l3 hn hxs hb0 ho
 obtain ⟨Av, cv, rfl⟩ := Kd.bm HO.out
 have MS := ae.mk ih
 have Dx := ae.mk (Bi HO.out)
 have hkn : x.f3.length ≤ 1000000 := by have h1 := HN.out; have h2 := JS x.f3; rw [l5, List.length_cons] at h1; omega
 have ES := ae.mk hkn
 have HWW := ae.mk HB.out.size
 clear ih hkn
 go_enter Try.func53, Try.ntmps53
 go_wp2_with (first | ((with_reducible refine bz (N := 4) rfl ?_); refine bT ?hg (N := 4) ?hd (cs := #[.int .i64 x.f0, .string x.f1, .slice A2 x.f2.length c2, .slice A3 x.f3.length c3]) (t := 25) ?hr ?_; (case hd => rfl); (case hg => rfl); (case hr => first | (go_simp; done) | (go_simp; rfl)); intro g4 hg w1 av hb; have af := ae.mk (d_ HB.out hb); have ag := ae.mk (Kd.p_ HO.out hb); have ah := ae.mk (HK.out.below hb); have aN := ae.mk av; have AA := ae.mk (by rw [hg]; exact Nat.le_refl _ : w.heap.size ≤ g4); have Hj := ae.mk (fun e => by have := Dx.out g4 e.symm; have := AA.out; omega : some g4 ≠ (Value.slice Av xs.length cv).ownBlock); clear HB HO HK; have HB := af; have HO := ag; have HK := ah; clear af ag ah hb av hg; have z40 := (aj aN.out 0).trans rfl; have z41 := (aj aN.out 1).trans rfl; have ga := (aj aN.out 2).trans rfl; have eK := (aj aN.out 3).trans rfl) | ((with_reducible refine gP (b := .append) (xs := #[.tmp 12, .tmp 21]) rfl ?_); at_builtin; go_loud (refine Kd.ia (m9 w0 P) (w0 := w0) w0.heap.size rfl (.tmp 12) (.tmp 21) 63 70 (.agg #[(.int .i64 0), (.int .i64 0), (.string ⟨#[]⟩), .slice none 0 0, .slice none 0 0]) 80 rfl Try.underlying63 (by kernel_rfl) rfl (show 0 < 5 from by decide) (by omega) (.slice Av xs.length cv) xs ⟨p, x.f0, x.f1, x.f2, []⟩ [.int .i64 p, .int .i64 x.f0, .string x.f1, .slice A2 x.f2.length c2, .slice none 0 0] (fun k => P0 k ∨ w.heap.size ≤ k) (fun _ => False) rfl rfl (Xu _ _ _ _ _ _ L2.out H2.out (Kd.lS _ _ _ _ _)) (fun k hk => hk.elim) (fun k hk => .inr (Nat.le_trans HK.out.1 hk)) HO.out HB.out HB.out.size (by have := Hl.out; omega) ?_; intro v9 w9 jO ma jh pC; have af := ae.mk ma; have ag := ae.mk jO; have ah := ae.mk (Kept.kB (S := P0) jh HK.out (fun k e => HO.out.1 k e)); have am := ae.mk ((jh.block g4 (em aN.out) Hj.out).trans aN.out); clear HB HO HK aN z40 z41 ga eK; have HB := af; have HO := ag; have HK := ah; have aN := am; have eK := (aj aN.out 3).trans rfl; clear af ag ah am jO ma jh pC)))
 obtain ⟨L, hL⟩ : ∃ L, L = xs ++ [(⟨p, x.f0, x.f1, x.f2, []⟩ : bC)] := ⟨_, rfl⟩
 rw [← hL] at HO
 have t7 := ae.mk hL
 have f9 := ae.mk (by rw [hL]; simp : L.length = xs.length + 1)
 obtain ⟨A9, c9, R5⟩ := Kd.bm HO.out
 subst R5
 clear hL Dx Hj
 have Lf := ae.mk (by rw [List.take_zero, ed, List.append_nil]; exact Kd.cm HO.out (fun k hk => ⟨hk, by simp [Value.ownBlock]⟩) : Kd.R (m9 w0 P) 70 w9 w0.heap.size (fun k => (P0 k ∨ w.heap.size ≤ k) ∧ some k ≠ (Value.slice none 0 0).ownBlock) (.slice A9 L.length c9) (L ++ ed (x.f3.take 0) xs.length (xs.length + 1)))
 clear HO
 go_loopg [0, 8, 9] x.f3.length (fun gk v0 v8 v9 w' => ∃ (j : Nat) (Aj : Option Addr) (cj : Nat) (Bj : Option Addr) (dj : Nat), v9 = .int .i64 j ∧ v0 = .slice Aj (L.length + (cz (x.f3.take j)).length) cj ∧ v8 = .slice Bj j dj ∧ j + gk = x.f3.length ∧ ae (Kd.R (m9 w0 P) 70 w' w0.heap.size (fun k => (P0 k ∨ w.heap.size ≤ k) ∧ some k ≠ (Value.slice Bj j dj).ownBlock) (.slice Aj (L.length + (cz (x.f3.take j)).length) cj) (L ++ ed (x.f3.take j) xs.length (xs.length + 1))) ∧ ae ((Kd.int .i64).R 3 w' w0.heap.size (fun k => some k = (Value.slice Bj j dj).ownBlock ∧ w.heap.size ≤ k) (.slice Bj j dj) (fM (x.f3.take j) (xs.length + 1))) ∧ ae (w'.heap[g4]? = some (.cells #[.int .i64 x.f0, .string x.f1, .slice A2 x.f2.length c2, .slice A3 x.f3.length c3] 25 (0, 0))) ∧ ae (Below w0.heap.size w0 w') ∧ ae (Kept w w' P0))
 case atStart =>
  refine ⟨0, A9, c9, none, 0, rfl, ?_, rfl, by omega, ?_, ⟨by rw [List.take_zero, fM]; exact Kd.lS _ _ _ _ _⟩, aN, HB, HK⟩
  ·rw [List.take_zero, cz]; rfl
  ·rw [List.take_zero, cz]; exact ⟨by rw [List.take_zero] at Lf; exact Lf.out⟩
 case round =>
  clear Lf aN HB HK eK
  obtain ⟨j, Aj, cj, Bj, dj, rfl, rfl, rfl, hj, HO, fO, aN, HB, HK⟩ := hrel
  obtain ⟨go, rfl⟩ : ∃ go, go = gk := ⟨gk, rfl⟩
  have eK := (aj aN.out 3).trans rfl
  cases go with
  | zero =>
   have g1 : decide ((j : Int) < (x.f3.length : Int)) = false := decide_eq_false (by omega)
   have II : decide (j < x.f3.length) = false := decide_eq_false (by omega)
   have hkn : j = x.f3.length := by omega
   have Lb := ae.mk (show 0 < (L ++ ed (x.f3.take j) xs.length (xs.length + 1)).length by have := f9.out; rw [List.length_append]; omega)
   obtain ⟨gj, LL, Re, Qx, hlj, Ml, hcj⟩ := Kd.KH HO.out Lb.out
   injection Re with Mk PR LJ
   subst Mk
   clear PR LJ Qx hlj hcj Ml LL
   have vE := ae.mk ((HO.out.1 gj (by simp [Value.ownBlock])) : (P0 gj ∨ w.heap.size ≤ gj) ∧ some gj ≠ (Value.slice Bj j dj).ownBlock)
   have HI := ae.mk (show xs.length < L.length + (cz (x.f3.take j)).length by have := f9.out; omega)
   have hi1 : (xs.length < L.length + (cz (x.f3.take j)).length) = True := eq_true HI.out
   have hi2 : ((0 : Int) ≤ (xs.length : Int)) = True := eq_true (by omega)
   have Mm : ((xs.length : Int) < ((L.length + (cz (x.f3.take j)).length : Nat) : Int)) = True := eq_true (by have := HI.out; omega)
   have HJ := ae.mk hkn
   clear hkn hj
   generalize hm : L.length + (cz (x.f3.take j)).length = m at HO HI hi1 Mm ⊢
   have HM := ae.mk hm
   clear hm
   have hx0 : (L ++ ed (x.f3.take j) xs.length (xs.length + 1)).getD ((xs.length : Nat) : Int).toNat z70 = (⟨p, x.f0, x.f1, x.f2, []⟩ : bC) := by
    rw [Int.toNat_natCast, t7.out, List.append_assoc, List.getD_eq_getElem?_getD, List.getElem?_append_right (Nat.le_refl _)]
    simp
   obtain ⟨ce, hcl, vv, hcc, _⟩ := Kd.IR HO.out z70 (xs.length : Int) (by omega) (by have := HI.out; omega)
   rw [hx0] at vv
   obtain ⟨A3', c3', v4, rfl, Wn, hg3, hg4⟩ := VR vv
   have T2 := ae.mk (Kd.cm (d5 := fun k => (P0 k ∨ w.heap.size ≤ k) ∧ k ≠ gj) fO.out (fun k hk => ⟨.inr hk.2, fun e => by subst e; exact vE.out.2 hk.1⟩))
   have ch := ae.mk (Xu w0 P wr w0.heap.size (fun k => (P0 k ∨ w.heap.size ≤ k) ∧ k ≠ gj) ⟨p, x.f0, x.f1, x.f2, fM x.f3 (xs.length + 1)⟩ Wn hg3 (by
    have e : fM (x.f3.take j) (xs.length + 1) = fM x.f3 (xs.length + 1) := by rw [HJ.out, List.take_length]
    have z := T2.out
    rw [e] at z
    exact z))
   have Gb := ae.mk hcc
   have LE := ae.mk hcl
   have Qe := ae.mk (show (L ++ ed (x.f3.take j) xs.length (xs.length + 1)).set ((xs.length : Nat) : Int).toNat (⟨p, x.f0, x.f1, x.f2, fM x.f3 (xs.length + 1)⟩ : bC) = xs ++ bk x p xs.length from by
    rw [Int.toNat_natCast, t7.out, HJ.out, List.take_length, vC, List.append_assoc, List.set_append_right _ _ (Nat.le_refl _), Nat.sub_self]
    rfl)
   clear hcl vv hcc hg3 hg4 hx0 Wn T2
   go_wp2_with (first | ((with_reducible refine LY (t := 26) (p := 47) rfl ?_); go_loud (refine Kd.OD (m9 w0 P) (w0 := w0) w0.heap.size rfl rfl 26 (.tmp 47) (.tmp 45) rfl 70 (xs.length : Int) 4 (L ++ ed (x.f3.take j) xs.length (xs.length + 1)) ⟨p, x.f0, x.f1, x.f2, fM x.f3 (xs.length + 1)⟩ (.slice Bj j dj) [.slice Bj j dj] [.int .i64 p, .int .i64 x.f0, .string x.f1, .slice A3' x.f2.length c3', v4] (fun k => P0 k ∨ w.heap.size ≤ k) (fun k => (P0 k ∨ w.heap.size ≤ k) ∧ k ≠ gj) rfl (by first | rfl | (simp; done) | (rw [Int.toNat_natCast]; show _ = xs.length * 5 + 4; omega)) rfl rfl (by kernel_rfl) (fun q hq => by rw [List.mem_singleton.1 hq]; rfl) (Kd.cm HO.out (fun k hk => hk.1)) (by omega) (by have := HI.out; omega) LE.out Gb.out (Nat.le_refl 5) ch.out (fun k hk => hk) HB.out ?_; intro Fj xd GO Fc; rw [Qe.out] at xd; have Pn := ae.mk xd; have wO := ae.mk GO; have QR := ae.mk (Kept.kB (S := P0) Fc HK.out (fun k e => by injection e with e; subst e; exact vE.out.1)); clear xd GO Fc)))
   go_ret
   exact ⟨_, rfl, Pn.out, wO.out, QR.out⟩
  | succ g =>
   have hjl : j < x.f3.length := by omega
   have g1 : decide ((j : Int) < (x.f3.length : Int)) = true := decide_eq_true (by omega)
   have II : decide (j < x.f3.length) = true := decide_eq_true hjl
   have hq9 : (j < x.f3.length) = True := eq_true hjl
   have h0j : ((0 : Int) ≤ (j : Int)) = True := eq_true (by omega)
   have eV := ae.mk hjl
   have HJ := ae.mk hj
   obtain ⟨ad, B2, d2, B3, d3, hA, q0, q1, q2, q3, m2, G2, m3, G3⟩ := aef H3.out (j : Int) (by omega) (by omega)
   rw [Int.toNat_natCast] at q0 q1 q2 q3
   obtain ⟨y, hy⟩ : ∃ y, y = x.f3[j] := ⟨_, rfl⟩
   have Em : dp x.f3 (j : Int) = y := by
    unfold dp
    rw [Int.toNat_natCast, List.getD_eq_getElem?_getD, List.getElem?_eq_getElem hjl, Option.getD_some, hy]
   rw [Em] at q0 q1 q2 q3 m2 G2 m3 G3
   have Q0 := ae.mk q0
   have Q1 := ae.mk q1
   have Q2 := ae.mk q2
   have Q3 := ae.mk q3
   have BG : y ∈ x.f3 := hy ▸ List.getElem_mem hjl
   have hpre := WZ x.f3 j hjl
   rw [← hy] at hpre
   have hpx : (fz x).length = 1 + (cz x.f3).length := by rw [l5, List.length_cons]; omega
   have hlen : (L ++ ed (x.f3.take j) xs.length (xs.length + 1)).length = xs.length + 1 + (cz (x.f3.take j)).length := by rw [List.length_append, f9.out, AK]
   have tX : x.f3.take (j + 1) = x.f3.take j ++ [y] := by rw [N8 _ _ hjl, hy]
   have QM := ae.mk (show (L ++ ed (x.f3.take j) xs.length (xs.length + 1)) ++ bk y (xs.length : Int) (L ++ ed (x.f3.take j) xs.length (xs.length + 1)).length = L ++ ed (x.f3.take (j + 1)) xs.length (xs.length + 1) from by
    rw [hlen, tX, XR, ed, ed, List.append_nil, List.append_assoc])
   have xM := ae.mk (show (L ++ ed (x.f3.take (j + 1)) xs.length (xs.length + 1)).length = L.length + (cz (x.f3.take (j + 1))).length from by rw [List.length_append, AK])
   have ZD := ae.mk (show (fM (x.f3.take j) (xs.length + 1)).length = j from by rw [Jq, List.length_take]; omega)
   have yb := ae.mk (show (fM (x.f3.take (j + 1)) (xs.length + 1)).length = j + 1 from by rw [Jq, List.length_take]; omega)
   have V6 := ae.mk (show fM (x.f3.take j) (xs.length + 1) ++ [((L.length + (cz (x.f3.take j)).length : Nat) : Int)] = fM (x.f3.take (j + 1)) (xs.length + 1) from by rw [tX, WD, fM, fM, f9.out])
   have IH := ae.mk (fun W (hb : Below w0.heap.size w0 W) {P1 : Nat → Prop} (hO : Kd.R (m9 w0 P) 70 W w0.heap.size P1 (.slice Aj (L.length + (cz (x.f3.take j)).length) cj) (L ++ ed (x.f3.take j) xs.length (xs.length + 1))) => MS.out y BG P (L ++ ed (x.f3.take j) xs.length (xs.length + 1)) (xs.length : Int) B2 d2 B3 d3 P1 _ w0 W hb hO G2 m2 G3 m3 (by have := HN.out; omega) (by rw [hlen]; have := Hl.out; omega))
   subst hA
   clear Em BG hpre hpx hlen tX m2 G2 m3 G3 hjl hj hy q0 q1 q2 q3
   generalize hm : L.length + (cz (x.f3.take j)).length = m at HO IH V6 ⊢
   have HM := ae.mk hm
   clear hm
   go_wp2_with (first | (go_at_call 53; go_loud ((with_reducible refine (IH.out _ HB.out (Kd.xY HO.out aN.out (af2 w0 P))).mono ?_); rintro e DG ⟨v', rfl, hR, hB', hK'⟩; rw [QM.out] at hR; obtain ⟨A', c', rfl⟩ := Kd.bm hR; have af := ae.mk hB'; have ag := ae.mk (Kd.cm (d5 := fun k => (P0 k ∨ w.heap.size ≤ k) ∧ some k ≠ (Value.slice B' (j + 1) d').ownBlock) hR (fun k hk => by rcases hk with hk | hk; exact hk.1; exact ⟨.inr (Nat.le_trans HK.out.1 hk), fun e => by have := Bi fO.out k e.symm; omega⟩)); have ah := ae.mk (HK.out.then_ hK' (fun k hk => hk.1.1)); have am := ae.mk (gL aN.out hK' (fun hk => hk.2 rfl)); have aJ := ae.mk (Kd.VY fO.out hK' (fun k hk h2 => h2.1.2 hk.1)); clear HB HO HK aN fO; have HB := af; have HO := ag; have HK := ah; have aN := am; have fO := aJ; clear af ag ah am aJ hR hB' hK' eK q0 q1 q2 q3)) | ((with_reducible refine gP (b := .append) (xs := #[.tmp 30, .tmp 33]) rfl ?_); at_builtin; go_loud (refine Kd.ia (Kd.int .i64) (w0 := w0) w0.heap.size rfl (.tmp 30) (.tmp 33) 26 3 (.int .i64 0) 8 rfl Try.underlying26 (by kernel_rfl) rfl (by decide) (by omega) (.slice Bj j dj) (fM (x.f3.take j) (xs.length + 1)) (m : Int) [.int .i64 (m : Int)] (fun k => w.heap.size ≤ k) (fun _ => False) rfl rfl rfl (fun _ hk => hk.elim) (fun k hk => Nat.le_trans HK.out.1 hk) (Kd.cm fO.out (fun k hk => hk.2)) HB.out HB.out.size (by rw [ZD.out]; have := eV.out; have := ES.out; omega) ?_; intro v12 sY s' F_ pj Xi; rw [V6.out] at s'; obtain ⟨B', d', SD⟩ := Kd.bm s'; rw [yb.out] at SD; subst SD; have af := ae.mk F_; have ag := ae.mk (Kd.acA HO.out pj Xi); have ah := ae.mk (Kept.kB (S := P0) pj HK.out (fun k e => .inr (fO.out.1 k e).2)); have am := ae.mk ((pj.block g4 (em aN.out) (Kd.BZ fO.out aN.out (by decide))).trans aN.out); have aJ := ae.mk (Kd.cm (d5 := fun k => some k = (Value.slice B' (j + 1) d').ownBlock ∧ w.heap.size ≤ k) (Kd.W5 rfl s') (fun k hk => ⟨hk, s'.1 k hk.symm⟩)); clear HB HO HK aN fO eK; have HB := af; have HO := ag; have HK := ah; have aN := am; have fO := aJ; clear af ag ah am aJ s' F_ pj Xi; have eK := (aj aN.out 3).trans rfl; have q0 := k7 HB.out Q0.out; have q1 := k7 HB.out Q1.out; have q2 := k7 HB.out Q2.out; have q3 := k7 HB.out Q3.out)))
   go_roundg g
   case measure => omega
   case rel => exact ⟨j + 1, A', c', B', d', by have := eV.out; have := ES.out; exact congrArg (Value.int .i64) (show wrap64 ((j : Int) + 1) = ((j + 1 : Nat) : Int) from by unfold wrap64; omega), by first | rw [AK] | rw [xM.out], rfl, by have := HJ.out; omega, ⟨by rw [← xM.out]; exact HO.out⟩, fO, aN, HB, HK⟩
theorem ajD {w0 w : World} {P ok : Nat → Prop} {v : Value} {xs : List bC} (hb : Below w0.heap.size w0 w) (h : Kd.R (m9 w0 P) 70 w w0.heap.size ok v xs) : Kd.N fc 70 w w0.heap.size (fun k => P k ∨ ok k) v xs := by
 have hbase := Kd.aV h
 obtain ⟨h0, inner, ho, hr⟩ := h
 refine ⟨fun k hk => .inr (h0 k hk), Kd.chunks 5 xs.length inner, Kd.yG _ _ _, ⟨fun k hk => hk.symm, inner, by rw [Kd.yG]; exact ho, Kd.XJ hr (fun x c hp => ⟨(m9 w0 P).jl ((m9 w0 P).gW hp), (m9 w0 P).ju ((m9 w0 P).gW hp)⟩)⟩, fun j x c hx hc => ?_⟩
 rw [Kd.O1 hc]
 obtain ⟨A3, c3, v4, he, l3, g3, g4⟩ := VR (hr.2 j x hx)
 obtain ⟨A4, c4, rfl⟩ := Kd.bm g4
 have e5 : (inner.drop (j * 5)).take 5 = [.int .i64 x.f0, .int .i64 x.f1, .string x.f2, .slice A3 x.f3.length c3, .slice A4 x.f4.length c4] := he
 rw [e5]
 refine aiB w _ x l3 ?_ (Kd.b_ g4).2.1 ?_
 ·exact Kd.ra (Kd.lJ (Kd.Pz g3) hb) (fun k hk => ⟨.inl hk.1, fun e => by have := hbase k e.symm; have := hk.2; omega⟩)
 ·exact Kd.ra (Kd.sc g4) (fun k hk => ⟨.inr hk.1, hk.2⟩)
def mc.f (aE : Int) (aA : ByteArray) (ay : List ByteArray) (au : List (aX)) : Option (List (bC)) := if (fz ⟨aE, aA, ay, au⟩).length ≤ 1000000 then some (bk ⟨aE, aA, ay, au⟩ (-1) 0) else none
set_option maxHeartbeats 8000000 in
set_option maxRecDepth 100000 in
theorem mc.calls (aE : Int) (aA : ByteArray) (Lp : Nat → Prop) (bB : Option Addr) (bA : Nat) (ay : List ByteArray) (Na : Nat → Prop) (br : Option Addr) (bq : Nat) (au : List (aX)) (r : List (bC)) (w : World) (Ru : Kd.V Kd.string 9 w w.heap.size (fun k_ => Lp k_) (.slice bB ay.length bA) ay) (NT : Kd.V k25 25 w w.heap.size (fun k_ => Na k_) (.slice br au.length bq) au) (h : mc.f aE aA ay au = some r) :
  Calls Try.prog 30 #[.agg #[.int .i64 aE, .string aA, .slice bB ay.length bA, .slice br au.length bq]] w fun e w' => ∃ jC : Value, e = .returned (jC) ∧ Kd.N fc 70 w' w.heap.size (fun k_ => ((Lp k_ ∨ Na k_) ∨ w.heap.size ≤ k_)) jC r ∧ Below w.heap.size w w' := by
 unfold mc.f at h
 split at h
 case isFalse => cases h
 rename_i hok
 obtain rfl := Option.some.inj h
 clear h
 have nR := Try.underlying25
 have HB := ae.mk (Below.refl w.heap.size w)
 have HC := ae.mk (fun (W : World) (hb : Below w.heap.size w W) => agt ⟨aE, aA, ay, au⟩ (fun k => Lp k ∨ Na k) [] (-1) bB bA br bq (fun _ => False) (.slice none 0 0) w W hb (Kd.lS _ _ _ _ _) (Kd.ra (Kd.WG Ru) (fun k hk => .inl hk)) (Kd.T3 Ru).2.1 (Kd.ra (Kd.WG NT) (fun k hk => .inr hk)) (Kd.T3 NT).2.1 hok (by simp only [List.length_nil]; omega))
 clear hok Ru NT
 go_enter Try.func30, Try.ntmps30
 go_wp2_with (first | ((with_reducible refine bz (N := 1) rfl ?_); refine bT ?hg (N := 1) ?hd (cs := #[.int .i64 aE, .string aA, .slice bB ay.length bA, .slice br au.length bq]) (t := 25) ?hr ?_; (case hd => rfl); (case hg => rfl); (case hr => first | (go_simp; done) | (go_simp; rfl)); intro g1 hg w1 av hb; have HW1 := ae.mk hb.size; have af := ae.mk (d_ HB.out hb); clear HB; have HB := af; have z0 := (aj av 0).trans rfl; have z1 := (aj av 1).trans rfl; have z2 := (aj av 2).trans rfl; have z3 := (aj av 3).trans rfl; clear af hb av hg) | (go_at_call 53; go_loud ((with_reducible refine (HC.out _ HB.out).mono ?_); rintro e w3 ⟨v', rfl, hR, hB', hK'⟩; obtain ⟨A', c', rfl⟩ := Kd.bm hR; have HR := ae.mk (ajD hB' (Kd.cm (d5 := fun k => w.heap.size ≤ k) hR (fun k hk => by rcases hk with hk | hk; exact hk.elim; exact Nat.le_trans HB.out.size hk))); have wO := ae.mk hB'; clear hR hB' hK' z0 z1 z2 z3)))
 go_ret
 exact ⟨_, rfl, HR.out, wO.out⟩
def gq.l0 : Nat → List Int → Int → Int → Option (Int)
 | 0, _, _, _ => none
 | k + 1, x0, x1, x5 => if x5 < (x0.length : Int) then (if 0 ≤ x5 then (if (rd x0 x5) = x1 then (some x5) else (gq.l0 k x0 x1 (wrap64 (x5 + 1)))) else (none)) else (some (-1))
def gq.f (k : Nat) (l0 : List Int) (a1 : Int) : Option (Int) := gq.l0 k l0 a1 0
theorem gq.fp : ∀ k, (∀ y0 y1 y2, aI (gq.l0 k y0 y1 y2) (gq.l0 (k + 1) y0 y1 y2))
 | 0 => fun _ _ _ r h => by simp [gq.l0] at h
 | k + 1 => by
  have dq := gq.fp k
  ·intro y0 y1 y2
   unfold gq.l0
   repeat' first
   | (with_reducible exact dq _ _ _)
   | (with_reducible exact aI.refl _)
   | (with_reducible exact aI.none _)
   | (with_reducible refine aI.ite ?_ ?_)
   | (with_reducible refine aI.bind ?_ (fun _ => ?_))
theorem gq.mono : ∀ a0 a1 k, aI (gq.f k a0 a1) (gq.f (k + 1) a0 a1) := by
 intro a0 a1 k
 have dq := gq.fp k
 unfold gq.f
 repeat' first
   | (with_reducible exact dq _ _ _)
   | (with_reducible exact aI.refl _)
   | (with_reducible exact aI.none _)
   | (with_reducible refine aI.ite ?_ ?_)
   | (with_reducible refine aI.bind ?_ (fun _ => ?_))
set_option maxHeartbeats 8000000 in
set_option maxRecDepth 100000 in
theorem gq.calls (k : Nat) (A0 : Option Addr) (c0 : Nat) (l0 : List Int) (a1 : Int) (r : Int) (w : World) (hr0 : Kd.C (Kd.int .i64) w A0 l0.length l0) (hc0 : l0.length ≤ c0) (h : gq.f k l0 a1 = some r) :
  Calls Try.prog 32 #[.slice A0 l0.length c0, .int .i64 a1] w fun e w' => e = .returned (.int .i64 r) ∧ bL w w' := by
 have dr := ae.mk hr0
 have qg := ae.mk hc0
 clear hr0 hc0
 have H : (gq.l0 k l0 a1 0) = some r := h
 clear h
 have H' := ae.mk H
 clear H
 go_enter Try.func32, Try.ntmps32
 go_wp2
 go_loopg [5] k (fun kq v5 w' => ∃ (a_ : Int), v5 = .int .i64 a_ ∧ ae (gq.l0 kq l0 a1 a_ = some r) ∧ ae (kq ≤ k) ∧ bL w w')
 case atStart => exact ⟨(0), SX, H', ⟨Nat.le_refl _⟩, by repeat (first | exact bL.refl _ | apply bL.step)⟩
 case round =>
  clear H'
  try clear p2
  obtain ⟨a_, rfl, HA, d1, ⟨m1, rfl⟩⟩ := hrel
  cases gk with
  | zero => exact absurd HA.out (by simp [gq.l0])
  | succ k1 =>
   have H := HA.out
   clear HA
   simp only [gq.l0] at H
   by_cases c3 : a_ < (l0.length : Int)
   ·rw [if_pos c3] at H
    have kC : decide (a_ < (l0.length : Int)) = true := decide_eq_true c3
    clear c3
    by_cases c4 : 0 ≤ a_
    ·rw [if_pos c4] at H
     have nN : decide (0 ≤ a_) = true := decide_eq_true c4
     clear c4
     by_cases c5 : (rd l0 a_) = a1
     ·rw [if_pos c5] at H
      have jn : ((rd l0 a_) == a1) = true := beq_iff_eq.mpr c5
      have qi : ((rd l0 a_) != a1) = false := bne_eq_false_iff_eq.mpr c5
      clear c5
      obtain rfl := Option.some.inj H
      have zv : 0 ≤ (a_ : Int) := of_decide_eq_true AX
      have ze : a_ < (l0.length : Int) := of_decide_eq_true AX
      obtain ⟨ah_, N0, adz⟩ := Kd.dB dr.out a_ zv ze
      cases N0
      replace zv := eq_true zv
      replace ze := eq_true ze
      go_wp2
      go_ret
      exact ⟨SX, by repeat (first | exact bL.refl _ | apply bL.step)⟩
     ·rw [if_neg c5] at H
      have jn : ((rd l0 a_) == a1) = false := beq_eq_false_iff_ne.mpr c5
      have qi : ((rd l0 a_) != a1) = true := bne_iff_ne.mpr c5
      have H' := ae.mk H
      clear H
      have zv : 0 ≤ (a_ : Int) := of_decide_eq_true AX
      have ze : a_ < (l0.length : Int) := of_decide_eq_true AX
      obtain ⟨ah_, N0, adz⟩ := Kd.dB dr.out a_ zv ze
      cases N0
      replace zv := eq_true zv
      replace ze := eq_true ze
      go_wp2
      go_roundg k1
      case measure => have := d1.out; omega
      case rel => exact ⟨(wrap64 (a_ + 1)), SX, H', ⟨by have := d1.out; omega⟩, by repeat (first | exact bL.refl _ | apply bL.step)⟩
    ·rw [if_neg c4] at H
     exact absurd H (by simp)
   ·rw [if_neg c3] at H
    have kC : decide (a_ < (l0.length : Int)) = false := decide_eq_false c3
    clear c3
    obtain rfl := Option.some.inj H
    go_wp2
    go_ret
    exact ⟨SX, by repeat (first | exact bL.refl _ | apply bL.step)⟩
def gG.l0 : Nat → List Int → Int → Option (Bool)
 | 0, _, _ => none
 | k + 1, x0, x5 => if x5 < (x0.length : Int) then (if 0 ≤ x5 then (if (rd x0 x5) < 0 then (some false) else ((gq.f k x0 (rd x0 x5)).bind fun tz => (if tz = x5 then (gG.l0 k x0 (wrap64 (x5 + 1))) else (some false)))) else (none)) else (some true)
def gG.f (k : Nat) (l0 : List Int) (a1 : Int) : Option (Bool) := if (l0.length : Int) = a1 then (gG.l0 k l0 0) else (some false)
theorem gG.fp : ∀ k, (∀ y0 y1, aI (gG.l0 k y0 y1) (gG.l0 (k + 1) y0 y1))
 | 0 => fun _ _ r h => by simp [gG.l0] at h
 | k + 1 => by
  have dq := gG.fp k
  ·intro y0 y1
   unfold gG.l0
   repeat' first
   | (with_reducible exact dq _ _)
   | (with_reducible exact gq.mono _ _ _)
   | (with_reducible exact aI.refl _)
   | (with_reducible exact aI.none _)
   | (with_reducible refine aI.ite ?_ ?_)
   | (with_reducible refine aI.bind ?_ (fun _ => ?_))
theorem gG.mono : ∀ a0 a1 k, aI (gG.f k a0 a1) (gG.f (k + 1) a0 a1) := by
 intro a0 a1 k
 have dq := gG.fp k
 unfold gG.f
 repeat' first
   | (with_reducible exact dq _ _)
   | (with_reducible exact gq.mono _ _ _)
   | (with_reducible exact aI.refl _)
   | (with_reducible exact aI.none _)
   | (with_reducible refine aI.ite ?_ ?_)
   | (with_reducible refine aI.bind ?_ (fun _ => ?_))
set_option maxHeartbeats 8000000 in
set_option maxRecDepth 100000 in
theorem gG.calls (k : Nat) (A0 : Option Addr) (c0 : Nat) (l0 : List Int) (a1 : Int) (r : Bool) (w : World) (hr0 : Kd.C (Kd.int .i64) w A0 l0.length l0) (hc0 : l0.length ≤ c0) (h : gG.f k l0 a1 = some r) :
  Calls Try.prog 31 #[.slice A0 l0.length c0, .int .i64 a1] w fun e w' => e = .returned (.bool r) ∧ bL w w' := by
 have dr := ae.mk hr0
 have qg := ae.mk hc0
 clear hr0 hc0
 have H : (if (l0.length : Int) = a1 then (gG.l0 k l0 0) else (some false)) = some r := h
 clear h
 by_cases c3 : (l0.length : Int) = a1
 ·rw [if_pos c3] at H
  have kC : ((l0.length : Int) == a1) = true := beq_iff_eq.mpr c3
  have p8 : ((l0.length : Int) != a1) = false := bne_eq_false_iff_eq.mpr c3
  clear c3
  have H' := ae.mk H
  clear H
  go_enter Try.func31, Try.ntmps31
  go_wp2
  go_loopg [5] k (fun kq v5 w' => ∃ (a_ : Int), v5 = .int .i64 a_ ∧ ae (gG.l0 kq l0 a_ = some r) ∧ ae (kq ≤ k) ∧ bL w w')
  case atStart => exact ⟨(0), SX, H', ⟨Nat.le_refl _⟩, by repeat (first | exact bL.refl _ | apply bL.step)⟩
  case round =>
   clear H'
   try clear p2
   try clear c3
   try clear kC
   try clear p8
   obtain ⟨a_, rfl, HA, d1, ⟨m1, rfl⟩⟩ := hrel
   cases gk with
   | zero => exact absurd HA.out (by simp [gG.l0])
   | succ k1 =>
    have H := HA.out
    clear HA
    simp only [gG.l0] at H
    by_cases c4 : a_ < (l0.length : Int)
    ·rw [if_pos c4] at H
     have nN : decide (a_ < (l0.length : Int)) = true := decide_eq_true c4
     clear c4
     by_cases c5 : 0 ≤ a_
     ·rw [if_pos c5] at H
      have jn : decide (0 ≤ a_) = true := decide_eq_true c5
      clear c5
      by_cases c6 : (rd l0 a_) < 0
      ·rw [if_pos c6] at H
       have gJ : decide ((rd l0 a_) < 0) = true := decide_eq_true c6
       clear c6
       obtain rfl := Option.some.inj H
       have qR : 0 ≤ (a_ : Int) := of_decide_eq_true AX
       have qQ : a_ < (l0.length : Int) := of_decide_eq_true AX
       obtain ⟨KA, EZ, Sx⟩ := Kd.dB dr.out a_ qR qQ
       cases EZ
       replace qR := eq_true qR
       replace qQ := eq_true qQ
       go_wp2
       go_ret
       exact ⟨SX, by repeat (first | exact bL.refl _ | apply bL.step)⟩
      ·rw [if_neg c6] at H
       have gJ : decide ((rd l0 a_) < 0) = false := decide_eq_false c6
       clear c6
       replace H := Option.bind_eq_some_iff.mp H
       obtain ⟨tz, nc, H⟩ := H
       have A7 := ae.mk nc
       clear nc
       by_cases c8 : tz = a_
       ·rw [if_pos c8] at H
        have kc : (tz == a_) = true := beq_iff_eq.mpr c8
        have mz : (tz != a_) = false := bne_eq_false_iff_eq.mpr c8
        clear c8
        have H' := ae.mk H
        clear H
        have qR : 0 ≤ (a_ : Int) := of_decide_eq_true AX
        have qQ : a_ < (l0.length : Int) := of_decide_eq_true AX
        obtain ⟨KA, EZ, Sx⟩ := Kd.dB dr.out a_ qR qQ
        cases EZ
        replace qR := eq_true qR
        replace qQ := eq_true qQ
        have yL : 0 ≤ (a_ : Int) := of_decide_eq_true AX
        have wG : a_ < (l0.length : Int) := of_decide_eq_true AX
        obtain ⟨Nb, Mp, ZN⟩ := Kd.dB dr.out a_ yL wG
        obtain rfl : KA = Nb := (by injection Mp)
        replace yL := eq_true yL
        replace wG := eq_true wG
        go_wp2_with (first | (go_at_call 32; (with_reducible refine (gq.calls k1 _ _ l0 (rd l0 a_) tz _ ?aH ?aG A7.out).mono ?_); (case aH => exact CX dr.out); (case aG => exact qg.out); rintro e w' ⟨rfl, ⟨nd, rfl⟩⟩))
        go_roundg k1
        case measure => have := d1.out; omega
        case rel => exact ⟨(wrap64 (a_ + 1)), SX, H', ⟨by have := d1.out; omega⟩, by repeat (first | exact bL.refl _ | apply bL.step)⟩
       ·rw [if_neg c8] at H
        have kc : (tz == a_) = false := beq_eq_false_iff_ne.mpr c8
        have mz : (tz != a_) = true := bne_iff_ne.mpr c8
        obtain rfl := Option.some.inj H
        have qR : 0 ≤ (a_ : Int) := of_decide_eq_true AX
        have qQ : a_ < (l0.length : Int) := of_decide_eq_true AX
        obtain ⟨KA, EZ, Sx⟩ := Kd.dB dr.out a_ qR qQ
        cases EZ
        replace qR := eq_true qR
        replace qQ := eq_true qQ
        have yL : 0 ≤ (a_ : Int) := of_decide_eq_true AX
        have wG : a_ < (l0.length : Int) := of_decide_eq_true AX
        obtain ⟨Nb, Mp, ZN⟩ := Kd.dB dr.out a_ yL wG
        obtain rfl : KA = Nb := (by injection Mp)
        replace yL := eq_true yL
        replace wG := eq_true wG
        go_wp2_with (first | (go_at_call 32; (with_reducible refine (gq.calls k1 _ _ l0 (rd l0 a_) tz _ ?aH ?aG A7.out).mono ?_); (case aH => exact CX dr.out); (case aG => exact qg.out); rintro e w' ⟨rfl, ⟨nd, rfl⟩⟩))
        go_ret
        exact ⟨SX, by repeat (first | exact bL.refl _ | apply bL.step)⟩
     ·rw [if_neg c5] at H
      exact absurd H (by simp)
    ·rw [if_neg c4] at H
     have nN : decide (a_ < (l0.length : Int)) = false := decide_eq_false c4
     clear c4
     obtain rfl := Option.some.inj H
     go_wp2
     go_ret
     exact ⟨SX, by repeat (first | exact bL.refl _ | apply bL.step)⟩
 ·rw [if_neg c3] at H
  have kC : ((l0.length : Int) == a1) = false := beq_eq_false_iff_ne.mpr c3
  have p8 : ((l0.length : Int) != a1) = true := bne_iff_ne.mpr c3
  obtain rfl := Option.some.inj H
  go_enter Try.func31, Try.ntmps31
  go_wp2
  go_ret
  exact ⟨SX, by repeat (first | exact bL.refl _ | apply bL.step)⟩
def dK.l0 : Nat → List (aw) → List (aw) → Bool → Int → Int → Int → Option ((List (aw)))
 | 0, _, _, _, _, _, _ => none
 | k + 1, x0, x5, x6, x7, sn, tv => if x7 < (x0.length : Int) then (if x6 = true then (if 0 ≤ x7 then (if x5.length < 8796093022208 then (dK.l0 k x0 (x5 ++ [(⟨(aq x0 x7).f0, (aq x0 x7).f1⟩ : aw)]) x6 (wrap64 (x7 + 1)) sn tv) else (none)) else (none)) else (if 0 ≤ x7 then (if sn < ((aq x0 x7).f0) then (if x5.length < 8796093022208 then ((some (x5 ++ [(⟨sn, tv⟩ : aw)] : List (aw))).bind fun p5 => (if p5.length < 8796093022208 then (dK.l0 k x0 (p5 ++ [(⟨(aq x0 x7).f0, (aq x0 x7).f1⟩ : aw)]) true (wrap64 (x7 + 1)) sn tv) else (none))) else (none)) else (if sn = ((aq x0 x7).f0) then (if tv < ((aq x0 x7).f1) then (if x5.length < 8796093022208 then ((some (x5 ++ [(⟨sn, tv⟩ : aw)] : List (aw))).bind fun pM => (if pM.length < 8796093022208 then (dK.l0 k x0 (pM ++ [(⟨(aq x0 x7).f0, (aq x0 x7).f1⟩ : aw)]) true (wrap64 (x7 + 1)) sn tv) else (none))) else (none)) else (if x5.length < 8796093022208 then (dK.l0 k x0 (x5 ++ [(⟨(aq x0 x7).f0, (aq x0 x7).f1⟩ : aw)]) x6 (wrap64 (x7 + 1)) sn tv) else (none))) else (if x5.length < 8796093022208 then (dK.l0 k x0 (x5 ++ [(⟨(aq x0 x7).f0, (aq x0 x7).f1⟩ : aw)]) x6 (wrap64 (x7 + 1)) sn tv) else (none)))) else (none))) else (if x6 = true then (some x5) else (if x5.length < 8796093022208 then (some (x5 ++ [(⟨sn, tv⟩ : aw)])) else (none)))
def dK.f (k : Nat) (l0 : List (aw)) (aK : Int) (aM : Int) : Option ((List (aw))) := dK.l0 k l0 ([] : List (aw)) false 0 aK aM
theorem dK.fp : ∀ k, (∀ y0 y1 y2 y3 y4 y5, aI (dK.l0 k y0 y1 y2 y3 y4 y5) (dK.l0 (k + 1) y0 y1 y2 y3 y4 y5))
 | 0 => fun _ _ _ _ _ _ r h => by simp [dK.l0] at h
 | k + 1 => by
  have dq := dK.fp k
  ·intro y0 y1 y2 y3 y4 y5
   unfold dK.l0
   repeat' first
   | (with_reducible exact dq _ _ _ _ _ _)
   | (with_reducible exact aI.refl _)
   | (with_reducible exact aI.none _)
   | (with_reducible refine aI.ite ?_ ?_)
   | (with_reducible refine aI.bind ?_ (fun _ => ?_))
theorem dK.mono : ∀ a0 a1 a2 k, aI (dK.f k a0 a1 a2) (dK.f (k + 1) a0 a1 a2) := by
 intro a0 a1 a2 k
 have dq := dK.fp k
 unfold dK.f
 repeat' first
   | (with_reducible exact dq _ _ _ _ _ _)
   | (with_reducible exact aI.refl _)
   | (with_reducible exact aI.none _)
   | (with_reducible refine aI.ite ?_ ?_)
   | (with_reducible refine aI.bind ?_ (fun _ => ?_))
set_option maxHeartbeats 8000000 in
set_option maxRecDepth 100000 in
theorem dK.calls (k : Nat) (A0 : Option Addr) (c0 : Nat) (l0 : List (aw)) (aK : Int) (aM : Int) (r : List (aw)) (w : World) (hr0 : Kd.C dT w A0 l0.length l0) (hc0 : l0.length ≤ c0) (h : dK.f k l0 aK aM = some r) :
  Calls Try.prog 33 #[.slice A0 l0.length c0, .agg #[.int .i64 aK, .int .i64 aM]] w fun e w' => ∃ jC : Value, e = .returned (jC) ∧ Kd.R dT 48 w' w.heap.size (fun _ => True) jC r ∧ Below w.heap.size w w' := by
 have Kq := Try.underlying48
 have dr := ae.mk hr0
 have qg := ae.mk hc0
 clear hr0 hc0
 have HB := ae.mk (Below.refl w.heap.size w)
 have H : (dK.l0 k l0 ([] : List (aw)) false 0 aK aM) = some r := h
 clear h
 have H' := ae.mk H
 clear H
 go_enter Try.func33, Try.ntmps33
 go_wp2_with (first | ((with_reducible refine bz (N := 3) rfl ?_); refine bT ?hg (N := 3) ?hd (cs := #[.int .i64 aK, .int .i64 aM]) (t := 48) ?hr ?_; (case hd => rfl); (case hg => rfl); (case hr => first | (go_simp; done) | (go_simp; rfl) | (obtain ⟨_, _, rfl⟩ := Kd.bm (ae.out (by assumption : ae (Kd.R _ _ _ _ _ _ _))); go_simp; done)); intro cP hg w3 av hb; have af := bn HB hb; have ag := ae.mk (av); have ah := bK HB hg; have am := bK HB hg; clear HB; have HB := af; have bM := ag; have Sy := ah; have d7 := am; clear af ag ah am; clear hb av hg))
 repeat (go_quiet (first | ((with_reducible refine bz (N := 3) rfl ?_); refine bT ?hg (N := 3) ?hd (cs := #[.int .i64 aK, .int .i64 aM]) (t := 48) ?hr ?_; (case hd => rfl); (case hg => rfl); (case hr => first | (go_simp; done) | (go_simp; rfl) | (obtain ⟨_, _, rfl⟩ := Kd.bm (ae.out (by assumption : ae (Kd.R _ _ _ _ _ _ _))); go_simp; done)); intro cP hg w3 av hb; have af := bn HB hb; have ag := ae.mk (av); have ah := bK HB hg; have am := bK HB hg; clear HB; have HB := af; have bM := ag; have Sy := ah; have d7 := am; clear af ag ah am; clear hb av hg)); try go_wp2_with (first | ((with_reducible refine bz (N := 3) rfl ?_); refine bT ?hg (N := 3) ?hd (cs := #[.int .i64 aK, .int .i64 aM]) (t := 48) ?hr ?_; (case hd => rfl); (case hg => rfl); (case hr => first | (go_simp; done) | (go_simp; rfl) | (obtain ⟨_, _, rfl⟩ := Kd.bm (ae.out (by assumption : ae (Kd.R _ _ _ _ _ _ _))); go_simp; done)); intro cP hg w3 av hb; have af := bn HB hb; have ag := ae.mk (av); have ah := bK HB hg; have am := bK HB hg; clear HB; have HB := af; have bM := ag; have Sy := ah; have d7 := am; clear af ag ah am; clear hb av hg)))
 go_loopg [5, 6, 7] k (fun kq v5 v6 v7 w' => ∃ (a_ : List (aw)) (dV : Bool) (az : Int), v6 = .bool dV ∧ v7 = .int .i64 az ∧ ae (dK.l0 kq l0 a_ dV az aK aM = some r) ∧ ae (kq ≤ k) ∧ ae (Kd.R dT 48 w' w.heap.size (fun k_ => k_ ≠ cP) v5 a_) ∧ ae (w'.heap[cP]? = some (.cells #[.int .i64 aK, .int .i64 aM] 48 (0, 0))) ∧ ae (Below w.heap.size w w'))
 case atStart => exact ⟨(([] : List (aw))), (false), (0), SX, SX, H', ⟨Nat.le_refl _⟩, ⟨NX⟩, ⟨by (with_reducible repeat (first | refine bf ?_ _ | refine bd ?_ | refine aU ?_ _)); exact bM.out⟩, ⟨by repeat (first | (with_reducible first | exact HB.out | apply aQ | apply aY | apply aT | refine ao ?_ d7.out) | exact HB.out)⟩⟩
 case round =>
  clear H'
  try clear p2
  try clear c3
  obtain ⟨a_, dV, az, rfl, rfl, HA, d1, cd, bM, HB⟩ := hrel
  cases gk with
  | zero => exact absurd HA.out (by simp [dK.l0])
  | succ k1 =>
   have H := HA.out
   clear HA
   simp only [dK.l0] at H
   by_cases c4 : az < (l0.length : Int)
   ·rw [if_pos c4] at H
    have nN : decide (az < (l0.length : Int)) = true := decide_eq_true c4
    clear c4
    by_cases c5 : dV = true
    ·subst c5
     have H1 : (if 0 ≤ az then (if a_.length < 8796093022208 then (dK.l0 k1 l0 (a_ ++ [(⟨(aq l0 az).f0, (aq l0 az).f1⟩ : aw)]) true (wrap64 (az + 1)) aK aM) else (none)) else (none)) = some r := by rw [if_pos rfl] at H; exact H
     clear H
     have H := H1
     clear H1
     by_cases c6 : 0 ≤ az
     ·rw [if_pos c6] at H
      have gJ : decide (0 ≤ az) = true := decide_eq_true c6
      clear c6
      by_cases c7 : a_.length < 8796093022208
      ·rw [if_pos c7] at H
       have Qo := ae.mk c7
       clear c7
       obtain ⟨S4, DT⟩ : ∃ y_ : List (aw), y_ = (a_ ++ [(⟨(aq l0 az).f0, (aq l0 az).f1⟩ : aw)]) := ⟨_, rfl⟩
       replace H : (dK.l0 k1 l0 S4 true (wrap64 (az + 1)) aK aM) = some r := by first | (rw [DT]; with_reducible exact H) | (have ca := (Option.bind_some _ _).symm.trans H; rw [DT]; with_reducible exact ca) | (have ca := (Option.bind_some _ _).symm.trans H; with_reducible exact ca) | with_reducible exact H | (rw [DT]; exact H) | exact H
       have Lx := ae.mk DT
       clear DT
       have H' := ae.mk H
       clear H
       have NC : 0 ≤ (az : Int) := of_decide_eq_true AX
       have Sn : az < (l0.length : Int) := of_decide_eq_true AX
       obtain ⟨aln, agY, QX, Ly⟩ := iZ dr.out az NC Sn
       cases agY
       replace QX := (HB.out.cell (World.block_lt_of_cell? w _ QX)).trans QX
       replace Ly := (HB.out.cell (World.block_lt_of_cell? w _ Ly)).trans Ly
       replace NC := eq_true NC
       replace Sn := eq_true Sn
       go_wp2_with (first | ((with_reducible refine gP (b := .append) (xs := #[.tmp 50, .tmp 55]) rfl ?_); at_builtin; refine Kd.ia dT (w0 := w) w.heap.size rfl (.tmp 50) (.tmp 55) 31 48 (.agg #[(.int .i64 0), (.int .i64 0)]) 16 rfl Try.underlying31 kg rfl (by decide) (by omega) u5 a_ (⟨(aq l0 az).f0, (aq l0 az).f1⟩ : aw) [.int .i64 ((aq l0 az).f0), .int .i64 ((aq l0 az).f1)] (fun k_ => k_ ≠ cP) (fun _ => False) rfl rfl ?aP (fun _ hk => hk.elim) ?aF ?aO ?aB ?aS ?aL ?_; (case aP => exact i5 _ _ _ (⟨(aq l0 az).f0, (aq l0 az).f1⟩ : aw)); (case aB => exact (by repeat (first | (with_reducible first | exact HB.out | apply aQ | apply aY | apply aT | refine ao ?_ d7.out) | exact HB.out))); (case aF => exact (fun k_ hk => Kd.gb (g := cP) (o := .cells #[.int .i64 aK, .int .i64 aM] 48 (0, 0)) (by (with_reducible repeat (first | refine bf ?_ _ | refine bd ?_ | refine aU ?_ _)); exact bM.out) k_ hk)); (case aO => exact (RX cd.out)); (case aS => exact (cG (by repeat (first | (with_reducible first | exact HB.out | apply aQ | apply aY | apply aT | refine ao ?_ d7.out) | exact HB.out)))); (case aL => have := Qo.out; omega); intro SZ w8 ho hb hg hat; rw [← Lx.out] at ho; have af := ae.mk (fe (g := cP) (o := .cells #[.int .i64 aK, .int .i64 aM] 48 (0, 0)) (by (with_reducible repeat (first | refine bf ?_ _ | refine bd ?_ | refine aU ?_ _)); exact bM.out) hg (Kd.j9 cd.out (fun _ hk => hk))); have ag := ae.mk (hb); have ah := ae.mk (ho); clear bM; clear HB; clear cd; have bM := af; have HB := ag; have MJ := ah; clear af ag ah; clear ho hb hg hat))
       repeat (go_quiet (first | ((with_reducible refine gP (b := .append) (xs := #[.tmp 50, .tmp 55]) rfl ?_); at_builtin; refine Kd.ia dT (w0 := w) w.heap.size rfl (.tmp 50) (.tmp 55) 31 48 (.agg #[(.int .i64 0), (.int .i64 0)]) 16 rfl Try.underlying31 kg rfl (by decide) (by omega) u5 a_ (⟨(aq l0 az).f0, (aq l0 az).f1⟩ : aw) [.int .i64 ((aq l0 az).f0), .int .i64 ((aq l0 az).f1)] (fun k_ => k_ ≠ cP) (fun _ => False) rfl rfl ?aP (fun _ hk => hk.elim) ?aF ?aO ?aB ?aS ?aL ?_; (case aP => exact i5 _ _ _ (⟨(aq l0 az).f0, (aq l0 az).f1⟩ : aw)); (case aB => exact (by repeat (first | (with_reducible first | exact HB.out | apply aQ | apply aY | apply aT | refine ao ?_ d7.out) | exact HB.out))); (case aF => exact (fun k_ hk => Kd.gb (g := cP) (o := .cells #[.int .i64 aK, .int .i64 aM] 48 (0, 0)) (by (with_reducible repeat (first | refine bf ?_ _ | refine bd ?_ | refine aU ?_ _)); exact bM.out) k_ hk)); (case aO => exact (RX cd.out)); (case aS => exact (cG (by repeat (first | (with_reducible first | exact HB.out | apply aQ | apply aY | apply aT | refine ao ?_ d7.out) | exact HB.out)))); (case aL => have := Qo.out; omega); intro SZ w8 ho hb hg hat; rw [← Lx.out] at ho; have af := ae.mk (fe (g := cP) (o := .cells #[.int .i64 aK, .int .i64 aM] 48 (0, 0)) (by (with_reducible repeat (first | refine bf ?_ _ | refine bd ?_ | refine aU ?_ _)); exact bM.out) hg (Kd.j9 cd.out (fun _ hk => hk))); have ag := ae.mk (hb); have ah := ae.mk (ho); clear bM; clear HB; clear cd; have bM := af; have HB := ag; have MJ := ah; clear af ag ah; clear ho hb hg hat)); try go_wp2_with (first | ((with_reducible refine gP (b := .append) (xs := #[.tmp 50, .tmp 55]) rfl ?_); at_builtin; refine Kd.ia dT (w0 := w) w.heap.size rfl (.tmp 50) (.tmp 55) 31 48 (.agg #[(.int .i64 0), (.int .i64 0)]) 16 rfl Try.underlying31 kg rfl (by decide) (by omega) u5 a_ (⟨(aq l0 az).f0, (aq l0 az).f1⟩ : aw) [.int .i64 ((aq l0 az).f0), .int .i64 ((aq l0 az).f1)] (fun k_ => k_ ≠ cP) (fun _ => False) rfl rfl ?aP (fun _ hk => hk.elim) ?aF ?aO ?aB ?aS ?aL ?_; (case aP => exact i5 _ _ _ (⟨(aq l0 az).f0, (aq l0 az).f1⟩ : aw)); (case aB => exact (by repeat (first | (with_reducible first | exact HB.out | apply aQ | apply aY | apply aT | refine ao ?_ d7.out) | exact HB.out))); (case aF => exact (fun k_ hk => Kd.gb (g := cP) (o := .cells #[.int .i64 aK, .int .i64 aM] 48 (0, 0)) (by (with_reducible repeat (first | refine bf ?_ _ | refine bd ?_ | refine aU ?_ _)); exact bM.out) k_ hk)); (case aO => exact (RX cd.out)); (case aS => exact (cG (by repeat (first | (with_reducible first | exact HB.out | apply aQ | apply aY | apply aT | refine ao ?_ d7.out) | exact HB.out)))); (case aL => have := Qo.out; omega); intro SZ w8 ho hb hg hat; rw [← Lx.out] at ho; have af := ae.mk (fe (g := cP) (o := .cells #[.int .i64 aK, .int .i64 aM] 48 (0, 0)) (by (with_reducible repeat (first | refine bf ?_ _ | refine bd ?_ | refine aU ?_ _)); exact bM.out) hg (Kd.j9 cd.out (fun _ hk => hk))); have ag := ae.mk (hb); have ah := ae.mk (ho); clear bM; clear HB; clear cd; have bM := af; have HB := ag; have MJ := ah; clear af ag ah; clear ho hb hg hat)))
       go_roundg k1
       case measure => have := d1.out; omega
       case rel => exact ⟨(S4), (true), (wrap64 (az + 1)), SX, SX, H', ⟨by have := d1.out; omega⟩, ⟨RX MJ.out⟩, ⟨by (with_reducible repeat (first | refine bf ?_ _ | refine bd ?_ | refine aU ?_ _)); exact bM.out⟩, ⟨by repeat (first | (with_reducible first | exact HB.out | apply aQ | apply aY | apply aT | refine ao ?_ d7.out) | exact HB.out)⟩⟩
      ·rw [if_neg c7] at H
       exact absurd H (by simp)
     ·rw [if_neg c6] at H
      exact absurd H (by simp)
    ·replace c5 := Bool.eq_false_iff.mpr c5
     subst c5
     have H1 : (if 0 ≤ az then (if aK < ((aq l0 az).f0) then (if a_.length < 8796093022208 then ((some (a_ ++ [(⟨aK, aM⟩ : aw)] : List (aw))).bind fun p5 => (if p5.length < 8796093022208 then (dK.l0 k1 l0 (p5 ++ [(⟨(aq l0 az).f0, (aq l0 az).f1⟩ : aw)]) true (wrap64 (az + 1)) aK aM) else (none))) else (none)) else (if aK = ((aq l0 az).f0) then (if aM < ((aq l0 az).f1) then (if a_.length < 8796093022208 then ((some (a_ ++ [(⟨aK, aM⟩ : aw)] : List (aw))).bind fun pM => (if pM.length < 8796093022208 then (dK.l0 k1 l0 (pM ++ [(⟨(aq l0 az).f0, (aq l0 az).f1⟩ : aw)]) true (wrap64 (az + 1)) aK aM) else (none))) else (none)) else (if a_.length < 8796093022208 then (dK.l0 k1 l0 (a_ ++ [(⟨(aq l0 az).f0, (aq l0 az).f1⟩ : aw)]) false (wrap64 (az + 1)) aK aM) else (none))) else (if a_.length < 8796093022208 then (dK.l0 k1 l0 (a_ ++ [(⟨(aq l0 az).f0, (aq l0 az).f1⟩ : aw)]) false (wrap64 (az + 1)) aK aM) else (none)))) else (none)) = some r := by rw [if_neg (show ¬ (false = true) by decide)] at H; exact H
     clear H
     have H := H1
     clear H1
     by_cases c9 : 0 ≤ az
     ·rw [if_pos c9] at H
      have BO : decide (0 ≤ az) = true := decide_eq_true c9
      clear c9
      by_cases dO : aK < ((aq l0 az).f0)
      ·rw [if_pos dO] at H
       have k6 : decide (aK < ((aq l0 az).f0)) = true := decide_eq_true dO
       clear dO
       by_cases gf : a_.length < 8796093022208
       ·rw [if_pos gf] at H
        have R0 := ae.mk gf
        clear gf
        obtain ⟨p5, Gn⟩ : ∃ y_ : List (aw), y_ = (a_ ++ [(⟨aK, aM⟩ : aw)]) := ⟨_, rfl⟩
        replace H : (if p5.length < 8796093022208 then (dK.l0 k1 l0 (p5 ++ [(⟨(aq l0 az).f0, (aq l0 az).f1⟩ : aw)]) true (wrap64 (az + 1)) aK aM) else (none)) = some r := by first | (rw [Gn]; with_reducible exact H) | (have ca := (Option.bind_some _ _).symm.trans H; rw [Gn]; with_reducible exact ca) | (have ca := (Option.bind_some _ _).symm.trans H; with_reducible exact ca) | with_reducible exact H | (rw [Gn]; exact H) | exact H
        have Ri := ae.mk Gn
        clear Gn
        by_cases ji : p5.length < 8796093022208
        ·rw [if_pos ji] at H
         have QQ := ae.mk ji
         clear ji
         obtain ⟨Xy, C9⟩ : ∃ y_ : List (aw), y_ = (p5 ++ [(⟨(aq l0 az).f0, (aq l0 az).f1⟩ : aw)]) := ⟨_, rfl⟩
         replace H : (dK.l0 k1 l0 Xy true (wrap64 (az + 1)) aK aM) = some r := by first | (rw [C9]; with_reducible exact H) | (have ca := (Option.bind_some _ _).symm.trans H; rw [C9]; with_reducible exact ca) | (have ca := (Option.bind_some _ _).symm.trans H; with_reducible exact ca) | with_reducible exact H | (rw [C9]; exact H) | exact H
         have Pb := ae.mk C9
         clear C9
         have H' := ae.mk H
         clear H
         obtain ⟨tB, tt, tK, ul⟩ := oP bM
         have o9 : 0 ≤ (az : Int) := of_decide_eq_true AX
         have oV : az < (l0.length : Int) := of_decide_eq_true AX
         obtain ⟨om, yD, oX, oZ⟩ := iZ dr.out az o9 oV
         cases yD
         replace oX := (HB.out.cell (World.block_lt_of_cell? w _ oX)).trans oX
         replace oZ := (HB.out.cell (World.block_lt_of_cell? w _ oZ)).trans oZ
         replace o9 := eq_true o9
         replace oV := eq_true oV
         go_wp2_with (first | ((with_reducible refine gP (b := .append) (xs := #[.tmp 46, .tmp 48]) rfl ?_); at_builtin; refine Kd.ia dT (w0 := w) w.heap.size rfl (.tmp 46) (.tmp 48) 31 48 (.agg #[(.int .i64 0), (.int .i64 0)]) 16 rfl Try.underlying31 kg rfl (by decide) (by omega) u5 a_ (⟨aK, aM⟩ : aw) [.int .i64 aK, .int .i64 aM] (fun k_ => k_ ≠ cP) (fun _ => False) rfl rfl ?aP (fun _ hk => hk.elim) ?aF ?aO ?aB ?aS ?aL ?_; (case aP => exact i5 _ _ _ (⟨aK, aM⟩ : aw)); (case aB => exact (by repeat (first | (with_reducible first | exact HB.out | apply aQ | apply aY | apply aT | refine ao ?_ d7.out) | exact HB.out))); (case aF => exact (fun k_ hk => Kd.gb (g := cP) (o := .cells #[.int .i64 aK, .int .i64 aM] 48 (0, 0)) (by (with_reducible repeat (first | refine bf ?_ _ | refine bd ?_ | refine aU ?_ _)); exact bM.out) k_ hk)); (case aO => exact (RX cd.out)); (case aS => exact (cG (by repeat (first | (with_reducible first | exact HB.out | apply aQ | apply aY | apply aT | refine ao ?_ d7.out) | exact HB.out)))); (case aL => have := R0.out; omega); intro G5 uX ho hb hg hat; rw [← Ri.out] at ho; have af := ae.mk (fe (g := cP) (o := .cells #[.int .i64 aK, .int .i64 aM] 48 (0, 0)) (by (with_reducible repeat (first | refine bf ?_ _ | refine bd ?_ | refine aU ?_ _)); exact bM.out) hg (Kd.j9 cd.out (fun _ hk => hk))); have ag := ae.mk (hb); have ah := ae.mk (ho); clear bM; clear HB; clear cd; have bM := af; have HB := ag; have qV := ah; clear af ag ah; clear ho hb hg hat; have rm : 0 ≤ (az : Int) := of_decide_eq_true AX; have rv : az < (l0.length : Int) := of_decide_eq_true AX; obtain ⟨Cq, Hd, rB, rq⟩ := iZ dr.out az rm rv; obtain rfl : om = Cq := (by injection Hd); replace rB := (HB.out.cell (World.block_lt_of_cell? w _ rB)).trans rB; replace rq := (HB.out.cell (World.block_lt_of_cell? w _ rq)).trans rq; replace rm := eq_true rm; replace rv := eq_true rv) | ((with_reducible refine gP (b := .append) (xs := #[.tmp 50, .tmp 55]) rfl ?_); at_builtin; refine Kd.ia dT (w0 := w) w.heap.size rfl (.tmp 50) (.tmp 55) 31 48 (.agg #[(.int .i64 0), (.int .i64 0)]) 16 rfl Try.underlying31 kg rfl (by decide) (by omega) G5 p5 (⟨(aq l0 az).f0, (aq l0 az).f1⟩ : aw) [.int .i64 ((aq l0 az).f0), .int .i64 ((aq l0 az).f1)] (fun k_ => k_ ≠ cP) (fun _ => False) rfl rfl ?aP (fun _ hk => hk.elim) ?aF ?aO ?aB ?aS ?aL ?_; (case aP => exact i5 _ _ _ (⟨(aq l0 az).f0, (aq l0 az).f1⟩ : aw)); (case aB => exact (by repeat (first | (with_reducible first | exact HB.out | apply aQ | apply aY | apply aT | refine ao ?_ d7.out) | exact HB.out))); (case aF => exact (fun k_ hk => Kd.gb (g := cP) (o := .cells #[.int .i64 aK, .int .i64 aM] 48 (0, 0)) (by (with_reducible repeat (first | refine bf ?_ _ | refine bd ?_ | refine aU ?_ _)); exact bM.out) k_ hk)); (case aO => exact (RX qV.out)); (case aS => exact (cG (by repeat (first | (with_reducible first | exact HB.out | apply aQ | apply aY | apply aT | refine ao ?_ d7.out) | exact HB.out)))); (case aL => have := QQ.out; omega); intro XG ug ho hb hg hat; rw [← Pb.out] at ho; have af := ae.mk (fe (g := cP) (o := .cells #[.int .i64 aK, .int .i64 aM] 48 (0, 0)) (by (with_reducible repeat (first | refine bf ?_ _ | refine bd ?_ | refine aU ?_ _)); exact bM.out) hg (Kd.j9 qV.out (fun _ hk => hk))); have ag := ae.mk (hb); have ah := ae.mk (ho); clear bM; clear HB; clear qV; have bM := af; have HB := ag; have NL := ah; clear af ag ah; clear ho hb hg hat))
         repeat (go_quiet (first | ((with_reducible refine gP (b := .append) (xs := #[.tmp 46, .tmp 48]) rfl ?_); at_builtin; refine Kd.ia dT (w0 := w) w.heap.size rfl (.tmp 46) (.tmp 48) 31 48 (.agg #[(.int .i64 0), (.int .i64 0)]) 16 rfl Try.underlying31 kg rfl (by decide) (by omega) u5 a_ (⟨aK, aM⟩ : aw) [.int .i64 aK, .int .i64 aM] (fun k_ => k_ ≠ cP) (fun _ => False) rfl rfl ?aP (fun _ hk => hk.elim) ?aF ?aO ?aB ?aS ?aL ?_; (case aP => exact i5 _ _ _ (⟨aK, aM⟩ : aw)); (case aB => exact (by repeat (first | (with_reducible first | exact HB.out | apply aQ | apply aY | apply aT | refine ao ?_ d7.out) | exact HB.out))); (case aF => exact (fun k_ hk => Kd.gb (g := cP) (o := .cells #[.int .i64 aK, .int .i64 aM] 48 (0, 0)) (by (with_reducible repeat (first | refine bf ?_ _ | refine bd ?_ | refine aU ?_ _)); exact bM.out) k_ hk)); (case aO => exact (RX cd.out)); (case aS => exact (cG (by repeat (first | (with_reducible first | exact HB.out | apply aQ | apply aY | apply aT | refine ao ?_ d7.out) | exact HB.out)))); (case aL => have := R0.out; omega); intro G5 uX ho hb hg hat; rw [← Ri.out] at ho; have af := ae.mk (fe (g := cP) (o := .cells #[.int .i64 aK, .int .i64 aM] 48 (0, 0)) (by (with_reducible repeat (first | refine bf ?_ _ | refine bd ?_ | refine aU ?_ _)); exact bM.out) hg (Kd.j9 cd.out (fun _ hk => hk))); have ag := ae.mk (hb); have ah := ae.mk (ho); clear bM; clear HB; clear cd; have bM := af; have HB := ag; have qV := ah; clear af ag ah; clear ho hb hg hat; have rm : 0 ≤ (az : Int) := of_decide_eq_true AX; have rv : az < (l0.length : Int) := of_decide_eq_true AX; obtain ⟨Cq, Hd, rB, rq⟩ := iZ dr.out az rm rv; obtain rfl : om = Cq := (by injection Hd); replace rB := (HB.out.cell (World.block_lt_of_cell? w _ rB)).trans rB; replace rq := (HB.out.cell (World.block_lt_of_cell? w _ rq)).trans rq; replace rm := eq_true rm; replace rv := eq_true rv) | ((with_reducible refine gP (b := .append) (xs := #[.tmp 50, .tmp 55]) rfl ?_); at_builtin; refine Kd.ia dT (w0 := w) w.heap.size rfl (.tmp 50) (.tmp 55) 31 48 (.agg #[(.int .i64 0), (.int .i64 0)]) 16 rfl Try.underlying31 kg rfl (by decide) (by omega) G5 p5 (⟨(aq l0 az).f0, (aq l0 az).f1⟩ : aw) [.int .i64 ((aq l0 az).f0), .int .i64 ((aq l0 az).f1)] (fun k_ => k_ ≠ cP) (fun _ => False) rfl rfl ?aP (fun _ hk => hk.elim) ?aF ?aO ?aB ?aS ?aL ?_; (case aP => exact i5 _ _ _ (⟨(aq l0 az).f0, (aq l0 az).f1⟩ : aw)); (case aB => exact (by repeat (first | (with_reducible first | exact HB.out | apply aQ | apply aY | apply aT | refine ao ?_ d7.out) | exact HB.out))); (case aF => exact (fun k_ hk => Kd.gb (g := cP) (o := .cells #[.int .i64 aK, .int .i64 aM] 48 (0, 0)) (by (with_reducible repeat (first | refine bf ?_ _ | refine bd ?_ | refine aU ?_ _)); exact bM.out) k_ hk)); (case aO => exact (RX qV.out)); (case aS => exact (cG (by repeat (first | (with_reducible first | exact HB.out | apply aQ | apply aY | apply aT | refine ao ?_ d7.out) | exact HB.out)))); (case aL => have := QQ.out; omega); intro XG ug ho hb hg hat; rw [← Pb.out] at ho; have af := ae.mk (fe (g := cP) (o := .cells #[.int .i64 aK, .int .i64 aM] 48 (0, 0)) (by (with_reducible repeat (first | refine bf ?_ _ | refine bd ?_ | refine aU ?_ _)); exact bM.out) hg (Kd.j9 qV.out (fun _ hk => hk))); have ag := ae.mk (hb); have ah := ae.mk (ho); clear bM; clear HB; clear qV; have bM := af; have HB := ag; have NL := ah; clear af ag ah; clear ho hb hg hat)); try go_wp2_with (first | ((with_reducible refine gP (b := .append) (xs := #[.tmp 46, .tmp 48]) rfl ?_); at_builtin; refine Kd.ia dT (w0 := w) w.heap.size rfl (.tmp 46) (.tmp 48) 31 48 (.agg #[(.int .i64 0), (.int .i64 0)]) 16 rfl Try.underlying31 kg rfl (by decide) (by omega) u5 a_ (⟨aK, aM⟩ : aw) [.int .i64 aK, .int .i64 aM] (fun k_ => k_ ≠ cP) (fun _ => False) rfl rfl ?aP (fun _ hk => hk.elim) ?aF ?aO ?aB ?aS ?aL ?_; (case aP => exact i5 _ _ _ (⟨aK, aM⟩ : aw)); (case aB => exact (by repeat (first | (with_reducible first | exact HB.out | apply aQ | apply aY | apply aT | refine ao ?_ d7.out) | exact HB.out))); (case aF => exact (fun k_ hk => Kd.gb (g := cP) (o := .cells #[.int .i64 aK, .int .i64 aM] 48 (0, 0)) (by (with_reducible repeat (first | refine bf ?_ _ | refine bd ?_ | refine aU ?_ _)); exact bM.out) k_ hk)); (case aO => exact (RX cd.out)); (case aS => exact (cG (by repeat (first | (with_reducible first | exact HB.out | apply aQ | apply aY | apply aT | refine ao ?_ d7.out) | exact HB.out)))); (case aL => have := R0.out; omega); intro G5 uX ho hb hg hat; rw [← Ri.out] at ho; have af := ae.mk (fe (g := cP) (o := .cells #[.int .i64 aK, .int .i64 aM] 48 (0, 0)) (by (with_reducible repeat (first | refine bf ?_ _ | refine bd ?_ | refine aU ?_ _)); exact bM.out) hg (Kd.j9 cd.out (fun _ hk => hk))); have ag := ae.mk (hb); have ah := ae.mk (ho); clear bM; clear HB; clear cd; have bM := af; have HB := ag; have qV := ah; clear af ag ah; clear ho hb hg hat; have rm : 0 ≤ (az : Int) := of_decide_eq_true AX; have rv : az < (l0.length : Int) := of_decide_eq_true AX; obtain ⟨Cq, Hd, rB, rq⟩ := iZ dr.out az rm rv; obtain rfl : om = Cq := (by injection Hd); replace rB := (HB.out.cell (World.block_lt_of_cell? w _ rB)).trans rB; replace rq := (HB.out.cell (World.block_lt_of_cell? w _ rq)).trans rq; replace rm := eq_true rm; replace rv := eq_true rv) | ((with_reducible refine gP (b := .append) (xs := #[.tmp 50, .tmp 55]) rfl ?_); at_builtin; refine Kd.ia dT (w0 := w) w.heap.size rfl (.tmp 50) (.tmp 55) 31 48 (.agg #[(.int .i64 0), (.int .i64 0)]) 16 rfl Try.underlying31 kg rfl (by decide) (by omega) G5 p5 (⟨(aq l0 az).f0, (aq l0 az).f1⟩ : aw) [.int .i64 ((aq l0 az).f0), .int .i64 ((aq l0 az).f1)] (fun k_ => k_ ≠ cP) (fun _ => False) rfl rfl ?aP (fun _ hk => hk.elim) ?aF ?aO ?aB ?aS ?aL ?_; (case aP => exact i5 _ _ _ (⟨(aq l0 az).f0, (aq l0 az).f1⟩ : aw)); (case aB => exact (by repeat (first | (with_reducible first | exact HB.out | apply aQ | apply aY | apply aT | refine ao ?_ d7.out) | exact HB.out))); (case aF => exact (fun k_ hk => Kd.gb (g := cP) (o := .cells #[.int .i64 aK, .int .i64 aM] 48 (0, 0)) (by (with_reducible repeat (first | refine bf ?_ _ | refine bd ?_ | refine aU ?_ _)); exact bM.out) k_ hk)); (case aO => exact (RX qV.out)); (case aS => exact (cG (by repeat (first | (with_reducible first | exact HB.out | apply aQ | apply aY | apply aT | refine ao ?_ d7.out) | exact HB.out)))); (case aL => have := QQ.out; omega); intro XG ug ho hb hg hat; rw [← Pb.out] at ho; have af := ae.mk (fe (g := cP) (o := .cells #[.int .i64 aK, .int .i64 aM] 48 (0, 0)) (by (with_reducible repeat (first | refine bf ?_ _ | refine bd ?_ | refine aU ?_ _)); exact bM.out) hg (Kd.j9 qV.out (fun _ hk => hk))); have ag := ae.mk (hb); have ah := ae.mk (ho); clear bM; clear HB; clear qV; have bM := af; have HB := ag; have NL := ah; clear af ag ah; clear ho hb hg hat)))
         go_roundg k1
         case measure => have := d1.out; omega
         case rel => exact ⟨(Xy), (true), (wrap64 (az + 1)), SX, SX, H', ⟨by have := d1.out; omega⟩, ⟨RX NL.out⟩, ⟨by (with_reducible repeat (first | refine bf ?_ _ | refine bd ?_ | refine aU ?_ _)); exact bM.out⟩, ⟨by repeat (first | (with_reducible first | exact HB.out | apply aQ | apply aY | apply aT | refine ao ?_ d7.out) | exact HB.out)⟩⟩
        ·rw [if_neg ji] at H
         exact absurd H (by simp)
       ·rw [if_neg gf] at H
        exact absurd H (by simp)
      ·rw [if_neg dO] at H
       have k6 : decide (aK < ((aq l0 az).f0)) = false := decide_eq_false dO
       clear dO
       by_cases en : aK = ((aq l0 az).f0)
       ·rw [if_pos en] at H
        have sy : (aK == ((aq l0 az).f0)) = true := beq_iff_eq.mpr en
        have Gd : (aK != ((aq l0 az).f0)) = false := bne_eq_false_iff_eq.mpr en
        clear en
        by_cases ip : aM < ((aq l0 az).f1)
        ·rw [if_pos ip] at H
         have zO : decide (aM < ((aq l0 az).f1)) = true := decide_eq_true ip
         clear ip
         by_cases fY : a_.length < 8796093022208
         ·rw [if_pos fY] at H
          have Gq := ae.mk fY
          clear fY
          obtain ⟨pM, Hg⟩ : ∃ y_ : List (aw), y_ = (a_ ++ [(⟨aK, aM⟩ : aw)]) := ⟨_, rfl⟩
          replace H : (if pM.length < 8796093022208 then (dK.l0 k1 l0 (pM ++ [(⟨(aq l0 az).f0, (aq l0 az).f1⟩ : aw)]) true (wrap64 (az + 1)) aK aM) else (none)) = some r := by first | (rw [Hg]; with_reducible exact H) | (have ca := (Option.bind_some _ _).symm.trans H; rw [Hg]; with_reducible exact ca) | (have ca := (Option.bind_some _ _).symm.trans H; with_reducible exact ca) | with_reducible exact H | (rw [Hg]; exact H) | exact H
          have Sq := ae.mk Hg
          clear Hg
          by_cases kI : pM.length < 8796093022208
          ·rw [if_pos kI] at H
           have Sc := ae.mk kI
           clear kI
           obtain ⟨T5, Gh⟩ : ∃ y_ : List (aw), y_ = (pM ++ [(⟨(aq l0 az).f0, (aq l0 az).f1⟩ : aw)]) := ⟨_, rfl⟩
           replace H : (dK.l0 k1 l0 T5 true (wrap64 (az + 1)) aK aM) = some r := by first | (rw [Gh]; with_reducible exact H) | (have ca := (Option.bind_some _ _).symm.trans H; rw [Gh]; with_reducible exact ca) | (have ca := (Option.bind_some _ _).symm.trans H; with_reducible exact ca) | with_reducible exact H | (rw [Gh]; exact H) | exact H
           have RZ := ae.mk Gh
           clear Gh
           have H' := ae.mk H
           clear H
           obtain ⟨s_, tc, tb, ut⟩ := oP bM
           have o9 : 0 ≤ (az : Int) := of_decide_eq_true AX
           have oV : az < (l0.length : Int) := of_decide_eq_true AX
           obtain ⟨om, yD, oX, oZ⟩ := iZ dr.out az o9 oV
           cases yD
           replace oX := (HB.out.cell (World.block_lt_of_cell? w _ oX)).trans oX
           replace oZ := (HB.out.cell (World.block_lt_of_cell? w _ oZ)).trans oZ
           replace o9 := eq_true o9
           replace oV := eq_true oV
           have rK : 0 ≤ (az : Int) := of_decide_eq_true AX
           have qY : az < (l0.length : Int) := of_decide_eq_true AX
           obtain ⟨Fn, Fa, rn, rr⟩ := iZ dr.out az rK qY
           obtain rfl : om = Fn := (by injection Fa)
           replace rn := (HB.out.cell (World.block_lt_of_cell? w _ rn)).trans rn
           replace rr := (HB.out.cell (World.block_lt_of_cell? w _ rr)).trans rr
           replace rK := eq_true rK
           replace qY := eq_true qY
           have xb : 0 ≤ (az : Int) := of_decide_eq_true AX
           have xL : az < (l0.length : Int) := of_decide_eq_true AX
           obtain ⟨LT, ND, zr, yn⟩ := iZ dr.out az xb xL
           obtain rfl : om = LT := (by injection ND)
           replace zr := (HB.out.cell (World.block_lt_of_cell? w _ zr)).trans zr
           replace yn := (HB.out.cell (World.block_lt_of_cell? w _ yn)).trans yn
           replace xb := eq_true xb
           replace xL := eq_true xL
           go_wp2_with (first | ((with_reducible refine gP (b := .append) (xs := #[.tmp 46, .tmp 48]) rfl ?_); at_builtin; refine Kd.ia dT (w0 := w) w.heap.size rfl (.tmp 46) (.tmp 48) 31 48 (.agg #[(.int .i64 0), (.int .i64 0)]) 16 rfl Try.underlying31 kg rfl (by decide) (by omega) u5 a_ (⟨aK, aM⟩ : aw) [.int .i64 aK, .int .i64 aM] (fun k_ => k_ ≠ cP) (fun _ => False) rfl rfl ?aP (fun _ hk => hk.elim) ?aF ?aO ?aB ?aS ?aL ?_; (case aP => exact i5 _ _ _ (⟨aK, aM⟩ : aw)); (case aB => exact (by repeat (first | (with_reducible first | exact HB.out | apply aQ | apply aY | apply aT | refine ao ?_ d7.out) | exact HB.out))); (case aF => exact (fun k_ hk => Kd.gb (g := cP) (o := .cells #[.int .i64 aK, .int .i64 aM] 48 (0, 0)) (by (with_reducible repeat (first | refine bf ?_ _ | refine bd ?_ | refine aU ?_ _)); exact bM.out) k_ hk)); (case aO => exact (RX cd.out)); (case aS => exact (cG (by repeat (first | (with_reducible first | exact HB.out | apply aQ | apply aY | apply aT | refine ao ?_ d7.out) | exact HB.out)))); (case aL => have := Gq.out; omega); intro CG Ez ho hb hg hat; rw [← Sq.out] at ho; have af := ae.mk (fe (g := cP) (o := .cells #[.int .i64 aK, .int .i64 aM] 48 (0, 0)) (by (with_reducible repeat (first | refine bf ?_ _ | refine bd ?_ | refine aU ?_ _)); exact bM.out) hg (Kd.j9 cd.out (fun _ hk => hk))); have ag := ae.mk (hb); have ah := ae.mk (ho); clear bM; clear HB; clear cd; have bM := af; have HB := ag; have rp := ah; clear af ag ah; clear ho hb hg hat; have rX : 0 ≤ (az : Int) := of_decide_eq_true AX; have qW : az < (l0.length : Int) := of_decide_eq_true AX; obtain ⟨Dd, Fi, rA, rO⟩ := iZ dr.out az rX qW; obtain rfl : om = Dd := (by injection Fi); replace rA := (HB.out.cell (World.block_lt_of_cell? w _ rA)).trans rA; replace rO := (HB.out.cell (World.block_lt_of_cell? w _ rO)).trans rO; replace rX := eq_true rX; replace qW := eq_true qW) | ((with_reducible refine gP (b := .append) (xs := #[.tmp 50, .tmp 55]) rfl ?_); at_builtin; refine Kd.ia dT (w0 := w) w.heap.size rfl (.tmp 50) (.tmp 55) 31 48 (.agg #[(.int .i64 0), (.int .i64 0)]) 16 rfl Try.underlying31 kg rfl (by decide) (by omega) CG pM (⟨(aq l0 az).f0, (aq l0 az).f1⟩ : aw) [.int .i64 ((aq l0 az).f0), .int .i64 ((aq l0 az).f1)] (fun k_ => k_ ≠ cP) (fun _ => False) rfl rfl ?aP (fun _ hk => hk.elim) ?aF ?aO ?aB ?aS ?aL ?_; (case aP => exact i5 _ _ _ (⟨(aq l0 az).f0, (aq l0 az).f1⟩ : aw)); (case aB => exact (by repeat (first | (with_reducible first | exact HB.out | apply aQ | apply aY | apply aT | refine ao ?_ d7.out) | exact HB.out))); (case aF => exact (fun k_ hk => Kd.gb (g := cP) (o := .cells #[.int .i64 aK, .int .i64 aM] 48 (0, 0)) (by (with_reducible repeat (first | refine bf ?_ _ | refine bd ?_ | refine aU ?_ _)); exact bM.out) k_ hk)); (case aO => exact (RX rp.out)); (case aS => exact (cG (by repeat (first | (with_reducible first | exact HB.out | apply aQ | apply aY | apply aT | refine ao ?_ d7.out) | exact HB.out)))); (case aL => have := Sc.out; omega); intro Y0 GJ ho hb hg hat; rw [← RZ.out] at ho; have af := ae.mk (fe (g := cP) (o := .cells #[.int .i64 aK, .int .i64 aM] 48 (0, 0)) (by (with_reducible repeat (first | refine bf ?_ _ | refine bd ?_ | refine aU ?_ _)); exact bM.out) hg (Kd.j9 rp.out (fun _ hk => hk))); have ag := ae.mk (hb); have ah := ae.mk (ho); clear bM; clear HB; clear rp; have bM := af; have HB := ag; have OV := ah; clear af ag ah; clear ho hb hg hat))
           repeat (go_quiet (first | ((with_reducible refine gP (b := .append) (xs := #[.tmp 46, .tmp 48]) rfl ?_); at_builtin; refine Kd.ia dT (w0 := w) w.heap.size rfl (.tmp 46) (.tmp 48) 31 48 (.agg #[(.int .i64 0), (.int .i64 0)]) 16 rfl Try.underlying31 kg rfl (by decide) (by omega) u5 a_ (⟨aK, aM⟩ : aw) [.int .i64 aK, .int .i64 aM] (fun k_ => k_ ≠ cP) (fun _ => False) rfl rfl ?aP (fun _ hk => hk.elim) ?aF ?aO ?aB ?aS ?aL ?_; (case aP => exact i5 _ _ _ (⟨aK, aM⟩ : aw)); (case aB => exact (by repeat (first | (with_reducible first | exact HB.out | apply aQ | apply aY | apply aT | refine ao ?_ d7.out) | exact HB.out))); (case aF => exact (fun k_ hk => Kd.gb (g := cP) (o := .cells #[.int .i64 aK, .int .i64 aM] 48 (0, 0)) (by (with_reducible repeat (first | refine bf ?_ _ | refine bd ?_ | refine aU ?_ _)); exact bM.out) k_ hk)); (case aO => exact (RX cd.out)); (case aS => exact (cG (by repeat (first | (with_reducible first | exact HB.out | apply aQ | apply aY | apply aT | refine ao ?_ d7.out) | exact HB.out)))); (case aL => have := Gq.out; omega); intro CG Ez ho hb hg hat; rw [← Sq.out] at ho; have af := ae.mk (fe (g := cP) (o := .cells #[.int .i64 aK, .int .i64 aM] 48 (0, 0)) (by (with_reducible repeat (first | refine bf ?_ _ | refine bd ?_ | refine aU ?_ _)); exact bM.out) hg (Kd.j9 cd.out (fun _ hk => hk))); have ag := ae.mk (hb); have ah := ae.mk (ho); clear bM; clear HB; clear cd; have bM := af; have HB := ag; have rp := ah; clear af ag ah; clear ho hb hg hat; have rX : 0 ≤ (az : Int) := of_decide_eq_true AX; have qW : az < (l0.length : Int) := of_decide_eq_true AX; obtain ⟨Dd, Fi, rA, rO⟩ := iZ dr.out az rX qW; obtain rfl : om = Dd := (by injection Fi); replace rA := (HB.out.cell (World.block_lt_of_cell? w _ rA)).trans rA; replace rO := (HB.out.cell (World.block_lt_of_cell? w _ rO)).trans rO; replace rX := eq_true rX; replace qW := eq_true qW) | ((with_reducible refine gP (b := .append) (xs := #[.tmp 50, .tmp 55]) rfl ?_); at_builtin; refine Kd.ia dT (w0 := w) w.heap.size rfl (.tmp 50) (.tmp 55) 31 48 (.agg #[(.int .i64 0), (.int .i64 0)]) 16 rfl Try.underlying31 kg rfl (by decide) (by omega) CG pM (⟨(aq l0 az).f0, (aq l0 az).f1⟩ : aw) [.int .i64 ((aq l0 az).f0), .int .i64 ((aq l0 az).f1)] (fun k_ => k_ ≠ cP) (fun _ => False) rfl rfl ?aP (fun _ hk => hk.elim) ?aF ?aO ?aB ?aS ?aL ?_; (case aP => exact i5 _ _ _ (⟨(aq l0 az).f0, (aq l0 az).f1⟩ : aw)); (case aB => exact (by repeat (first | (with_reducible first | exact HB.out | apply aQ | apply aY | apply aT | refine ao ?_ d7.out) | exact HB.out))); (case aF => exact (fun k_ hk => Kd.gb (g := cP) (o := .cells #[.int .i64 aK, .int .i64 aM] 48 (0, 0)) (by (with_reducible repeat (first | refine bf ?_ _ | refine bd ?_ | refine aU ?_ _)); exact bM.out) k_ hk)); (case aO => exact (RX rp.out)); (case aS => exact (cG (by repeat (first | (with_reducible first | exact HB.out | apply aQ | apply aY | apply aT | refine ao ?_ d7.out) | exact HB.out)))); (case aL => have := Sc.out; omega); intro Y0 GJ ho hb hg hat; rw [← RZ.out] at ho; have af := ae.mk (fe (g := cP) (o := .cells #[.int .i64 aK, .int .i64 aM] 48 (0, 0)) (by (with_reducible repeat (first | refine bf ?_ _ | refine bd ?_ | refine aU ?_ _)); exact bM.out) hg (Kd.j9 rp.out (fun _ hk => hk))); have ag := ae.mk (hb); have ah := ae.mk (ho); clear bM; clear HB; clear rp; have bM := af; have HB := ag; have OV := ah; clear af ag ah; clear ho hb hg hat)); try go_wp2_with (first | ((with_reducible refine gP (b := .append) (xs := #[.tmp 46, .tmp 48]) rfl ?_); at_builtin; refine Kd.ia dT (w0 := w) w.heap.size rfl (.tmp 46) (.tmp 48) 31 48 (.agg #[(.int .i64 0), (.int .i64 0)]) 16 rfl Try.underlying31 kg rfl (by decide) (by omega) u5 a_ (⟨aK, aM⟩ : aw) [.int .i64 aK, .int .i64 aM] (fun k_ => k_ ≠ cP) (fun _ => False) rfl rfl ?aP (fun _ hk => hk.elim) ?aF ?aO ?aB ?aS ?aL ?_; (case aP => exact i5 _ _ _ (⟨aK, aM⟩ : aw)); (case aB => exact (by repeat (first | (with_reducible first | exact HB.out | apply aQ | apply aY | apply aT | refine ao ?_ d7.out) | exact HB.out))); (case aF => exact (fun k_ hk => Kd.gb (g := cP) (o := .cells #[.int .i64 aK, .int .i64 aM] 48 (0, 0)) (by (with_reducible repeat (first | refine bf ?_ _ | refine bd ?_ | refine aU ?_ _)); exact bM.out) k_ hk)); (case aO => exact (RX cd.out)); (case aS => exact (cG (by repeat (first | (with_reducible first | exact HB.out | apply aQ | apply aY | apply aT | refine ao ?_ d7.out) | exact HB.out)))); (case aL => have := Gq.out; omega); intro CG Ez ho hb hg hat; rw [← Sq.out] at ho; have af := ae.mk (fe (g := cP) (o := .cells #[.int .i64 aK, .int .i64 aM] 48 (0, 0)) (by (with_reducible repeat (first | refine bf ?_ _ | refine bd ?_ | refine aU ?_ _)); exact bM.out) hg (Kd.j9 cd.out (fun _ hk => hk))); have ag := ae.mk (hb); have ah := ae.mk (ho); clear bM; clear HB; clear cd; have bM := af; have HB := ag; have rp := ah; clear af ag ah; clear ho hb hg hat; have rX : 0 ≤ (az : Int) := of_decide_eq_true AX; have qW : az < (l0.length : Int) := of_decide_eq_true AX; obtain ⟨Dd, Fi, rA, rO⟩ := iZ dr.out az rX qW; obtain rfl : om = Dd := (by injection Fi); replace rA := (HB.out.cell (World.block_lt_of_cell? w _ rA)).trans rA; replace rO := (HB.out.cell (World.block_lt_of_cell? w _ rO)).trans rO; replace rX := eq_true rX; replace qW := eq_true qW) | ((with_reducible refine gP (b := .append) (xs := #[.tmp 50, .tmp 55]) rfl ?_); at_builtin; refine Kd.ia dT (w0 := w) w.heap.size rfl (.tmp 50) (.tmp 55) 31 48 (.agg #[(.int .i64 0), (.int .i64 0)]) 16 rfl Try.underlying31 kg rfl (by decide) (by omega) CG pM (⟨(aq l0 az).f0, (aq l0 az).f1⟩ : aw) [.int .i64 ((aq l0 az).f0), .int .i64 ((aq l0 az).f1)] (fun k_ => k_ ≠ cP) (fun _ => False) rfl rfl ?aP (fun _ hk => hk.elim) ?aF ?aO ?aB ?aS ?aL ?_; (case aP => exact i5 _ _ _ (⟨(aq l0 az).f0, (aq l0 az).f1⟩ : aw)); (case aB => exact (by repeat (first | (with_reducible first | exact HB.out | apply aQ | apply aY | apply aT | refine ao ?_ d7.out) | exact HB.out))); (case aF => exact (fun k_ hk => Kd.gb (g := cP) (o := .cells #[.int .i64 aK, .int .i64 aM] 48 (0, 0)) (by (with_reducible repeat (first | refine bf ?_ _ | refine bd ?_ | refine aU ?_ _)); exact bM.out) k_ hk)); (case aO => exact (RX rp.out)); (case aS => exact (cG (by repeat (first | (with_reducible first | exact HB.out | apply aQ | apply aY | apply aT | refine ao ?_ d7.out) | exact HB.out)))); (case aL => have := Sc.out; omega); intro Y0 GJ ho hb hg hat; rw [← RZ.out] at ho; have af := ae.mk (fe (g := cP) (o := .cells #[.int .i64 aK, .int .i64 aM] 48 (0, 0)) (by (with_reducible repeat (first | refine bf ?_ _ | refine bd ?_ | refine aU ?_ _)); exact bM.out) hg (Kd.j9 rp.out (fun _ hk => hk))); have ag := ae.mk (hb); have ah := ae.mk (ho); clear bM; clear HB; clear rp; have bM := af; have HB := ag; have OV := ah; clear af ag ah; clear ho hb hg hat)))
           go_roundg k1
           case measure => have := d1.out; omega
           case rel => exact ⟨(T5), (true), (wrap64 (az + 1)), SX, SX, H', ⟨by have := d1.out; omega⟩, ⟨RX OV.out⟩, ⟨by (with_reducible repeat (first | refine bf ?_ _ | refine bd ?_ | refine aU ?_ _)); exact bM.out⟩, ⟨by repeat (first | (with_reducible first | exact HB.out | apply aQ | apply aY | apply aT | refine ao ?_ d7.out) | exact HB.out)⟩⟩
          ·rw [if_neg kI] at H
           exact absurd H (by simp)
         ·rw [if_neg fY] at H
          exact absurd H (by simp)
        ·rw [if_neg ip] at H
         have zO : decide (aM < ((aq l0 az).f1)) = false := decide_eq_false ip
         clear ip
         by_cases mL : a_.length < 8796093022208
         ·rw [if_pos mL] at H
          have MN := ae.mk mL
          clear mL
          obtain ⟨VB, FL⟩ : ∃ y_ : List (aw), y_ = (a_ ++ [(⟨(aq l0 az).f0, (aq l0 az).f1⟩ : aw)]) := ⟨_, rfl⟩
          replace H : (dK.l0 k1 l0 VB false (wrap64 (az + 1)) aK aM) = some r := by first | (rw [FL]; with_reducible exact H) | (have ca := (Option.bind_some _ _).symm.trans H; rw [FL]; with_reducible exact ca) | (have ca := (Option.bind_some _ _).symm.trans H; with_reducible exact ca) | with_reducible exact H | (rw [FL]; exact H) | exact H
          have OU := ae.mk FL
          clear FL
          have H' := ae.mk H
          clear H
          obtain ⟨IT, Je, Lc, Jr⟩ := oP bM
          have o9 : 0 ≤ (az : Int) := of_decide_eq_true AX
          have oV : az < (l0.length : Int) := of_decide_eq_true AX
          obtain ⟨om, yD, oX, oZ⟩ := iZ dr.out az o9 oV
          cases yD
          replace oX := (HB.out.cell (World.block_lt_of_cell? w _ oX)).trans oX
          replace oZ := (HB.out.cell (World.block_lt_of_cell? w _ oZ)).trans oZ
          replace o9 := eq_true o9
          replace oV := eq_true oV
          have rK : 0 ≤ (az : Int) := of_decide_eq_true AX
          have qY : az < (l0.length : Int) := of_decide_eq_true AX
          obtain ⟨Fn, Fa, rn, rr⟩ := iZ dr.out az rK qY
          obtain rfl : om = Fn := (by injection Fa)
          replace rn := (HB.out.cell (World.block_lt_of_cell? w _ rn)).trans rn
          replace rr := (HB.out.cell (World.block_lt_of_cell? w _ rr)).trans rr
          replace rK := eq_true rK
          replace qY := eq_true qY
          have xb : 0 ≤ (az : Int) := of_decide_eq_true AX
          have xL : az < (l0.length : Int) := of_decide_eq_true AX
          obtain ⟨LT, ND, zr, yn⟩ := iZ dr.out az xb xL
          obtain rfl : om = LT := (by injection ND)
          replace zr := (HB.out.cell (World.block_lt_of_cell? w _ zr)).trans zr
          replace yn := (HB.out.cell (World.block_lt_of_cell? w _ yn)).trans yn
          replace xb := eq_true xb
          replace xL := eq_true xL
          have L_ : 0 ≤ (az : Int) := of_decide_eq_true AX
          have Si : az < (l0.length : Int) := of_decide_eq_true AX
          obtain ⟨ZX, e297, LO, M7⟩ := iZ dr.out az L_ Si
          obtain rfl : om = ZX := (by injection e297)
          replace LO := (HB.out.cell (World.block_lt_of_cell? w _ LO)).trans LO
          replace M7 := (HB.out.cell (World.block_lt_of_cell? w _ M7)).trans M7
          replace L_ := eq_true L_
          replace Si := eq_true Si
          go_wp2_with (first | ((with_reducible refine gP (b := .append) (xs := #[.tmp 50, .tmp 55]) rfl ?_); at_builtin; refine Kd.ia dT (w0 := w) w.heap.size rfl (.tmp 50) (.tmp 55) 31 48 (.agg #[(.int .i64 0), (.int .i64 0)]) 16 rfl Try.underlying31 kg rfl (by decide) (by omega) u5 a_ (⟨(aq l0 az).f0, (aq l0 az).f1⟩ : aw) [.int .i64 ((aq l0 az).f0), .int .i64 ((aq l0 az).f1)] (fun k_ => k_ ≠ cP) (fun _ => False) rfl rfl ?aP (fun _ hk => hk.elim) ?aF ?aO ?aB ?aS ?aL ?_; (case aP => exact i5 _ _ _ (⟨(aq l0 az).f0, (aq l0 az).f1⟩ : aw)); (case aB => exact (by repeat (first | (with_reducible first | exact HB.out | apply aQ | apply aY | apply aT | refine ao ?_ d7.out) | exact HB.out))); (case aF => exact (fun k_ hk => Kd.gb (g := cP) (o := .cells #[.int .i64 aK, .int .i64 aM] 48 (0, 0)) (by (with_reducible repeat (first | refine bf ?_ _ | refine bd ?_ | refine aU ?_ _)); exact bM.out) k_ hk)); (case aO => exact (RX cd.out)); (case aS => exact (cG (by repeat (first | (with_reducible first | exact HB.out | apply aQ | apply aY | apply aT | refine ao ?_ d7.out) | exact HB.out)))); (case aL => have := MN.out; omega); intro YM Yt ho hb hg hat; rw [← OU.out] at ho; have af := ae.mk (fe (g := cP) (o := .cells #[.int .i64 aK, .int .i64 aM] 48 (0, 0)) (by (with_reducible repeat (first | refine bf ?_ _ | refine bd ?_ | refine aU ?_ _)); exact bM.out) hg (Kd.j9 cd.out (fun _ hk => hk))); have ag := ae.mk (hb); have ah := ae.mk (ho); clear bM; clear HB; clear cd; have bM := af; have HB := ag; have RP := ah; clear af ag ah; clear ho hb hg hat))
          repeat (go_quiet (first | ((with_reducible refine gP (b := .append) (xs := #[.tmp 50, .tmp 55]) rfl ?_); at_builtin; refine Kd.ia dT (w0 := w) w.heap.size rfl (.tmp 50) (.tmp 55) 31 48 (.agg #[(.int .i64 0), (.int .i64 0)]) 16 rfl Try.underlying31 kg rfl (by decide) (by omega) u5 a_ (⟨(aq l0 az).f0, (aq l0 az).f1⟩ : aw) [.int .i64 ((aq l0 az).f0), .int .i64 ((aq l0 az).f1)] (fun k_ => k_ ≠ cP) (fun _ => False) rfl rfl ?aP (fun _ hk => hk.elim) ?aF ?aO ?aB ?aS ?aL ?_; (case aP => exact i5 _ _ _ (⟨(aq l0 az).f0, (aq l0 az).f1⟩ : aw)); (case aB => exact (by repeat (first | (with_reducible first | exact HB.out | apply aQ | apply aY | apply aT | refine ao ?_ d7.out) | exact HB.out))); (case aF => exact (fun k_ hk => Kd.gb (g := cP) (o := .cells #[.int .i64 aK, .int .i64 aM] 48 (0, 0)) (by (with_reducible repeat (first | refine bf ?_ _ | refine bd ?_ | refine aU ?_ _)); exact bM.out) k_ hk)); (case aO => exact (RX cd.out)); (case aS => exact (cG (by repeat (first | (with_reducible first | exact HB.out | apply aQ | apply aY | apply aT | refine ao ?_ d7.out) | exact HB.out)))); (case aL => have := MN.out; omega); intro YM Yt ho hb hg hat; rw [← OU.out] at ho; have af := ae.mk (fe (g := cP) (o := .cells #[.int .i64 aK, .int .i64 aM] 48 (0, 0)) (by (with_reducible repeat (first | refine bf ?_ _ | refine bd ?_ | refine aU ?_ _)); exact bM.out) hg (Kd.j9 cd.out (fun _ hk => hk))); have ag := ae.mk (hb); have ah := ae.mk (ho); clear bM; clear HB; clear cd; have bM := af; have HB := ag; have RP := ah; clear af ag ah; clear ho hb hg hat)); try go_wp2_with (first | ((with_reducible refine gP (b := .append) (xs := #[.tmp 50, .tmp 55]) rfl ?_); at_builtin; refine Kd.ia dT (w0 := w) w.heap.size rfl (.tmp 50) (.tmp 55) 31 48 (.agg #[(.int .i64 0), (.int .i64 0)]) 16 rfl Try.underlying31 kg rfl (by decide) (by omega) u5 a_ (⟨(aq l0 az).f0, (aq l0 az).f1⟩ : aw) [.int .i64 ((aq l0 az).f0), .int .i64 ((aq l0 az).f1)] (fun k_ => k_ ≠ cP) (fun _ => False) rfl rfl ?aP (fun _ hk => hk.elim) ?aF ?aO ?aB ?aS ?aL ?_; (case aP => exact i5 _ _ _ (⟨(aq l0 az).f0, (aq l0 az).f1⟩ : aw)); (case aB => exact (by repeat (first | (with_reducible first | exact HB.out | apply aQ | apply aY | apply aT | refine ao ?_ d7.out) | exact HB.out))); (case aF => exact (fun k_ hk => Kd.gb (g := cP) (o := .cells #[.int .i64 aK, .int .i64 aM] 48 (0, 0)) (by (with_reducible repeat (first | refine bf ?_ _ | refine bd ?_ | refine aU ?_ _)); exact bM.out) k_ hk)); (case aO => exact (RX cd.out)); (case aS => exact (cG (by repeat (first | (with_reducible first | exact HB.out | apply aQ | apply aY | apply aT | refine ao ?_ d7.out) | exact HB.out)))); (case aL => have := MN.out; omega); intro YM Yt ho hb hg hat; rw [← OU.out] at ho; have af := ae.mk (fe (g := cP) (o := .cells #[.int .i64 aK, .int .i64 aM] 48 (0, 0)) (by (with_reducible repeat (first | refine bf ?_ _ | refine bd ?_ | refine aU ?_ _)); exact bM.out) hg (Kd.j9 cd.out (fun _ hk => hk))); have ag := ae.mk (hb); have ah := ae.mk (ho); clear bM; clear HB; clear cd; have bM := af; have HB := ag; have RP := ah; clear af ag ah; clear ho hb hg hat)))
          go_roundg k1
          case measure => have := d1.out; omega
          case rel => exact ⟨(VB), (false), (wrap64 (az + 1)), SX, SX, H', ⟨by have := d1.out; omega⟩, ⟨RX RP.out⟩, ⟨by (with_reducible repeat (first | refine bf ?_ _ | refine bd ?_ | refine aU ?_ _)); exact bM.out⟩, ⟨by repeat (first | (with_reducible first | exact HB.out | apply aQ | apply aY | apply aT | refine ao ?_ d7.out) | exact HB.out)⟩⟩
         ·rw [if_neg mL] at H
          exact absurd H (by simp)
       ·rw [if_neg en] at H
        have sy : (aK == ((aq l0 az).f0)) = false := beq_eq_false_iff_ne.mpr en
        have Gd : (aK != ((aq l0 az).f0)) = true := bne_iff_ne.mpr en
        by_cases jN : a_.length < 8796093022208
        ·rw [if_pos jN] at H
         have Ry := ae.mk jN
         clear jN
         obtain ⟨TY, D_⟩ : ∃ y_ : List (aw), y_ = (a_ ++ [(⟨(aq l0 az).f0, (aq l0 az).f1⟩ : aw)]) := ⟨_, rfl⟩
         replace H : (dK.l0 k1 l0 TY false (wrap64 (az + 1)) aK aM) = some r := by first | (rw [D_]; with_reducible exact H) | (have ca := (Option.bind_some _ _).symm.trans H; rw [D_]; with_reducible exact ca) | (have ca := (Option.bind_some _ _).symm.trans H; with_reducible exact ca) | with_reducible exact H | (rw [D_]; exact H) | exact H
         have Qg := ae.mk D_
         clear D_
         have H' := ae.mk H
         clear H
         obtain ⟨Ic, Kz, J7, Jw⟩ := oP bM
         have o9 : 0 ≤ (az : Int) := of_decide_eq_true AX
         have oV : az < (l0.length : Int) := of_decide_eq_true AX
         obtain ⟨om, yD, oX, oZ⟩ := iZ dr.out az o9 oV
         cases yD
         replace oX := (HB.out.cell (World.block_lt_of_cell? w _ oX)).trans oX
         replace oZ := (HB.out.cell (World.block_lt_of_cell? w _ oZ)).trans oZ
         replace o9 := eq_true o9
         replace oV := eq_true oV
         have rK : 0 ≤ (az : Int) := of_decide_eq_true AX
         have qY : az < (l0.length : Int) := of_decide_eq_true AX
         obtain ⟨Fn, Fa, rn, rr⟩ := iZ dr.out az rK qY
         obtain rfl : om = Fn := (by injection Fa)
         replace rn := (HB.out.cell (World.block_lt_of_cell? w _ rn)).trans rn
         replace rr := (HB.out.cell (World.block_lt_of_cell? w _ rr)).trans rr
         replace rK := eq_true rK
         replace qY := eq_true qY
         have Nd : 0 ≤ (az : Int) := of_decide_eq_true AX
         have Qd : az < (l0.length : Int) := of_decide_eq_true AX
         obtain ⟨afE, e301, Lq, Rj⟩ := iZ dr.out az Nd Qd
         obtain rfl : om = afE := (by injection e301)
         replace Lq := (HB.out.cell (World.block_lt_of_cell? w _ Lq)).trans Lq
         replace Rj := (HB.out.cell (World.block_lt_of_cell? w _ Rj)).trans Rj
         replace Nd := eq_true Nd
         replace Qd := eq_true Qd
         go_wp2_with (first | ((with_reducible refine gP (b := .append) (xs := #[.tmp 50, .tmp 55]) rfl ?_); at_builtin; refine Kd.ia dT (w0 := w) w.heap.size rfl (.tmp 50) (.tmp 55) 31 48 (.agg #[(.int .i64 0), (.int .i64 0)]) 16 rfl Try.underlying31 kg rfl (by decide) (by omega) u5 a_ (⟨(aq l0 az).f0, (aq l0 az).f1⟩ : aw) [.int .i64 ((aq l0 az).f0), .int .i64 ((aq l0 az).f1)] (fun k_ => k_ ≠ cP) (fun _ => False) rfl rfl ?aP (fun _ hk => hk.elim) ?aF ?aO ?aB ?aS ?aL ?_; (case aP => exact i5 _ _ _ (⟨(aq l0 az).f0, (aq l0 az).f1⟩ : aw)); (case aB => exact (by repeat (first | (with_reducible first | exact HB.out | apply aQ | apply aY | apply aT | refine ao ?_ d7.out) | exact HB.out))); (case aF => exact (fun k_ hk => Kd.gb (g := cP) (o := .cells #[.int .i64 aK, .int .i64 aM] 48 (0, 0)) (by (with_reducible repeat (first | refine bf ?_ _ | refine bd ?_ | refine aU ?_ _)); exact bM.out) k_ hk)); (case aO => exact (RX cd.out)); (case aS => exact (cG (by repeat (first | (with_reducible first | exact HB.out | apply aQ | apply aY | apply aT | refine ao ?_ d7.out) | exact HB.out)))); (case aL => have := Ry.out; omega); intro XW uC ho hb hg hat; rw [← Qg.out] at ho; have af := ae.mk (fe (g := cP) (o := .cells #[.int .i64 aK, .int .i64 aM] 48 (0, 0)) (by (with_reducible repeat (first | refine bf ?_ _ | refine bd ?_ | refine aU ?_ _)); exact bM.out) hg (Kd.j9 cd.out (fun _ hk => hk))); have ag := ae.mk (hb); have ah := ae.mk (ho); clear bM; clear HB; clear cd; have bM := af; have HB := ag; have N4 := ah; clear af ag ah; clear ho hb hg hat))
         repeat (go_quiet (first | ((with_reducible refine gP (b := .append) (xs := #[.tmp 50, .tmp 55]) rfl ?_); at_builtin; refine Kd.ia dT (w0 := w) w.heap.size rfl (.tmp 50) (.tmp 55) 31 48 (.agg #[(.int .i64 0), (.int .i64 0)]) 16 rfl Try.underlying31 kg rfl (by decide) (by omega) u5 a_ (⟨(aq l0 az).f0, (aq l0 az).f1⟩ : aw) [.int .i64 ((aq l0 az).f0), .int .i64 ((aq l0 az).f1)] (fun k_ => k_ ≠ cP) (fun _ => False) rfl rfl ?aP (fun _ hk => hk.elim) ?aF ?aO ?aB ?aS ?aL ?_; (case aP => exact i5 _ _ _ (⟨(aq l0 az).f0, (aq l0 az).f1⟩ : aw)); (case aB => exact (by repeat (first | (with_reducible first | exact HB.out | apply aQ | apply aY | apply aT | refine ao ?_ d7.out) | exact HB.out))); (case aF => exact (fun k_ hk => Kd.gb (g := cP) (o := .cells #[.int .i64 aK, .int .i64 aM] 48 (0, 0)) (by (with_reducible repeat (first | refine bf ?_ _ | refine bd ?_ | refine aU ?_ _)); exact bM.out) k_ hk)); (case aO => exact (RX cd.out)); (case aS => exact (cG (by repeat (first | (with_reducible first | exact HB.out | apply aQ | apply aY | apply aT | refine ao ?_ d7.out) | exact HB.out)))); (case aL => have := Ry.out; omega); intro XW uC ho hb hg hat; rw [← Qg.out] at ho; have af := ae.mk (fe (g := cP) (o := .cells #[.int .i64 aK, .int .i64 aM] 48 (0, 0)) (by (with_reducible repeat (first | refine bf ?_ _ | refine bd ?_ | refine aU ?_ _)); exact bM.out) hg (Kd.j9 cd.out (fun _ hk => hk))); have ag := ae.mk (hb); have ah := ae.mk (ho); clear bM; clear HB; clear cd; have bM := af; have HB := ag; have N4 := ah; clear af ag ah; clear ho hb hg hat)); try go_wp2_with (first | ((with_reducible refine gP (b := .append) (xs := #[.tmp 50, .tmp 55]) rfl ?_); at_builtin; refine Kd.ia dT (w0 := w) w.heap.size rfl (.tmp 50) (.tmp 55) 31 48 (.agg #[(.int .i64 0), (.int .i64 0)]) 16 rfl Try.underlying31 kg rfl (by decide) (by omega) u5 a_ (⟨(aq l0 az).f0, (aq l0 az).f1⟩ : aw) [.int .i64 ((aq l0 az).f0), .int .i64 ((aq l0 az).f1)] (fun k_ => k_ ≠ cP) (fun _ => False) rfl rfl ?aP (fun _ hk => hk.elim) ?aF ?aO ?aB ?aS ?aL ?_; (case aP => exact i5 _ _ _ (⟨(aq l0 az).f0, (aq l0 az).f1⟩ : aw)); (case aB => exact (by repeat (first | (with_reducible first | exact HB.out | apply aQ | apply aY | apply aT | refine ao ?_ d7.out) | exact HB.out))); (case aF => exact (fun k_ hk => Kd.gb (g := cP) (o := .cells #[.int .i64 aK, .int .i64 aM] 48 (0, 0)) (by (with_reducible repeat (first | refine bf ?_ _ | refine bd ?_ | refine aU ?_ _)); exact bM.out) k_ hk)); (case aO => exact (RX cd.out)); (case aS => exact (cG (by repeat (first | (with_reducible first | exact HB.out | apply aQ | apply aY | apply aT | refine ao ?_ d7.out) | exact HB.out)))); (case aL => have := Ry.out; omega); intro XW uC ho hb hg hat; rw [← Qg.out] at ho; have af := ae.mk (fe (g := cP) (o := .cells #[.int .i64 aK, .int .i64 aM] 48 (0, 0)) (by (with_reducible repeat (first | refine bf ?_ _ | refine bd ?_ | refine aU ?_ _)); exact bM.out) hg (Kd.j9 cd.out (fun _ hk => hk))); have ag := ae.mk (hb); have ah := ae.mk (ho); clear bM; clear HB; clear cd; have bM := af; have HB := ag; have N4 := ah; clear af ag ah; clear ho hb hg hat)))
         go_roundg k1
         case measure => have := d1.out; omega
         case rel => exact ⟨(TY), (false), (wrap64 (az + 1)), SX, SX, H', ⟨by have := d1.out; omega⟩, ⟨RX N4.out⟩, ⟨by (with_reducible repeat (first | refine bf ?_ _ | refine bd ?_ | refine aU ?_ _)); exact bM.out⟩, ⟨by repeat (first | (with_reducible first | exact HB.out | apply aQ | apply aY | apply aT | refine ao ?_ d7.out) | exact HB.out)⟩⟩
        ·rw [if_neg jN] at H
         exact absurd H (by simp)
     ·rw [if_neg c9] at H
      exact absurd H (by simp)
   ·rw [if_neg c4] at H
    have nN : decide (az < (l0.length : Int)) = false := decide_eq_false c4
    clear c4
    by_cases mG : dV = true
    ·subst mG
     have H1 : (some a_) = some r := by rw [if_pos rfl] at H; exact H
     clear H
     have H := H1
     clear H1
     obtain rfl := Option.some.inj H
     go_wp2
     repeat (go_quiet (fail); try go_wp2)
     go_ret
     exact ⟨_, by first | rfl | (simp [bY, bX] <;> rfl) | (simp [*, bY, bX] <;> rfl), by (with_reducible repeat (first | apply Kd.nX | apply Kd.ot | apply Kd.jj)); exact Kd.cm cd.out (fun _ hk => trivial), by repeat (first | (with_reducible first | exact HB.out | apply aQ | apply aY | apply aT | refine ao ?_ d7.out) | exact HB.out)⟩
    ·replace mG := Bool.eq_false_iff.mpr mG
     subst mG
     have H1 : (if a_.length < 8796093022208 then (some (a_ ++ [(⟨aK, aM⟩ : aw)])) else (none)) = some r := by rw [if_neg (show ¬ (false = true) by decide)] at H; exact H
     clear H
     have H := H1
     clear H1
     by_cases mr : a_.length < 8796093022208
     ·rw [if_pos mr] at H
      have Qy := ae.mk mr
      clear mr
      obtain ⟨ag3, EB⟩ : ∃ y_ : List (aw), y_ = (a_ ++ [(⟨aK, aM⟩ : aw)]) := ⟨_, rfl⟩
      replace H : (some ag3) = some r := by first | (rw [EB]; with_reducible exact H) | (have ca := (Option.bind_some _ _).symm.trans H; rw [EB]; with_reducible exact ca) | (have ca := (Option.bind_some _ _).symm.trans H; with_reducible exact ca) | with_reducible exact H | (rw [EB]; exact H) | exact H
      have LS := ae.mk EB
      clear EB
      obtain rfl := Option.some.inj H
      obtain ⟨yP, xQ, wH, wL⟩ := oP bM
      go_wp2_with (first | ((with_reducible refine gP (b := .append) (xs := #[.tmp 59, .tmp 61]) rfl ?_); at_builtin; refine Kd.ia dT (w0 := w) w.heap.size rfl (.tmp 59) (.tmp 61) 31 48 (.agg #[(.int .i64 0), (.int .i64 0)]) 16 rfl Try.underlying31 kg rfl (by decide) (by omega) u5 a_ (⟨aK, aM⟩ : aw) [.int .i64 aK, .int .i64 aM] (fun k_ => k_ ≠ cP) (fun _ => False) rfl rfl ?aP (fun _ hk => hk.elim) ?aF ?aO ?aB ?aS ?aL ?_; (case aP => exact i5 _ _ _ (⟨aK, aM⟩ : aw)); (case aB => exact (by repeat (first | (with_reducible first | exact HB.out | apply aQ | apply aY | apply aT | refine ao ?_ d7.out) | exact HB.out))); (case aF => exact (fun k_ hk => Kd.gb (g := cP) (o := .cells #[.int .i64 aK, .int .i64 aM] 48 (0, 0)) (by (with_reducible repeat (first | refine bf ?_ _ | refine bd ?_ | refine aU ?_ _)); exact bM.out) k_ hk)); (case aO => exact (RX cd.out)); (case aS => exact (cG (by repeat (first | (with_reducible first | exact HB.out | apply aQ | apply aY | apply aT | refine ao ?_ d7.out) | exact HB.out)))); (case aL => have := Qy.out; omega); intro U9 Cf ho hb hg hat; rw [← LS.out] at ho; have af := ae.mk (fe (g := cP) (o := .cells #[.int .i64 aK, .int .i64 aM] 48 (0, 0)) (by (with_reducible repeat (first | refine bf ?_ _ | refine bd ?_ | refine aU ?_ _)); exact bM.out) hg (Kd.j9 cd.out (fun _ hk => hk))); have ag := ae.mk (hb); have ah := ae.mk (ho); clear bM; clear HB; clear cd; have bM := af; have HB := ag; have Rv := ah; clear af ag ah; clear ho hb hg hat))
      repeat (go_quiet (first | ((with_reducible refine gP (b := .append) (xs := #[.tmp 59, .tmp 61]) rfl ?_); at_builtin; refine Kd.ia dT (w0 := w) w.heap.size rfl (.tmp 59) (.tmp 61) 31 48 (.agg #[(.int .i64 0), (.int .i64 0)]) 16 rfl Try.underlying31 kg rfl (by decide) (by omega) u5 a_ (⟨aK, aM⟩ : aw) [.int .i64 aK, .int .i64 aM] (fun k_ => k_ ≠ cP) (fun _ => False) rfl rfl ?aP (fun _ hk => hk.elim) ?aF ?aO ?aB ?aS ?aL ?_; (case aP => exact i5 _ _ _ (⟨aK, aM⟩ : aw)); (case aB => exact (by repeat (first | (with_reducible first | exact HB.out | apply aQ | apply aY | apply aT | refine ao ?_ d7.out) | exact HB.out))); (case aF => exact (fun k_ hk => Kd.gb (g := cP) (o := .cells #[.int .i64 aK, .int .i64 aM] 48 (0, 0)) (by (with_reducible repeat (first | refine bf ?_ _ | refine bd ?_ | refine aU ?_ _)); exact bM.out) k_ hk)); (case aO => exact (RX cd.out)); (case aS => exact (cG (by repeat (first | (with_reducible first | exact HB.out | apply aQ | apply aY | apply aT | refine ao ?_ d7.out) | exact HB.out)))); (case aL => have := Qy.out; omega); intro U9 Cf ho hb hg hat; rw [← LS.out] at ho; have af := ae.mk (fe (g := cP) (o := .cells #[.int .i64 aK, .int .i64 aM] 48 (0, 0)) (by (with_reducible repeat (first | refine bf ?_ _ | refine bd ?_ | refine aU ?_ _)); exact bM.out) hg (Kd.j9 cd.out (fun _ hk => hk))); have ag := ae.mk (hb); have ah := ae.mk (ho); clear bM; clear HB; clear cd; have bM := af; have HB := ag; have Rv := ah; clear af ag ah; clear ho hb hg hat)); try go_wp2_with (first | ((with_reducible refine gP (b := .append) (xs := #[.tmp 59, .tmp 61]) rfl ?_); at_builtin; refine Kd.ia dT (w0 := w) w.heap.size rfl (.tmp 59) (.tmp 61) 31 48 (.agg #[(.int .i64 0), (.int .i64 0)]) 16 rfl Try.underlying31 kg rfl (by decide) (by omega) u5 a_ (⟨aK, aM⟩ : aw) [.int .i64 aK, .int .i64 aM] (fun k_ => k_ ≠ cP) (fun _ => False) rfl rfl ?aP (fun _ hk => hk.elim) ?aF ?aO ?aB ?aS ?aL ?_; (case aP => exact i5 _ _ _ (⟨aK, aM⟩ : aw)); (case aB => exact (by repeat (first | (with_reducible first | exact HB.out | apply aQ | apply aY | apply aT | refine ao ?_ d7.out) | exact HB.out))); (case aF => exact (fun k_ hk => Kd.gb (g := cP) (o := .cells #[.int .i64 aK, .int .i64 aM] 48 (0, 0)) (by (with_reducible repeat (first | refine bf ?_ _ | refine bd ?_ | refine aU ?_ _)); exact bM.out) k_ hk)); (case aO => exact (RX cd.out)); (case aS => exact (cG (by repeat (first | (with_reducible first | exact HB.out | apply aQ | apply aY | apply aT | refine ao ?_ d7.out) | exact HB.out)))); (case aL => have := Qy.out; omega); intro U9 Cf ho hb hg hat; rw [← LS.out] at ho; have af := ae.mk (fe (g := cP) (o := .cells #[.int .i64 aK, .int .i64 aM] 48 (0, 0)) (by (with_reducible repeat (first | refine bf ?_ _ | refine bd ?_ | refine aU ?_ _)); exact bM.out) hg (Kd.j9 cd.out (fun _ hk => hk))); have ag := ae.mk (hb); have ah := ae.mk (ho); clear bM; clear HB; clear cd; have bM := af; have HB := ag; have Rv := ah; clear af ag ah; clear ho hb hg hat)))
      go_ret
      exact ⟨_, by first | rfl | (simp [bY, bX] <;> rfl) | (simp [*, bY, bX] <;> rfl), by (with_reducible repeat (first | apply Kd.nX | apply Kd.ot | apply Kd.jj)); exact Kd.cm Rv.out (fun _ hk => trivial), by repeat (first | (with_reducible first | exact HB.out | apply aQ | apply aY | apply aT | refine ao ?_ d7.out) | exact HB.out)⟩
     ·rw [if_neg mr] at H
      exact absurd H (by simp)
end Go.Proofs.Ytcfjdehpbckomaa.Q
