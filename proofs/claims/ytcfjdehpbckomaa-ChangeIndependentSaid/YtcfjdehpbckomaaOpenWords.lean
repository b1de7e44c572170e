/- What an argument that reads as data is, told in the words of the printed contracts: whole numbers, strings, slices, structs, trees, with the bounds that the form's reach gives. -/
import Derived.LaidMore
import Derived.OpenShut
import Derived.SizedLaws
import Derived.ChangeMaps
import Derived.Test.YtcfjdehpbckomaaWWords
namespace Go.Proofs.Ytcfjdehpbckomaa.Open
open Go.ChangeShapes Go.WideShapes Go.RowKit Go.Proofs.YtcfjdehpbckomaaW.dS
structure Opens (P : Program) (t : TypeId) {α : Type} (d : Kd α) (ok : α → Prop) (n : Nat) : Prop where
  sz : P.cellsOf t = d.sz
  go : ∀ {H : Type} {enc : TypeId × Value → H} {w : World} {base : Nat} {spare : Nat → Bool} {held : Bool} {fuel : Nat} {cs : List Value} {x : DataW H × List MemPlace}, fuel ≤ n →
    DataW.trod enc P w base spare held fuel t cs = some x → (∀ m ∈ x.1.weights P t, m ≤ reachBytes) → ∃ a, d.K w a cs ∧ ok a
theorem Opens.int {P : Program} {t : TypeId} {k : IntKind} (ht : P.underlying t = some (.int k)) (hc : P.cellsOf t = 1) (n : Nat) : Opens P t (Kd.int k) (fun a => (Lit.int k a).wf = true) n :=
  ⟨hc, fun _ h _ => by
    obtain ⟨a, rfl, _, hw⟩ := DataW.trod_int ht h
    exact ⟨a, rfl, hw⟩⟩
theorem Opens.bool {P : Program} {t : TypeId} (ht : P.underlying t = some .bool) (hc : P.cellsOf t = 1) (n : Nat) : Opens P t Kd.bool (fun _ => True) n :=
  ⟨hc, fun _ h _ => by
    obtain ⟨a, rfl, _⟩ := DataW.trod_bool ht h
    exact ⟨a, rfl, trivial⟩⟩
theorem Opens.string {P : Program} {t : TypeId} (ht : P.underlying t = some .string) (hc : P.cellsOf t = 1) (n : Nat) : Opens P t Kd.string (fun s => s.size ≤ 140737488351232) n :=
  ⟨hc, fun _ h hw => by
    obtain ⟨s, rfl, rfl, _⟩ := DataW.trod_string ht h
    refine ⟨s, rfl, ?_⟩
    have := hw s.data.toList.length (by simp [DataW.weights])
    simpa [reachBytes] using this⟩
theorem Y5 {H : Type} {P : Program} {e : TypeId} : ∀ {l : List (DataW H)} {d : DataW H}, d ∈ l → ∀ m ∈ d.weights P e, m ∈ DataW.weightsAll P e l
  | [], _, h, _, _ => by cases h
  | a :: r, d, h, m, hm => by
    rw [DataW.weightsAll, List.mem_append]
    rcases List.mem_cons.1 h with e | e
    · subst e; exact .inl hm
    · exact .inr (Y5 e m hm)
theorem agG {w : World} {base : Nat} {a : Addr} {n : Nat} {c : List Value} (h : w.cells? base a n = some c) : c.length = n ∧ ∀ i u, c[i]? = some u → w.cell? (a.add i) = some u := by
  obtain ⟨_, hl, hc⟩ := World.cells?_some h
  exact ⟨hl, fun i u hu => (hc i (by have := (List.getElem?_eq_some_iff.1 hu).1; omega)).trans hu⟩
theorem Opens.slice {P : Program} {t e : TypeId} {α : Type} {d : Kd α} {ok : α → Prop} {n B : Nat} (ht : P.underlying t = some (.slice e)) (hc : P.cellsOf t = 1) (hB : P.bytesOf e = B) (he : Opens P e d ok n) :
    Opens P t (Kd.slice e d) (fun xs => xs.length * B ≤ 140737488351232 ∧ ∀ x ∈ xs, ok x) (n + 1) :=
  ⟨hc, fun {H enc w base spare held fuel cs x} hf h hw => by
    rcases DataW.trod_slice ht h with ⟨rfl, rfl⟩ | ⟨a, len, cap, elems, rest, m, rfl, rfl, rfl, _, hl, hcap, hlen, hel, _, _⟩
    · exact ⟨[], ⟨none, 0, rfl, Nat.le_refl _, rfl, Nat.zero_le _, fun h => absurd h (by simp)⟩, by simp, by simp⟩
    · have hw2 : ∀ m ∈ (DataW.slice (elems.map (·.1)) (rest.map (·.1)) : DataW H).weights P t, m ≤ reachBytes := hw
      simp only [DataW.weights, ht, List.mem_cons, List.mem_append, List.length_map] at hw2
      have hsz := hw2 _ (.inl rfl)
      have hone : ∀ i, i < len → ∃ a' c, c.length = d.sz ∧ d.K w a' c ∧ ok a' ∧ ∀ j u, c[j]? = some u → w.cell? (a.add (i * d.sz + j)) = some u := by
        intro i hi
        have h1 := hel i hi
        rw [he.sz] at h1
        obtain ⟨x, hx⟩ : ∃ x, elems[i]? = some x := ⟨elems[i]'(by omega), List.getElem?_eq_getElem (by omega)⟩
        rw [hx] at h1
        obtain ⟨c, hc1, hc2⟩ := Option.bind_eq_some_iff.1 h1
        obtain ⟨hcl, hcell⟩ := agG hc1
        obtain ⟨a', hk, ho⟩ := he.go (by omega) hc2 (fun m hm => hw2 m (.inr (.inl (Y5 (List.mem_map.2 ⟨x, List.mem_of_getElem? hx, rfl⟩) m hm))))
        refine ⟨a', c, hcl, hk, ho, fun j u hj => ?_⟩
        have := hcell j u hj
        rwa [Addr.add_add] at this
      have ajO : ∀ k, k ≤ len → ∃ l : List α, l.length = k ∧ (∀ j p, l[j]? = some p → ok p ∧ ∃ c, c.length = d.sz ∧ d.K w p c ∧ ∀ i u, c[i]? = some u → w.cell? (a.add (j * d.sz + i)) = some u) := by
        intro k
        induction k with
        | zero => intro _; exact ⟨[], rfl, by simp⟩
        | succ k ih =>
          intro hk
          obtain ⟨l, hll, hlp⟩ := ih (by omega)
          obtain ⟨a', c, h1, h2, h3, h4⟩ := hone k (by omega)
          refine ⟨l ++ [a'], by simp [hll], fun j p hj => ?_⟩
          by_cases hjk : j < k
          · rw [List.getElem?_append_left (by omega)] at hj
            exact hlp j p hj
          · rw [List.getElem?_append_right (by omega)] at hj
            have : j - l.length = 0 := by
              rcases Nat.eq_zero_or_pos (j - l.length) with h | h
              · exact h
              · rw [List.getElem?_eq_none (by simp only [List.length_cons, List.length_nil]; omega)] at hj
                exact absurd hj (by simp)
            rw [this] at hj
            obtain rfl : a' = p := by simpa using hj
            obtain rfl : j = k := by omega
            exact ⟨h3, c, h1, h2, h4⟩
      obtain ⟨l, hll, hlp⟩ := ajO len (Nat.le_refl _)
      refine ⟨l, ⟨some a, cap, by rw [hll], by omega, rfl, by unfold maxLen at hcap; omega, fun _ => ⟨a, rfl, fun j p hj => (hlp j p hj).2⟩⟩, ?_, fun x hx => ?_⟩
      · rw [hlen, hB] at hsz
        rw [hll]
        exact Nat.le_trans (Nat.mul_le_mul_right _ (Nat.le_add_right _ _)) (by simpa [reachBytes] using hsz)
      · obtain ⟨j, hj⟩ := List.getElem?_of_mem hx
        exact (hlp j x hj).1⟩
structure Jo (P : Program) (ts : List TypeId) {α : Type} (d : Kd α) (ok : α → Prop) (n : Nat) : Prop where
  sz : (ts.map P.cellsOf).sum = d.sz
  go : ∀ {H : Type} {enc : TypeId × Value → H} {w : World} {base : Nat} {spare : Nat → Bool} {held : Bool} {fuel : Nat} {cs : List Value} {xs : List (DataW H × List MemPlace)}, fuel ≤ n →
    cs.length = d.sz → (∀ i t, ts[i]? = some t → ∃ x, xs[i]? = some x ∧ DataW.trod enc P w base spare held fuel t ((cs.drop ((ts.take i).map P.cellsOf).sum).take (P.cellsOf t)) = some x ∧ ∀ m ∈ x.1.weights P t, m ≤ reachBytes) →
    ∃ a, d.K w a cs ∧ ok a
theorem Opens.last {P : Program} {t : TypeId} {α : Type} {d : Kd α} {ok : α → Prop} {n : Nat} (h : Opens P t d ok n) : Jo P [t] d ok n :=
  ⟨by simp [h.sz], fun {H enc w base spare held fuel cs xs} hf hl hx => by
    obtain ⟨x, _, h1, h2⟩ := hx 0 t rfl
    simp only [List.take_zero, List.map_nil, List.sum_nil, List.drop_zero] at h1
    rw [List.take_of_length_le (by rw [hl, h.sz]; exact Nat.le_refl _)] at h1
    exact h.go hf h1 h2⟩
theorem Opens.cons {P : Program} {t : TypeId} {ts : List TypeId} {α β : Type} {d : Kd α} {d' : Kd β} {ok : α → Prop} {d5 : β → Prop} {n : Nat} (h : Opens P t d ok n) (h' : Jo P ts d' d5 n) :
    Jo P (t :: ts) (Kd.pair d d') (fun p => ok p.1 ∧ d5 p.2) n :=
  ⟨by simp [h.sz, h'.sz, Kd.pair], fun {H enc w base spare held fuel cs xs} hf hl hx => by
    have hsz : (Kd.pair d d').sz = d.sz + d'.sz := rfl
    rw [hsz] at hl
    obtain ⟨x, _, h1, h2⟩ := hx 0 t rfl
    simp only [List.take_zero, List.map_nil, List.sum_nil, List.drop_zero, h.sz] at h1
    obtain ⟨a, ha, oa⟩ := h.go hf h1 h2
    obtain ⟨b, hb, ob⟩ := h'.go (cs := cs.drop d.sz) (xs := xs.drop 1) hf (by rw [List.length_drop]; omega) (fun i u hu => by
      obtain ⟨y, hy, h3, h4⟩ := hx (i + 1) u (by simpa using hu)
      refine ⟨y, by rw [List.getElem?_drop, Nat.add_comm]; exact hy, ?_, h4⟩
      simp only [List.take_succ_cons, List.map_cons, List.sum_cons, h.sz] at h3
      rwa [List.drop_drop])
    exact ⟨(a, b), ⟨cs.take d.sz, cs.drop d.sz, (List.take_append_drop _ _).symm, ha, hb⟩, oa, ob⟩⟩
theorem XD {H : Type} {P : Program} : ∀ {ts : List TypeId} {l : List (DataW H)} {i : Nat} {t : TypeId} {x : DataW H}, ts[i]? = some t → l[i]? = some x → ∀ m ∈ x.weights P t, m ∈ DataW.weightsEach P ts l
  | [], _, _, _, _, h, _, _, _ => by simp at h
  | _ :: _, [], _, _, _, _, h, _, _ => by simp at h
  | t' :: ts, y :: l, 0, t, x, h1, h2, m, hm => by
    obtain rfl : t' = t := by simpa using h1
    obtain rfl : y = x := by simpa using h2
    rw [DataW.weightsEach, List.mem_append]
    exact .inl hm
  | t' :: ts, y :: l, i + 1, t, x, h1, h2, m, hm => by
    rw [DataW.weightsEach, List.mem_append]
    exact .inr (XD (i := i) (by simpa using h1) (by simpa using h2) m hm)
theorem Opens.struct {P : Program} {t : TypeId} {fs : Array Field} {α β : Type} {d : Kd α} {ok : α → Prop} {n : Nat} (f : β → α) (g : α → β) (hfg : ∀ a, f (g a) = a) (ht : P.underlying t = some (.struct fs))
    (ts : List TypeId) (hts : fs.toList.map (·.type) = ts) (hoff : fs.toList.map (·.offset) = (List.range fs.size).map fun i => ((ts.take i).map P.cellsOf).sum) (hc : P.cellsOf t = (ts.map P.cellsOf).sum) (h : Jo P ts d ok n) :
    Opens P t (Kd.r6 d f) (fun b => ok (f b)) (n + 1) :=
  ⟨hc.trans h.sz, fun {H enc w base spare held fuel cs x} hf hx hw => by
    obtain ⟨xs, m, rfl, rfl, hl, hxl, hall⟩ := DataW.trod_struct ht hx
    simp only [DataW.weights, ht] at hw
    obtain ⟨a, ha, oa⟩ := h.go (cs := cs) (xs := xs) (fuel := m) (by omega) (by rw [hl, hc, h.sz]) (fun i u hu => by
      subst hts
      simp only [List.getElem?_map, Option.map_eq_some_iff] at hu
      obtain ⟨fl, hfl, rfl⟩ := hu
      have X2 : fs[i]? = some fl := by simpa using hfl
      have hi : i < fs.size := (Array.getElem?_eq_some_iff.1 X2).1
      have h1 := hall i fl X2
      obtain ⟨y, hy⟩ : ∃ y, xs[i]? = some y := ⟨xs[i]'(by omega), List.getElem?_eq_getElem (by omega)⟩
      refine ⟨y, hy, ?_, fun m hm => hw m (XD (i := i) (by rw [List.getElem?_map, hfl]; rfl) (by rw [List.getElem?_map, hy]; rfl) m hm)⟩
      have h2 : fl.offset = (((fs.toList.map (·.type)).take i).map P.cellsOf).sum := by
        have := congrArg (·[i]?) hoff
        simp only [List.getElem?_map, hfl, Option.map_some, List.getElem?_range hi, Option.some.injEq] at this
        exact this
      rw [← h2, h1, hy])
    exact ⟨g a, by simpa only [Kd.r6, hfg] using ha, by simpa only [hfg] using oa⟩⟩
theorem Opens.mono {P : Program} {t : TypeId} {α : Type} {d : Kd α} {ok : α → Prop} {n m : Nat} (h : Opens P t d ok n) (hm : m ≤ n) : Opens P t d ok m :=
  ⟨h.sz, fun hf => h.go (Nat.le_trans hf hm)⟩
theorem Opens.weaken {P : Program} {t : TypeId} {α : Type} {d : Kd α} {ok d5 : α → Prop} {n : Nat} (h : Opens P t d ok n) (hk : ∀ a, ok a → d5 a) : Opens P t d d5 n :=
  ⟨h.sz, fun hf h1 h2 => by
    obtain ⟨a, h3, h4⟩ := h.go hf h1 h2
    exact ⟨a, h3, hk a h4⟩⟩
theorem Opens.fix {P : Program} {t : TypeId} {α : Type} {F : Kd α → Kd α} {sz : Nat} {E : List Nat} {hs : ∀ n, (Kd.upto F sz E n).sz = sz} {hE : ∀ n q, q ∈ (Kd.upto F sz E n).E → q ∈ E} {ok : α → Prop} (hc : P.cellsOf t = sz)
    (step : ∀ d n, Opens P t d ok n → Opens P t (F d) ok (n + 1)) (n : Nat) : Opens P t (Kd.fix F sz E hs hE) ok n := by
  have h : ∀ n, Opens P t (Kd.upto F sz E n) ok n := by
    intro n
    induction n with
    | zero =>
      refine ⟨hc, fun {H enc w base spare held fuel cs x} hf h _ => ?_⟩
      obtain rfl : fuel = 0 := by omega
      simp [DataW.trod] at h
    | succ n ih => exact step _ n ih
  refine ⟨hc, fun hf h1 h2 => ?_⟩
  obtain ⟨a, h3, h4⟩ := (h n).go hf h1 h2
  exact ⟨a, ⟨n, h3⟩, h4⟩
theorem U8 {H : Type} {enc : TypeId × Value → H} {P : Program} {W : World} {base : Nat} {spare : Nat → Bool} {held : Bool} {ts : List TypeId} {ds : List (DataW H)} {j : Nat} {t : TypeId} {v : Value} {x : DataW H} {ps : List MemPlace} {α : Type} {d : Kd α} {ok : α → Prop}
    (ho : ∀ n, Opens P t d ok n) (hsz : (DataW.weightsEach P ts ds).all (· ≤ reachBytes) = true) (ht : ts[j]? = some t) (hd : ds[j]? = some x) (h : DataW.Trod enc P W base spare held t v x ps) : ∃ a, d.K W a v.cells.toList ∧ ok a := by
  obtain ⟨fuel, hf⟩ := h
  refine (ho fuel).go (Nat.le_refl _) hf fun m hm => ?_
  have := DataW.weights_mem_each ht hd m hm
  exact of_decide_eq_true (List.all_eq_true.1 hsz m this)
theorem asZ {H : Type} {enc : TypeId × Value → H} {P : Program} {W : World} {base : Nat} {spare : Nat → Bool} {held : Bool} {ts : List TypeId} {ds : List (DataW H)} {j : Nat} {t e : TypeId} {A : Option Addr} {len c : Nat} {x : DataW H} {ps : List MemPlace} {α : Type} {d : Kd α} {ok : α → Prop} {B : Nat}
    (ht : P.underlying t = some (.slice e)) (hc : P.cellsOf t = 1) (hB : P.bytesOf e = B) (ho : ∀ n, Opens P e d ok n) (hsz : (DataW.weightsEach P ts ds).all (· ≤ reachBytes) = true) (hj : ts[j]? = some t) (hd : ds[j]? = some x) (h : DataW.Trod enc P W base spare held t (.slice A len c) x ps) :
    ∃ l : List α, len = l.length ∧ Kd.C d W A l.length l ∧ l.length ≤ c ∧ l.length * B ≤ 140737488351232 ∧ ∀ x ∈ l, ok x := by
  obtain ⟨l, ⟨A', c', hv, hl, hr⟩, h1, h2⟩ := U8 (d := Kd.slice e d) (fun n => (Opens.slice ht hc hB (ho n)).mono (Nat.le_succ n)) hsz hj hd h
  simp only [Value.cells, List.cons.injEq, Value.slice.injEq, and_true] at hv
  obtain ⟨rfl, rfl, rfl⟩ := hv
  exact ⟨l, rfl, hr, hl, h1, h2⟩
end Go.Proofs.Ytcfjdehpbckomaa.Open
