
import Derived.Test.YtcfjdehpbckomaaWWords
import Derived.Test.YtcfjdehpbckomaaWLast
namespace Go.Proofs.YtcfjdehpbckomaaW.dS
open Go.RowKit
namespace Kd
def tag {α : Type} (f : Nat → Nat) (d : Kd α) : Kd (α × Nat) where
 sz := d.sz
 E := d.E
 K := fun w x cs => d.K w x.1 cs
 M := fun w base ok x cs => d.M w base (fun k => ok k ∧ f k = x.2) x.1 cs
 jl := fun h => d.jl h
 ju := fun h => d.ju h
 lz := fun hb h => d.lz hb h
 gW := fun h => d.gW h
 gA := fun hok h => d.gA (fun k hk => ⟨hok k hk.1, hk.2⟩) h
 jH := fun h => d.gA (fun _ hk => ⟨⟨hk.1.1, hk.2⟩, hk.1.2⟩) (d.jH h)
 ja := fun hm h => d.ja (fun k hk => hm k hk.1) h
 lG := fun hb h => d.lG hb h
def raw (sz : Nat) : Kd (List Value) where
 sz := sz
 E := []
 K := fun _ x cs => cs = x ∧ cs.length = sz ∧ ∀ u ∈ cs, u.oneCell' = true
 M := fun _ _ _ x cs => cs = x ∧ cs.length = sz ∧ ∀ u ∈ cs, u.oneCell' = true
 jl := fun h => h.2.1
 ju := fun h => h.2.2
 lz := fun _ h => h
 gW := fun h => h
 gA := fun _ h => h
 jH := fun h => h
 ja := fun _ h => h
 lG := fun _ h => h
def S {α : Type} (d : Kd α) (e : Nat) (w : World) (base : Nat) (ok : Nat → Prop) (v : Value) (xs : List α) : Prop := ∃ f, (tag f d).R e w base ok v xs.zipIdx
section
variable {α β : Type} {d : Kd α} {d' : Kd β} {e e' : Nat} {w w1 W : World} {base b : Nat} {ok d5 Ws Gx : Nat → Prop} {u v : Value} {xs : List α} {ys : List β}
theorem afL {ad : Addr} {n cap : Nat} (h : d.R e w base ok (.slice (some ad) n cap) xs) : ∃ g, ad = ⟨g, 0, none⟩ := by
 obtain ⟨_, inner, ho, hr⟩ := h
 rcases ho.2 with ⟨hv, _⟩ | ⟨g, cap', cur, hv, _⟩
 ·cases hv
 ·injection hv with ha _ _
  injection ha with ha
  exact ⟨g, ha⟩
theorem W5 (hE : d.E = []) (h : d.R e w base ok v xs) : d.R e w base (fun k => some k = v.ownBlock) v xs := by
 obtain ⟨h0, inner, ho, hr⟩ := h
 refine ⟨fun k hk => hk.symm, inner, ho, hr.ol (fun p c hp => d.gA (fun k hk => ?_) (d.jH hp))⟩
 obtain ⟨_, _, _, q, hq, _⟩ := hk
 rw [hE] at hq
 cases hq
theorem adZ (d : Kd α) (e : Nat) (w : World) (base : Nat) (ok : Nat → Prop) : S d e w base ok (.slice none 0 0) [] := ⟨fun _ => 0, lS _ _ _ _ _⟩
end
section
variable {α β : Type} {d : Kd α} {d' : Kd β} {e e' g : Nat} {w w1 W : World} {base b : Nat} {ok d5 Ws Gx : Nat → Prop} {u v : Value} {xs : List α} {ys : List β}
end
section
variable {P : Program} {ops : Array Oper} {rest : List Oper} {o : Oper} {a : Act} {Q : Exit → Act → World → Prop} {Kc : Act → World → Prop} {α : Type}
end
def gap {α : Type} (f : Nat → Nat) (d : Kd α) (i : Nat) (c : List Value) : Kd (α × Nat) where
 sz := d.sz
 E := d.E
 K := fun w x cs => (x.2 = i → cs = c ∧ cs.length = d.sz ∧ ∀ u ∈ cs, u.oneCell' = true) ∧ (x.2 ≠ i → d.K w x.1 cs)
 M := fun w base ok x cs => (x.2 = i → cs = c ∧ cs.length = d.sz ∧ ∀ u ∈ cs, u.oneCell' = true) ∧ (x.2 ≠ i → d.M w base (fun k => ok k ∧ f k = x.2) x.1 cs)
 jl := fun {w x cs} h => by
  by_cases hx : x.2 = i
  ·exact (h.1 hx).2.1
  ·exact d.jl (h.2 hx)
 ju := fun {w x cs} h => by
  by_cases hx : x.2 = i
  ·exact (h.1 hx).2.2
  ·exact d.ju (h.2 hx)
 lz := fun hb h => ⟨h.1, fun hx => d.lz hb (h.2 hx)⟩
 gW := fun h => ⟨h.1, fun hx => d.gW (h.2 hx)⟩
 gA := fun hok h => ⟨h.1, fun hx => d.gA (fun k hk => ⟨hok k hk.1, hk.2⟩) (h.2 hx)⟩
 jH := fun h => ⟨h.1, fun hx => d.gA (fun _ hk => ⟨⟨hk.1.1, hk.2⟩, hk.1.2⟩) (d.jH (h.2 hx))⟩
 ja := fun hm h => ⟨h.1, fun hx => d.ja (fun k hk => hm k hk.1) (h.2 hx)⟩
 lG := fun hb h => ⟨h.1, fun hx => d.lG hb (h.2 hx)⟩
def H {α : Type} (d : Kd α) (e : Nat) (w : World) (base : Nat) (ok : Nat → Prop) (v : Value) (xs : List α) (i : Int) (Gj : Nat → Prop) (c : List Value) : Prop :=
 (∀ k, Gj k → ok k) ∧ ∃ f, (gap f d i.toNat c).R e w base (fun k => ok k ∧ ¬ Gj k) v xs.zipIdx
section
variable {α β : Type} {d : Kd α} {e e' g n cap : Nat} {w w1 W : World} {base : Nat} {ok d5 Gj fh : Nat → Prop} {u v : Value} {xs : List α} {i : Int} {c : List Value}
end
section
variable {P : Program} {ops : Array Oper} {rest : List Oper} {o : Oper} {a : Act} {Q : Exit → Act → World → Prop} {α : Type}
end
end Kd
end Go.Proofs.YtcfjdehpbckomaaW.dS
