
import Derived.Test.YtcfjdehpbckomaaWKept
namespace Go.Proofs.YtcfjdehpbckomaaW.dS
open Go.RowKit
def ka (P : World → Prop) (W : World) (ok : Nat → Prop) : Prop := ∀ W' : World, (∀ k, ok k → k < W.heap.size → W'.heap[k]? = W.heap[k]?) → P W'
theorem adn {W W1 : World} {k : Nat} (h : W1.heap[k]? = W.heap[k]?) (hlt : k < W.heap.size) : k < W1.heap.size := by
 rw [Array.getElem?_eq_getElem hlt] at h
 exact (Array.getElem?_eq_some_iff.1 h).1
namespace ka
variable {P Q : World → Prop} {W W1 : World} {ok d5 : Nat → Prop}
theorem now (h : ka P W ok) : P W := h W (fun _ _ _ => rfl)
theorem mono (h : ka P W ok) (hok : ∀ k, ok k → d5 k) : ka P W d5 := fun W' hW => h W' (fun k hk hlt => hW k (hok k hk) hlt)
theorem bound (h : ka P W ok) : ka P W (fun k => ok k ∧ k < W.heap.size) := fun W' hW => h W' (fun k hk hlt => hW k ⟨hk, hlt⟩ hlt)
theorem step (h : ka P W ok) (hm : ∀ k, ok k → k < W.heap.size → W1.heap[k]? = W.heap[k]?) : ka P W1 ok := fun W' hW => h W' (fun k hk hlt => (hW k hk (adn (hm k hk hlt) hlt)).trans (hm k hk hlt))
theorem imp (h : ka P W ok) (hi : ∀ W', P W' → Q W') : ka Q W ok := fun W' hW => hi W' (h W' hW)
theorem old (h : ka P W ok) (hb : Below W.heap.size W W1) : ka P W1 (fun k => ok k ∧ k < W.heap.size) := (h.bound).step (fun k _ hlt => hb.block k hlt)
end ka
namespace Kd
def F {α : Type} (d : Kd α) (W : World) (ok : Nat → Prop) (A : Option Addr) (n : Nat) (xs : List α) : Prop := ka (fun W => d.C W A n xs) W ok
def FK {α : Type} (d : Kd α) (W : World) (ok : Nat → Prop) (x : α) (c : List Value) : Prop := ka (fun W => d.K W x c) W ok
section
variable {α β : Type} {d : Kd α} {e base n n' cc g N : Nat} {ok d5 fh S : Nat → Prop} {w w0 w1 W W1 : World} {A A' : Option Addr} {u v v1 : Value} {xs : List α} {xs' : List β} {d' : Kd β} {x : α} {c : List Value}
theorem pK (h : F d W ok A n xs) : d.C W A n xs := ka.now h
theorem ra (h : F d W ok A n xs) (hok : ∀ k, ok k → d5 k) : F d W d5 A n xs := ka.mono h hok
theorem Pz (h : F d W ok A n xs) : F d W (fun k => ok k ∧ k < W.heap.size) A n xs := ka.bound h
theorem pS (h : F d W ok A n xs) (hm : ∀ k, ok k → k < W.heap.size → W1.heap[k]? = W.heap[k]?) : F d W1 ok A n xs := ka.step h hm
theorem lJ (h : F d W ok A n xs) (hb : Below W.heap.size W W1) : F d W1 ok A n xs := pS h (fun k _ hlt => hb.block k hlt)
theorem aiz (h : F d W ok A n xs) (o : Obj) : F d (W.alloc o) ok A n xs := lJ h (aQ (Below.refl _ _) o)
theorem aax (h : F d W ok A n xs) : F d W.drew ok A n xs := lJ h (J8 (Below.refl _ _))
theorem acy (h : F d W ok A n xs) (m : Nat) : F d (W.drewN m) ok A n xs := lJ h (aY (Below.refl _ _) m)
theorem W_ (h : F d W ok A n xs) (hk : Kept W W1 S) (hok : ∀ k, ok k → ¬ S k) : F d W1 ok A n xs := pS h (fun k ho hlt => hk.2 k hlt (hok k ho))
theorem agB (d : Kd α) (W : World) (ok : Nat → Prop) : F d W ok none ([] : List α).length [] := fun W' _ => adE d W'
theorem aa5 (h : F d W ok A n xs) (hbase : ∀ k, v.ownBlock = some k → W.heap.size ≤ k) (hb : Below W.heap.size W W1) : F d W1 (fun k => ok k ∧ some k ≠ v.ownBlock) A n xs :=
 ra (ka.old h hb) (fun k hk => ⟨hk.1, fun he => by have := hbase k he.symm; have := hk.2; omega⟩)
theorem sP (hd : Heap d) (h : d.C w A n xs) : F d w (fun k => k < w.heap.size) A n xs := fun _ hW => hd.C (fun k hlt => hW k hlt hlt) h
theorem sc (h : d.R e W base ok (.slice A n cc) xs) : F d W ok A n xs := fun W' hW => by
 have h2 := b_ (zK h hW)
 rw [h2.1]
 exact h2.2.2
theorem vX (h : FK d W ok x c) : d.K W x c := ka.now h
theorem Hv (h : FK d W ok x c) (hok : ∀ k, ok k → d5 k) : FK d W d5 x c := ka.mono h hok
theorem aez (h : FK d W ok x c) : FK d W (fun k => ok k ∧ k < W.heap.size) x c := ka.bound h
theorem ae0 (h : FK d W ok x c) (hm : ∀ k, ok k → k < W.heap.size → W1.heap[k]? = W.heap[k]?) : FK d W1 ok x c := ka.step h hm
theorem abu (h : d.M W base ok x c) : FK d W ok x c := fun _ hW => d.gW (TO h hW)
theorem emptied (W : World) (g : Nat) : ∃ W' : World, (∀ k, k ≠ g → W'.heap[k]? = W.heap[k]?) ∧ ∀ a : Addr, a.block = g → W'.cell? a = none := by
 refine ⟨{ W with heap := W.heap.setIfInBounds g (.cells #[] 0) }, fun k hk => by simp [Ne.symm hk], fun a ha => ?_⟩
 subst ha
 by_cases hlt : a.block < W.heap.size
 ·simp [World.cell?, hlt]
 ·simp [World.cell?, hlt]
end
end Kd
end Go.Proofs.YtcfjdehpbckomaaW.dS
