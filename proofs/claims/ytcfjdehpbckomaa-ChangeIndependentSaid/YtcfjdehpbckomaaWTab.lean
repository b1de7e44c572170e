
import Derived.Test.YtcfjdehpbckomaaWLast
import Derived.Test.YtcfjdehpbckomaaWWords
namespace Go.Proofs.YtcfjdehpbckomaaW.jm
open Go.Proofs.YtcfjdehpbckomaaW.dS (ae)
def AP (md : Region.Mode) (o : Oper) : List Nat := (o.after.toList.filter (fun e => Region.binds md e)).map (fun e => e.on)
def LP (md : Region.Mode) (ops : Array Oper) (i : Nat) (oi : Oper) : List Nat := (List.range ops.size).filter fun j => !(j == i) && match ops[j]? with
 | some oj => !(oj.after.any (fun e => Region.binds md e && e.on == i) || oi.apart ops oj)
 | none => false
def je (md : Region.Mode) (ops : Array Oper) : Bool × List (List Nat × List Nat) := (Region.noSelect ops, (List.range ops.size).map fun i => match ops[i]? with
 | some o => (AP md o, LP md ops i o)
 | none => ([], []))
def vG (T : List (List Nat × List Nat)) (l : List Bool) (i : Nat) : Bool := !l.getD i true && match T[i]? with
 | some r => r.1.all (fun j => l.getD j false)
 | none => false
def C2 (T : List (List Nat × List Nat)) (l : List Bool) : List Nat := (List.range T.length).filter (vG T l)
def Dw (T : List (List Nat × List Nat)) (l : List Bool) (i : Nat) : Bool := match T[i]? with
 | some r => r.2.all (fun j => l.getD j true)
 | none => false
def Kr (T : List (List Nat × List Nat)) (l : List Bool) : Bool := (List.range T.length).all fun j => !l.getD j false || match T[j]? with
 | some r => r.1.all (fun k => l.getD k false)
 | none => true
def BF (T : List (List Nat × List Nat)) (i : Nat) : Nat → Nat → Bool
 | 0, _ => false
 | fuel + 1, d => match T[d]? with
  | some r => r.1.any fun j => j == i || BF T i fuel j
  | none => false
def IX (T : List (List Nat × List Nat)) (l : List Bool) (ds : List Nat) (i : Nat) : Bool := ds.all fun d => l.getD d true || BF T i T.length d
section
variable {md : Region.Mode} {ops : Array Oper} {T : Bool × List (List Nat × List Nat)} {l l' li lj lk : Array Bool} {ds : List Nat} {i j k : Nat}
theorem gd (l : Array Bool) (j : Nat) (b : Bool) : l.getD j b = l.toList.getD j b := by simp [Array.getD_eq_getD_getElem?, List.getD_eq_getElem?_getD]
theorem Vx (o : Oper) (p : Nat → Bool) : o.after.all (fun e => !Region.binds md e || p e.on) = (AP md o).all p := by
 unfold AP
 rw [← Array.all_toList]
 induction o.after.toList with
 | nil => rfl
 | cons e r ih =>
  rw [List.all_cons, ih, List.filter_cons]
  cases h : Region.binds md e <;> simp
theorem akc (o : Oper) (p : Nat → Bool) : o.after.any (fun e => Region.binds md e && p e.on) = (AP md o).any p := by
 unfold AP
 rw [← Array.any_toList]
 induction o.after.toList with
 | nil => rfl
 | cons e r ih =>
  rw [List.any_cons, ih, List.filter_cons]
  cases h : Region.binds md e <;> simp
theorem J9 : (je md ops).2.length = ops.size := by simp [je]
theorem KM {o : Oper} (h : ops[i]? = some o) : (je md ops).2[i]? = some (AP md o, LP md ops i o) := by
 have hi := (Array.getElem?_eq_some_iff.1 h).1
 unfold je
 rw [List.getElem?_map, List.getElem?_range hi, Option.map_some, h]
theorem Jg (h : ops[i]? = none) : (je md ops).2[i]? = none := by
 have hi : ops.size ≤ i := Array.getElem?_eq_none_iff.1 h
 exact List.getElem?_eq_none (by rw [J9]; exact hi)
theorem ZB : vG (je md ops).2 l.toList i = (!l.getD i true && ((ops[i]?).map (·.after.all fun e => !Region.binds md e || l.getD e.on false)).getD false) := by
 unfold vG
 rw [gd]
 cases h : ops[i]? with
 | none => rw [Jg h]; rfl
 | some o =>
  rw [KM h]
  simp only [Option.map_some, Option.getD_some]
  rw [← Vx]
  simp only [gd]
theorem PD : Region.ready md ops l = C2 (je md ops).2 l.toList := by
 unfold Region.ready C2
 rw [J9]
 refine List.filter_congr (fun i _ => ?_)
 rw [ZB]
theorem XP : Region.free md ops l i = Dw (je md ops).2 l.toList i := by
 unfold Region.free Dw
 cases h : ops[i]? with
 | none => rw [Jg h]
 | some oi =>
  rw [KM h]
  simp only [LP]
  rw [List.all_filter]
  congr 1
  funext j
  rw [gd]
  cases hj : ops[j]? with
  | none => cases (j == i) <;> cases (l.toList.getD j true) <;> simp
  | some oj =>
   cases (j == i) <;> cases (l.toList.getD j true) <;> cases (oj.after.any (fun e => Region.binds md e && e.on == i) || oi.apart ops oj) <;> simp_all
theorem aaM : Region.Ed md ops l = Kr (je md ops).2 l.toList := by
 unfold Region.Ed Kr
 rw [J9]
 congr 1
 funext j
 rw [gd]
 cases h : ops[j]? with
 | none => rw [Jg h]
 | some o =>
  rw [KM h]
  simp only
  rw [← Vx]
  simp only [gd]
theorem Vd : ∀ (fuel d : Nat), Region.qN md ops i fuel d = BF (je md ops).2 i fuel d
 | 0, _ => rfl
 | fuel + 1, d => by
  unfold Region.qN BF
  cases h : ops[d]? with
  | none => rw [Jg h]
  | some o =>
   rw [KM h]
   simp only
   rw [← akc]
   congr 1
   funext e
   rw [Vd fuel]
theorem aaE : Region.KR md ops l ds i = IX (je md ops).2 l.toList ds i := by
 unfold Region.KR IX
 rw [J9]
 congr 1
 funext d
 rw [gd, Vd]
theorem Wh (h : vG T.2 l.toList i = true) (hT : je md ops = T) : (Region.ready md ops l).contains i = true := by
 subst hT
 rw [PD]
 unfold C2
 rw [List.contains_iff_mem, List.mem_filter, List.mem_range]
 refine ⟨?_, h⟩
 unfold vG at h
 rw [Bool.and_eq_true] at h
 cases hq : (je md ops).2[i]? with
 | none => rw [hq] at h; simp at h
 | some r => exact (List.getElem?_eq_some_iff.1 hq).1
theorem P6 (h : (l.toList.set i true == l'.toList) = true) : (l.setIfInBounds i true == l') = true := by
 rw [beq_iff_eq] at h ⊢
 apply Array.ext'
 rw [Array.toList_setIfInBounds]
 exact h
def H7 (T : Bool × List (List Nat × List Nat)) (l l' : List Bool) (i : Nat) : Bool := T.1 && Dw T.2 l i && vG T.2 l i && (l.set i true == l')
theorem W4 (hT : je md ops = T) (h : H7 T l.toList l'.toList i = true) : Jv md ops l l' i = true := by
 simp only [H7, Bool.and_eq_true] at h
 obtain ⟨⟨⟨h1, h2⟩, h3⟩, h4⟩ := h
 have h5 := Wh h3 hT
 have h6 := P6 h4
 subst hT
 simp only [Jv, Bool.and_eq_true]
 exact ⟨⟨⟨h1, by rw [XP]; exact h2⟩, h5⟩, h6⟩
def Me (T : Bool × List (List Nat × List Nat)) (ds : List Nat) (l l' : List Bool) (i : Nat) : Bool := T.1 && Dw T.2 l i && vG T.2 l i && Kr T.2 l && IX T.2 l ds i && (l.set i true == l')
theorem aku (hT : je md ops = T) (h : Me T ds l.toList l'.toList i = true) : DC md ops ds l l' i = true := by
 simp only [Me, Bool.and_eq_true] at h
 obtain ⟨⟨⟨⟨⟨h1, h2⟩, h3⟩, h4⟩, h5⟩, h6⟩ := h
 have h7 := Wh h3 hT
 have h8 := P6 h6
 subst hT
 simp only [DC, Bool.and_eq_true]
 exact ⟨⟨⟨⟨⟨h1, by rw [XP]; exact h2⟩, h7⟩, by rw [aaM]; exact h4⟩, by rw [aaE]; exact h5⟩, h8⟩
theorem D7 (hT : je md ops = T) (h : (C2 T.2 l.toList == [i] && l.toList.set i true == l'.toList) = true) : JE md ops l l' i = true := by
 simp only [Bool.and_eq_true] at h
 obtain ⟨h1, h2⟩ := h
 subst hT
 simp only [JE, Bool.and_eq_true]
 exact ⟨by rw [PD]; exact h1, P6 h2⟩
theorem Bd (hT : je md ops = T) (h : (C2 T.2 l.toList == []) = true) : (Region.ready md ops l == []) = true := by
 subst hT
 rw [PD]
 exact h
def xB (B : List Nat) (d : Nat) : List Nat → Nat
 | [] => 0
 | n :: r => (2 ^ n ||| (if n < d then B.getD n 0 else 0)) ||| xB B d r
def th (T : List (List Nat × List Nat)) (B : List Nat) : Bool := (List.range T.length).all fun d => match T[d]? with
 | some r => (B.getD d 0 ||| xB B d r.1) == xB B d r.1
 | none => false
theorem SE {B : List Nat} {d i : Nat} : ∀ {ns : List Nat}, (xB B d ns).testBit i = true → ∃ n ∈ ns, n = i ∨ (n < d ∧ (B.getD n 0).testBit i = true)
 | [], h => by simp [xB] at h
 | n :: r, h => by
  unfold xB at h
  rw [Nat.testBit_or, Nat.testBit_or, Bool.or_eq_true, Bool.or_eq_true] at h
  rcases h with (h | h) | h
  ·rw [Nat.testBit_two_pow] at h
   exact ⟨n, List.mem_cons_self, .inl (by simpa using h)⟩
  ·by_cases hn : n < d
   ·rw [if_pos hn] at h
    exact ⟨n, List.mem_cons_self, .inr ⟨hn, h⟩⟩
   ·rw [if_neg hn] at h
    simp at h
  ·obtain ⟨m, hm, h2⟩ := SE h
   exact ⟨m, List.mem_cons_of_mem _ hm, h2⟩
theorem TR {T : List (List Nat × List Nat)} {B : List Nat} (hB : th T B = true) : ∀ (fuel d : Nat), d < fuel → d < T.length → (B.getD d 0).testBit i = true → BF T i fuel d = true
 | 0, d, h, _, _ => by omega
 | fuel + 1, d, h, hd, hb => by
  have h1 := List.all_eq_true.1 hB d (List.mem_range.2 hd)
  cases hr : T[d]? with
  | none => rw [hr] at h1; simp at h1
  | some r =>
   rw [hr] at h1
   simp only [beq_iff_eq] at h1
   have h2 : (xB B d r.1).testBit i = true := by rw [← h1, Nat.testBit_or, hb, Bool.true_or]
   obtain ⟨n, hn, h3⟩ := SE h2
   unfold BF
   rw [hr]
   simp only
   rw [List.any_eq_true]
   refine ⟨n, hn, ?_⟩
   rcases h3 with rfl | ⟨h4, h5⟩
   ·simp
   ·rw [TR hB fuel n (by omega) (by omega) h5, Bool.or_true]
def S9 (T : List (List Nat × List Nat)) (B : List Nat) (l : List Bool) (ds : List Nat) (i : Nat) : Bool := ds.all fun d => l.getD d true || (decide (d < T.length) && (B.getD d 0).testBit i)
def R1 (T : Bool × List (List Nat × List Nat)) (B : List Nat) (ds : List Nat) (l l' : List Bool) (i : Nat) : Bool := T.1 && Dw T.2 l i && vG T.2 l i && Kr T.2 l && S9 T.2 B l ds i && (l.set i true == l')
theorem aft {B : List Nat} (hT : je md ops = T) (hB : th T.2 B = true) (h : R1 T B ds l.toList l'.toList i = true) : DC md ops ds l l' i = true := by
 refine aku hT ?_
 simp only [R1, Me, Bool.and_eq_true] at h ⊢
 obtain ⟨⟨⟨⟨⟨h1, h2⟩, h3⟩, h4⟩, h5⟩, h6⟩ := h
 refine ⟨⟨⟨⟨⟨h1, h2⟩, h3⟩, h4⟩, ?_⟩, h6⟩
 unfold S9 at h5
 unfold IX
 rw [List.all_eq_true] at h5 ⊢
 intro d hd
 have h7 := h5 d hd
 rw [Bool.or_eq_true, Bool.and_eq_true, decide_eq_true_eq] at h7
 rcases h7 with h7 | ⟨h8, h9⟩
 ·rw [h7, Bool.true_or]
 ·rw [TR hB _ d h8 h8 h9, Bool.or_true]
theorem Ac {P : Program} {Q : Exit → Act → World → Prop} {S : World → Prop} {n : Nat} {a : Act} {w : World} {B : List Nat} (hT : je md ops = T) (hB : th T.2 B = true) (h : ae (je md ops = T) → ae (th T.2 B = true) → fw P md ops Q S ds n l a w) : fw P md ops Q S ds n l a w := h ⟨hT⟩ ⟨hB⟩
end
def sa : Code → Nat → Option (Array Oper)
 | .region id ops _, k => if id == k then some ops else none
 | .seq a b, k => match sa a k with
  | some o => some o
  | none => sa b k
 | .cond _ a b, k => match sa a k with
  | some o => some o
  | none => sa b k
 | .block _ c, k => sa c k
 | .loop c, k => sa c k
 | .scope c, k => sa c k
 | .rangeFunc _ _ a b, k => match sa a k with
  | some o => some o
  | none => sa b k
 | _, _ => none
def opsOf (f : Func) (k : Nat) : Array Oper := ((f.body.bind fun c => sa c k)).getD #[]
end Go.Proofs.YtcfjdehpbckomaaW.jm
