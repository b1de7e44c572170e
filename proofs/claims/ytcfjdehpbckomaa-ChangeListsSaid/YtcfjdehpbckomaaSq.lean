/- Phrases of the walks that are said often. -/
import Derived.Test.YtcfjdehpbckomaaWWords
import Derived.Test.YtcfjdehpbckomaaWLast
import Derived.Test.YtcfjdehpbckomaaWMore
import Derived.Test.YtcfjdehpbckomaaWKept
namespace Go.Proofs.Ytcfjdehpbckomaa.Q
open Go.RowKit Go.Proofs.YtcfjdehpbckomaaW.PrintWords Go.Proofs.YtcfjdehpbckomaaW.PrintLast Go.Proofs.YtcfjdehpbckomaaW.PrintMore
theorem RX {p q : Prop} (h : q) (f : q → p := by intro h; (with_reducible repeat (first | apply Kd.R_alloc | apply Kd.R_drewN | apply Kd.R_drew)); exact h) : p := f h
theorem BX {p q : Prop} (h : q) (f : q → p := by intro h; repeat (first | (with_reducible first | exact h | apply below_alloc | apply pw_below_drewN | apply below_drew1) | exact h)) : p := f h
theorem KX {p q : Prop} (h : q) (f : q → p := by intro h; repeat (first | (with_reducible first | exact h | apply Kept.alloc | apply Kept.drewN | apply Kept.drew) | exact h)) : p := f h
theorem CX {p q : Prop} (h : q) (f : q → p := by intro h; repeat (first | exact h | (with_reducible refine Kd.C_alloc ?_ _) | (with_reducible refine Kd.C_drewN ?_ _) | (with_reducible refine Kd.C_drew ?_))) : p := f h
theorem AX {p : Prop} (h : p := by first | (with_reducible assumption) | assumption) : p := h
theorem MX {p : Prop} (h : p := by (try simp only [List.map_toArray, List.map_cons, List.map_nil]); first | done | rfl | (simp only [List.length_drop, List.length_take]; rfl)) : p := h
theorem SX {p : Prop} (h : p := by first | rfl | (simp; done) | (simp [*]; done)) : p := h
theorem NX {p : Prop} (h : p := by first | exact Kd.R_nil _ _ _ _ _ | exact Kd.N_nil _ _ _ _ _ | exact Kd.V_nil _ _ _ _ _ | exact Kd.Q_nil _ _ _ _ _ | exact Kd.S_nil _ _ _ _ _) : p := h
end Go.Proofs.Ytcfjdehpbckomaa.Q
