/- The ints of layer 15's laws; loops and numbers. -/
import Derived.Test.YtopdllcpeaflaaaRows
import Derived.Test.YtopdllcpeaflaaaDl20
import Derived.KernelRfl
namespace Go.Proofs.Ytopdllcpeaflaaa
open Go.RowKit Go.Dl
attribute [local irreducible] Tri SCall DFun QSem PCall GCall MCall Round Weak dloadE

def intD (x : Int) : List DV := [.v (.int .i64 x)]

theorem take_succ_eq {α : Type} {a b : List α} {d : α} {k : Nat} (hl : a.length = b.length) (h : a.take k = b.take k) (hk : k < a.length) (e : a.getD k d = b.getD k d) : a.take (k + 1) = b.take (k + 1) := by
  have h1 : a[k]? = b[k]? := by
    simp only [List.getD_eq_getElem?_getD, List.getElem?_eq_getElem hk, List.getElem?_eq_getElem (show k < b.length by omega), Option.getD_some] at e ⊢
    rw [e]
  rw [List.take_add_one, List.take_add_one, h, h1]
theorem wrap64 {k : Nat} (h : k < 9223372036854775808) : IntKind.i64.wrap (k : Int) = k := by
  simp [IntKind.wrap, IntKind.bits, IntKind.signed]; omega

def intsSt (a b : List Int) (k : Nat) : St := ⟨0, tmOf [(0, .lst 1 (a.map intD)), (1, .lst 1 (b.map intD)), (12, .v (.int .i64 (a.map intD).length)), (13, .v (.int .i64 k))], .of [] 0⟩
theorem ints_D (a b : List Int) : DPure Try.prog 16 [.lst 1 (a.map intD), .lst 1 (b.map intD)] (.v (.bool (decide (a = b)))) := by
  refine DFun.bound 0 rfl fun ha => ?_
  have ha : a.length ≤ 9223372036854775807 := by simpa [maxLen] using ha
  refine DFun.body Try.func16 rfl (by kernel_rfl) ?_
  repeat' (first | refine And.intro ?_ ?_ | (intro h; first | exact Bool.noConfusion h | skip) | refine dcell_ok rfl ?_ | refine dvb ?_ | refine Tri.loop (intsSt a b) (fun k => k ≤ a.length ∧ a.take k = b.take k) (fun k => a.length - k) 0 (by kernel_rfl) (Weak.list [] [] ?_ ?_ ?_) ?_ ?_ | refine dloadE_map 0 ?_ ?_ | refine Round.go (· + 1) ?_ ?_ (Weak.list [] [] ?_ ?_ ?_))
  all_goals first | rfl | trivial | assumption | exact DW.same _ rfl | refine DW.int ?_ | skip
  all_goals try (simp [intD] at *; done)
  all_goals try (simp [intD] at *; omega)
  · simp at *
    intro e; subst e; contradiction
  · simp at *
    intro e; subst e; contradiction
  · rename_i e0 k hk e1
    simp at e0 e1 h
    exact take_succ_eq (d := 0) (by omega) hk.2 (by omega) (by simpa using h)
  · rename_i e0 k hk e1
    simp at e0 e1 h
    have := wrap64 (k := k + 1) (by omega)
    simpa using this
  · rename_i e0 k hk
    simp at e0 h
    have : k = a.length := by omega
    subst this
    have h4 := hk.2
    simp at h4
    have e1 : b.length = a.length := by omega
    rw [← e1, List.take_length] at h4
    simp [h4]

end Go.Proofs.Ytopdllcpeaflaaa
