/- Names, registers, half-edges that fit. -/
import Derived.Test.YtopdllcpeaflaaaA
namespace Go.Proofs.Ytopdllcpeaflaaa
open Go.RowKit Go.Dl
attribute [local irreducible] Tri SCall DFun QSem PCall GCall MCall Round Weak dloadE

def nodeB (a : Int) : Bool := decide (0 ≤ a) && decide (a < 16)
theorem node_D (a : Int) : DPure Try.prog 62 [.v (.int .i64 a)] (.v (.bool (nodeB a))) := by
  refine DFun.body Try.func62 rfl (by kernel_rfl) ?_
  repeat' (first | refine And.intro ?_ ?_ | intro _)
  all_goals first | rfl | assumption | (simp_all; done) | refine dvb ?_
  simp [nodeB]
theorem node9_D (a : Int) : DPure Try.prog 68 [.v (.int .i64 a)] (.v (.bool (nodeB a))) := by
  refine DFun.body Try.func68 rfl (by kernel_rfl) ?_
  repeat' (first | refine And.intro ?_ ?_ | intro _)
  all_goals first | rfl | assumption | (simp_all; done) | refine dvb ?_
  simp [nodeB]

def fit9 (v r f a b : Int) : Bool :=
  if !nodeB a || !nodeB b || a == b then false
  else if v == 0 && r == 0 && f == 0 then true
  else decide (1 ≤ v) && decide (v ≤ 1099511627776) && (r == a || r == b) && decide (-2147483647 ≤ f) && decide (f ≤ 2147483647)
theorem k39 : eqTK Try.prog 39 = some [.int, .int, .int] := by kernel_rfl
theorem fit9_D (v r f a b : Int) : DPure Try.prog 64 [.agg [.v (.int .i64 v), .v (.int .i64 r), .v (.int .i64 f)], .v (.int .i64 a), .v (.int .i64 b)] (.v (.bool (fit9 v r f a b))) := by
  refine DFun.body Try.func64 rfl (by kernel_rfl) ?_
  repeat' (first | with_reducible rfl | ((conv => whnf); first | refine And.intro ?_ ?_ | (intro h; first | exact Bool.noConfusion h | with_reducible exact h | skip) | ((with_reducible refine DWl.mark ?_); repeat' (first | refine DWl.cons ?_ ?_ | exact DWl.nil | exact DW.same _ rfl | exact DW.ref _ _ _ rfl | exact DW.arr _ _ _ rfl | exact DW.sub _ _ _ _ rfl | exact DW.nilLst _ | refine DW.aggl ?_ | refine DW.tupl ?_ | refine DW.clol ?_ ?_ | refine DW.int ?_ | refine DW.bool ?_ | refine DW.str ?_)) | ((with_reducible refine SCall.mark ?_); first | refine SCall.data (node9_D _) rfl rfl ?_ | refine SCall.scal (node9_D _) rfl rfl ?_) | ((with_reducible refine PCall.mark ?_); first | refine PCall.mk (node9_D _) rfl rfl ?_) | ((with_reducible refine GCall.mark ?_); first | refine GCall.data (fun _ => node9_D _) rfl rfl ?_ | refine GCall.scal (fun _ => node9_D _) rfl rfl ?_) | ((with_reducible refine MCall.mark ?_); first | refine MCall.data (fun _ => node9_D _) rfl rfl ?_ | refine MCall.plain (PCall.mk (node9_D _) rfl rfl ?_)) | ((with_reducible refine ex_mark ?_); first | refine dq_eql k39 ?_ rfl ?_ rfl rfl ?_ | refine dq_neq k39 ?_ rfl ?_ rfl rfl ?_) | refine dcell_ok rfl ?_ | refine AppC.new ?_))
  all_goals first | (with_reducible refine enters_mark ?_; kernel_rfl) | (with_reducible refine boolT_mark ?_; kernel_rfl) | rfl | trivial | assumption | exact Nat.le_of_ble_eq_true rfl | (show entersB _ _ = true; kernel_rfl) | exact DW.same _ rfl | exact DW.ref _ _ _ rfl | exact DW.arr _ _ _ rfl | refine DW.int ?_ | refine dvb ?_ | refine dvi ?_ | exact OW.cells rfl rfl (DWl.same rfl) | skip
  all_goals try (simp_all; done)
  all_goals try (simp at *; omega)
  all_goals (simp_all [fit9, cellsEq, cellEq]; done)

def chB (c : Int) : Bool := (decide (97 ≤ c) && decide (c ≤ 122)) || (decide (48 ≤ c) && decide (c ≤ 57)) || c == 95
def nameB (s : ByteArray) : Bool := decide (1 ≤ s.size) && decide (s.size ≤ 16) && decide (∀ i, i < s.size → chB (byteAt s i) = true)

def nameSt (s : ByteArray) (k : Nat) : St := ⟨0, tmOf [(0, .v (.string s)), (3, .v (.int .i64 k))], .of [] 0⟩
theorem name_D (s : ByteArray) : DPure Try.prog 63 [.v (.string s)] (.v (.bool (nameB s))) := by
  refine DFun.body Try.func63 rfl (by kernel_rfl) ?_
  repeat' (first | refine And.intro ?_ ?_ | (intro h; first | exact Bool.noConfusion h | skip) | refine dcell_ok rfl ?_ | refine dvb ?_ | refine Tri.loop (nameSt s) (fun k => k ≤ s.size ∧ ∀ j, j < k → chB (byteAt s j) = true) (fun k => s.size - k) 0 (by kernel_rfl) (Weak.list [] [] ?_ ?_ ?_) ?_ ?_ | refine Round.go (· + 1) ?_ ?_ (Weak.list [] [] ?_ ?_ ?_))
  all_goals first | rfl | trivial | assumption | exact DW.same _ rfl | refine DW.int ?_ | skip
  all_goals try (simp_all; done)
  all_goals try (simp at *; omega)
  · simp [nameB] at *; omega
  · rename_i e0 k hk e1
    have e2 : chB (byteAt s k) = false := by
      simp [chB] at h ⊢
      grind
    simp at e1
    symm
    simp only [nameB, Bool.and_eq_false_iff, decide_eq_false_iff_not]
    refine .inr fun hh => ?_
    rw [hh k e1] at e2
    cases e2
  · rename_i e0 k hk e1 e2 j
    rcases Nat.lt_or_ge j k with hj | hj
    · exact hk.2 j hj
    · have : j = k := by omega
      subst this
      simp [chB] at e2 ⊢
      grind
  · rename_i e0 k hk e1
    simp at e0 e1
    have := wrap64 (k := k + 1) (by omega)
    simpa using this
  · rename_i e0 k hk
    simp at e0 h
    symm
    simp only [nameB, Bool.and_eq_true, decide_eq_true_eq]
    exact ⟨by omega, fun i hi => hk.2 i (by omega)⟩
end Go.Proofs.Ytopdllcpeaflaaa
