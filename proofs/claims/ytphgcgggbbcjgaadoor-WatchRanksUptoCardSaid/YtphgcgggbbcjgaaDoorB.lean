/- Alarms, states and samples; when they are fit; acknowledged. -/
import Derived.Test.YtphgcgggbbcjgaaDoorA
namespace Go.Proofs.YtphgcgggbbcjgaaDoor
open Go.RowKit Go.Dl
attribute [local irreducible] Tri SCall DFun QSem PCall GCall MCall Round Weak dloadE OW DWl Tells IntKind.wrap Retold ESem

structure Al where
  kind : Int
  low : Int
  high : Int
  hold : Int
structure Wt where
  on : Bool
  run : Int
  has : Bool
  last : Int
  acked : Bool
  since : Int
structure Sm where
  tick : Int
  has : Bool
  value : Int
def bl (b : Bool) : DV := .v (.bool b)
def alD (a : Al) : List DV := [int1 a.kind, int1 a.low, int1 a.high, int1 a.hold]
def wtD (s : Wt) : List DV := [bl s.on, int1 s.run, bl s.has, int1 s.last, bl s.acked, int1 s.since]
def smD (s : Sm) : List DV := [int1 s.tick, bl s.has, int1 s.value]
def flowB (x : Int) : Bool := bif decide (-2147483647 ≤ x) then decide (x ≤ 2147483647) else false
theorem fits33_D (x : Int) : DPure Tryd.prog 33 [int1 x] (bl (flowB x)) := by
  refine DFun.data (DFun.body Tryd.func33 rfl (by kernel_rfl) ?_)
  repeat' (first | with_reducible rfl | ((conv => whnf); first | refine And.intro ?_ ?_ | (intro h; first | exact Bool.noConfusion h | with_reducible exact h | (have ht : true = true := h; clear ht h) | skip) | ((with_reducible refine DWl.mark ?_); repeat' (first | refine DWl.cons ?_ ?_ | exact DWl.nil | exact DW.same _ rfl | exact DW.ref _ _ _ rfl | exact DW.arr _ _ _ rfl | exact DW.sub _ _ _ _ rfl | exact DW.nilLst _ | refine DW.aggl ?_ | refine DW.tupl ?_ | refine DW.clol ?_ ?_ | refine DW.int ?_ | refine DW.bool ?_ | refine DW.str ?_)) | refine dcell_ok rfl ?_ | refine AppC.new ?_))
  all_goals first | (with_reducible refine enters_mark ?_; kernel_rfl) | (with_reducible refine boolT_mark ?_; kernel_rfl) | rfl | trivial | assumption | exact Nat.le_of_ble_eq_true rfl | (show entersB _ _ = true; kernel_rfl) | exact DW.same _ rfl | exact DW.ref _ _ _ rfl | exact DW.arr _ _ _ rfl | refine DW.int ?_ | refine dvb ?_ | refine dvi ?_ | exact OW.cells rfl rfl (DWl.same rfl) | exact Nat.zero_le _ | omega | skip
  all_goals repeat' (first | refine OW.cells rfl rfl ?_ | exact DW.nilArr _ rfl | refine DWl.cons ?_ ?_ | exact DWl.nil | exact DW.same _ rfl | exact DW.ref _ _ _ rfl | exact DW.arr _ _ _ rfl | exact DW.sub _ _ _ _ rfl | exact DW.nilLst _ | refine DW.aggl ?_ | refine DW.tupl ?_ | refine DW.clol ?_ ?_)
  all_goals try ((conv => whnf); with_reducible first | refine Round.mark ?_ | refine Tells.mark ?_ | refine Retold.mark ?_)
  all_goals try first | (show (_ : Bool) = _; simp_all; done) | (show (_ : Int) < _; simp at *; omega) | (show (_ : Int) ≤ _; simp at *; omega) | (show (_ : Nat) < _; simp at *; omega) | (show (_ : Nat) ≤ _; simp at *; omega)
  conv => whnf
  exact Tells.mk (DW.bool rfl)
theorem flow30_D (x : Int) : DPure Tryd.prog 30 [int1 x] (bl (flowB x)) := by
  refine DFun.data (DFun.body Tryd.func30 rfl (by kernel_rfl) ?_)
  repeat' (first | with_reducible rfl | ((conv => whnf); first | refine And.intro ?_ ?_ | (intro h; first | exact Bool.noConfusion h | with_reducible exact h | (have ht : true = true := h; clear ht h) | skip) | ((with_reducible refine DWl.mark ?_); repeat' (first | refine DWl.cons ?_ ?_ | exact DWl.nil | exact DW.same _ rfl | exact DW.ref _ _ _ rfl | exact DW.arr _ _ _ rfl | exact DW.sub _ _ _ _ rfl | exact DW.nilLst _ | refine DW.aggl ?_ | refine DW.tupl ?_ | refine DW.clol ?_ ?_ | refine DW.int ?_ | refine DW.bool ?_ | refine DW.str ?_)) | refine dcell_ok rfl ?_ | refine AppC.new ?_))
  all_goals first | (with_reducible refine enters_mark ?_; kernel_rfl) | (with_reducible refine boolT_mark ?_; kernel_rfl) | rfl | trivial | assumption | exact Nat.le_of_ble_eq_true rfl | (show entersB _ _ = true; kernel_rfl) | exact DW.same _ rfl | exact DW.ref _ _ _ rfl | exact DW.arr _ _ _ rfl | refine DW.int ?_ | refine dvb ?_ | refine dvi ?_ | exact OW.cells rfl rfl (DWl.same rfl) | exact Nat.zero_le _ | omega | skip
  all_goals repeat' (first | refine OW.cells rfl rfl ?_ | exact DW.nilArr _ rfl | refine DWl.cons ?_ ?_ | exact DWl.nil | exact DW.same _ rfl | exact DW.ref _ _ _ rfl | exact DW.arr _ _ _ rfl | exact DW.sub _ _ _ _ rfl | exact DW.nilLst _ | refine DW.aggl ?_ | refine DW.tupl ?_ | refine DW.clol ?_ ?_)
  all_goals try ((conv => whnf); with_reducible first | refine Round.mark ?_ | refine Tells.mark ?_ | refine Retold.mark ?_)
  all_goals try first | (show (_ : Bool) = _; simp_all; done) | (show (_ : Int) < _; simp at *; omega) | (show (_ : Int) ≤ _; simp at *; omega) | (show (_ : Nat) < _; simp at *; omega) | (show (_ : Nat) ≤ _; simp at *; omega)
  conv => whnf
  exact Tells.mk (DW.bool rfl)
attribute [local irreducible] flowB
def fitA (a : Al) : Bool := bif bif bif bif bif bif bif decide (1 ≤ a.kind) then decide (a.kind ≤ 4) else false then flowB a.low else false then flowB a.high else false then decide (a.low ≤ a.high) else false then bif a.kind != 4 then true else decide (0 ≤ a.low) else false then decide (1 ≤ a.hold) else false then decide (a.hold ≤ 1000) else false
def stateB (a : Al) (s : Wt) : Bool := bif bif bif bif bif bif bif fitA a then decide (0 ≤ s.run) else false then decide (s.run < a.hold) else false then flowB s.last else false then bif s.has then true else s.last == 0 else false then bif s.on then true else bif !s.acked then s.since == 0 else false else false then decide (0 ≤ s.since) else false then decide (s.since ≤ 1099511627776) else false
def sampleB (s : Sm) : Bool := bif bif bif decide (0 ≤ s.tick) then decide (s.tick ≤ 1099511627776) else false then flowB s.value else false then bif s.has then true else s.value == 0 else false
set_option maxRecDepth 20000 in
theorem fit26_D (a : Al) : DPure Tryd.prog 26 [.agg (alD a)] (bl (fitA a)) := by
  refine DFun.data (DFun.body Tryd.func26 rfl (by kernel_rfl) ?_)
  repeat' (first | with_reducible rfl | ((conv => whnf); first | refine And.intro ?_ ?_ | (intro h; first | exact Bool.noConfusion h | with_reducible exact h | (have ht : true = true := h; clear ht h) | skip) | ((with_reducible refine DWl.mark ?_); repeat' (first | refine DWl.cons ?_ ?_ | exact DWl.nil | exact DW.same _ rfl | exact DW.ref _ _ _ rfl | exact DW.arr _ _ _ rfl | exact DW.sub _ _ _ _ rfl | exact DW.nilLst _ | refine DW.aggl ?_ | refine DW.tupl ?_ | refine DW.clol ?_ ?_ | refine DW.int ?_ | refine DW.bool ?_ | refine DW.str ?_)) | ((with_reducible refine SCall.mark ?_); first | refine SCall.data (fits33_D _) rfl rfl ?_ | refine SCall.scal (fits33_D _) rfl rfl ?_ | refine SCall.data (flow30_D _) rfl rfl ?_ | refine SCall.scal (flow30_D _) rfl rfl ?_) | ((with_reducible refine PCall.mark ?_); first | refine PCall.mk (fits33_D _) rfl rfl ?_ | refine PCall.mk (flow30_D _) rfl rfl ?_) | ((with_reducible refine GCall.mark ?_); first | refine GCall.data (fun _ => fits33_D _) rfl rfl ?_ | refine GCall.scal (fun _ => fits33_D _) rfl rfl ?_ | refine GCall.data (fun _ => flow30_D _) rfl rfl ?_ | refine GCall.scal (fun _ => flow30_D _) rfl rfl ?_) | ((with_reducible refine MCall.mark ?_); first | refine MCall.data (fun _ => fits33_D _) rfl rfl ?_ | refine MCall.plain (PCall.mk (fits33_D _) rfl rfl ?_) | refine MCall.data (fun _ => flow30_D _) rfl rfl ?_ | refine MCall.plain (PCall.mk (flow30_D _) rfl rfl ?_)) | refine dcell_ok rfl ?_ | refine AppC.new ?_))
  all_goals first | (with_reducible refine enters_mark ?_; kernel_rfl) | (with_reducible refine boolT_mark ?_; kernel_rfl) | rfl | trivial | assumption | exact Nat.le_of_ble_eq_true rfl | (show entersB _ _ = true; kernel_rfl) | exact DW.same _ rfl | exact DW.ref _ _ _ rfl | exact DW.arr _ _ _ rfl | refine DW.int ?_ | refine dvb ?_ | refine dvi ?_ | exact OW.cells rfl rfl (DWl.same rfl) | exact Nat.zero_le _ | omega | skip
  all_goals repeat' (first | refine OW.cells rfl rfl ?_ | exact DW.nilArr _ rfl | refine DWl.cons ?_ ?_ | exact DWl.nil | exact DW.same _ rfl | exact DW.ref _ _ _ rfl | exact DW.arr _ _ _ rfl | exact DW.sub _ _ _ _ rfl | exact DW.nilLst _ | refine DW.aggl ?_ | refine DW.tupl ?_ | refine DW.clol ?_ ?_)
  all_goals try ((conv => whnf); with_reducible first | refine Round.mark ?_ | refine Tells.mark ?_ | refine Retold.mark ?_)
  all_goals try first | (show (_ : Bool) = _; simp_all; done) | (show (_ : Int) < _; simp at *; omega) | (show (_ : Int) ≤ _; simp at *; omega) | (show (_ : Nat) < _; simp at *; omega) | (show (_ : Nat) ≤ _; simp at *; omega)
  all_goals (conv => whnf)
  all_goals exact Tells.mk (DW.bool rfl)
set_option maxRecDepth 20000 in
theorem fit15_D (a : Al) : DPure Tryd.prog 15 [.agg (alD a)] (bl (fitA a)) := by
  refine DFun.data (DFun.body Tryd.func15 rfl (by kernel_rfl) ?_)
  repeat' (first | with_reducible rfl | ((conv => whnf); first | refine And.intro ?_ ?_ | (intro h; first | exact Bool.noConfusion h | with_reducible exact h | (have ht : true = true := h; clear ht h) | skip) | ((with_reducible refine DWl.mark ?_); repeat' (first | refine DWl.cons ?_ ?_ | exact DWl.nil | exact DW.same _ rfl | exact DW.ref _ _ _ rfl | exact DW.arr _ _ _ rfl | exact DW.sub _ _ _ _ rfl | exact DW.nilLst _ | refine DW.aggl ?_ | refine DW.tupl ?_ | refine DW.clol ?_ ?_ | refine DW.int ?_ | refine DW.bool ?_ | refine DW.str ?_)) | ((with_reducible refine SCall.mark ?_); first | refine SCall.data (fits33_D _) rfl rfl ?_ | refine SCall.scal (fits33_D _) rfl rfl ?_ | refine SCall.data (flow30_D _) rfl rfl ?_ | refine SCall.scal (flow30_D _) rfl rfl ?_) | ((with_reducible refine PCall.mark ?_); first | refine PCall.mk (fits33_D _) rfl rfl ?_ | refine PCall.mk (flow30_D _) rfl rfl ?_) | ((with_reducible refine GCall.mark ?_); first | refine GCall.data (fun _ => fits33_D _) rfl rfl ?_ | refine GCall.scal (fun _ => fits33_D _) rfl rfl ?_ | refine GCall.data (fun _ => flow30_D _) rfl rfl ?_ | refine GCall.scal (fun _ => flow30_D _) rfl rfl ?_) | ((with_reducible refine MCall.mark ?_); first | refine MCall.data (fun _ => fits33_D _) rfl rfl ?_ | refine MCall.plain (PCall.mk (fits33_D _) rfl rfl ?_) | refine MCall.data (fun _ => flow30_D _) rfl rfl ?_ | refine MCall.plain (PCall.mk (flow30_D _) rfl rfl ?_)) | refine dcell_ok rfl ?_ | refine AppC.new ?_))
  all_goals first | (with_reducible refine enters_mark ?_; kernel_rfl) | (with_reducible refine boolT_mark ?_; kernel_rfl) | rfl | trivial | assumption | exact Nat.le_of_ble_eq_true rfl | (show entersB _ _ = true; kernel_rfl) | exact DW.same _ rfl | exact DW.ref _ _ _ rfl | exact DW.arr _ _ _ rfl | refine DW.int ?_ | refine dvb ?_ | refine dvi ?_ | exact OW.cells rfl rfl (DWl.same rfl) | exact Nat.zero_le _ | omega | skip
  all_goals repeat' (first | refine OW.cells rfl rfl ?_ | exact DW.nilArr _ rfl | refine DWl.cons ?_ ?_ | exact DWl.nil | exact DW.same _ rfl | exact DW.ref _ _ _ rfl | exact DW.arr _ _ _ rfl | exact DW.sub _ _ _ _ rfl | exact DW.nilLst _ | refine DW.aggl ?_ | refine DW.tupl ?_ | refine DW.clol ?_ ?_)
  all_goals try ((conv => whnf); with_reducible first | refine Round.mark ?_ | refine Tells.mark ?_ | refine Retold.mark ?_)
  all_goals try first | (show (_ : Bool) = _; simp_all; done) | (show (_ : Int) < _; simp at *; omega) | (show (_ : Int) ≤ _; simp at *; omega) | (show (_ : Nat) < _; simp at *; omega) | (show (_ : Nat) ≤ _; simp at *; omega)
  all_goals (conv => whnf)
  all_goals exact Tells.mk (DW.bool rfl)
set_option maxRecDepth 20000 in
theorem sample11_D (s : Sm) : DPure Tryd.prog 11 [.agg (smD s)] (bl (sampleB s)) := by
  refine DFun.data (DFun.body Tryd.func11 rfl (by kernel_rfl) ?_)
  repeat' (first | with_reducible rfl | ((conv => whnf); first | refine And.intro ?_ ?_ | (intro h; first | exact Bool.noConfusion h | with_reducible exact h | (have ht : true = true := h; clear ht h) | skip) | ((with_reducible refine DWl.mark ?_); repeat' (first | refine DWl.cons ?_ ?_ | exact DWl.nil | exact DW.same _ rfl | exact DW.ref _ _ _ rfl | exact DW.arr _ _ _ rfl | exact DW.sub _ _ _ _ rfl | exact DW.nilLst _ | refine DW.aggl ?_ | refine DW.tupl ?_ | refine DW.clol ?_ ?_ | refine DW.int ?_ | refine DW.bool ?_ | refine DW.str ?_)) | ((with_reducible refine SCall.mark ?_); first | refine SCall.data (fits33_D _) rfl rfl ?_ | refine SCall.scal (fits33_D _) rfl rfl ?_ | refine SCall.data (flow30_D _) rfl rfl ?_ | refine SCall.scal (flow30_D _) rfl rfl ?_) | ((with_reducible refine PCall.mark ?_); first | refine PCall.mk (fits33_D _) rfl rfl ?_ | refine PCall.mk (flow30_D _) rfl rfl ?_) | ((with_reducible refine GCall.mark ?_); first | refine GCall.data (fun _ => fits33_D _) rfl rfl ?_ | refine GCall.scal (fun _ => fits33_D _) rfl rfl ?_ | refine GCall.data (fun _ => flow30_D _) rfl rfl ?_ | refine GCall.scal (fun _ => flow30_D _) rfl rfl ?_) | ((with_reducible refine MCall.mark ?_); first | refine MCall.data (fun _ => fits33_D _) rfl rfl ?_ | refine MCall.plain (PCall.mk (fits33_D _) rfl rfl ?_) | refine MCall.data (fun _ => flow30_D _) rfl rfl ?_ | refine MCall.plain (PCall.mk (flow30_D _) rfl rfl ?_)) | refine dcell_ok rfl ?_ | refine AppC.new ?_))
  all_goals first | (with_reducible refine enters_mark ?_; kernel_rfl) | (with_reducible refine boolT_mark ?_; kernel_rfl) | rfl | trivial | assumption | exact Nat.le_of_ble_eq_true rfl | (show entersB _ _ = true; kernel_rfl) | exact DW.same _ rfl | exact DW.ref _ _ _ rfl | exact DW.arr _ _ _ rfl | refine DW.int ?_ | refine dvb ?_ | refine dvi ?_ | exact OW.cells rfl rfl (DWl.same rfl) | exact Nat.zero_le _ | omega | skip
  all_goals repeat' (first | refine OW.cells rfl rfl ?_ | exact DW.nilArr _ rfl | refine DWl.cons ?_ ?_ | exact DWl.nil | exact DW.same _ rfl | exact DW.ref _ _ _ rfl | exact DW.arr _ _ _ rfl | exact DW.sub _ _ _ _ rfl | exact DW.nilLst _ | refine DW.aggl ?_ | refine DW.tupl ?_ | refine DW.clol ?_ ?_)
  all_goals try ((conv => whnf); with_reducible first | refine Round.mark ?_ | refine Tells.mark ?_ | refine Retold.mark ?_)
  all_goals try first | (show (_ : Bool) = _; simp_all; done) | (show (_ : Int) < _; simp at *; omega) | (show (_ : Int) ≤ _; simp at *; omega) | (show (_ : Nat) < _; simp at *; omega) | (show (_ : Nat) ≤ _; simp at *; omega)
  all_goals (conv => whnf)
  all_goals exact Tells.mk (DW.bool rfl)
attribute [local irreducible] fitA sampleB
def ackW (s : Wt) : Wt × Bool := if s.on = true ∧ s.acked = false then ({ s with acked := true }, true) else (s, false)
theorem ack_no {s : Wt} (h : (bif !s.on then true else s.acked) = true) : ackW s = (s, false) := by
  unfold ackW
  rw [if_neg]
  rintro ⟨h1, h2⟩
  rw [h1, h2] at h; cases h
theorem ack_yes {s : Wt} (h : (bif !s.on then true else s.acked) = false) : ackW s = ({ s with acked := true }, true) := by
  unfold ackW
  rw [if_pos]
  cases h1 : s.on <;> cases h2 : s.acked <;> rw [h1, h2] at h <;> simp at h ⊢
theorem state_no {a : Al} {s : Wt} (h : (bif bif bif bif bif !fitA a then true else decide (s.run < 0) then true else decide (a.hold ≤ s.run) then true else !flowB s.last then true else bif !s.has then s.last != 0 else false then true else bif s.acked then !s.on else false) = true) : false = stateB a s := by
  unfold stateB
  cases h1 : fitA a <;> cases h2 : flowB s.last <;> cases h3 : s.has <;> cases h4 : s.acked <;> cases h5 : s.on <;> simp [h1, h2, h3, h4, h5] at h ⊢ <;> omega
theorem state_yes {a : Al} {s : Wt} (h : (bif bif bif bif bif !fitA a then true else decide (s.run < 0) then true else decide (a.hold ≤ s.run) then true else !flowB s.last then true else bif !s.has then s.last != 0 else false then true else bif s.acked then !s.on else false) = false) : (bif bif decide (0 ≤ s.since) then decide (s.since ≤ 1099511627776) else false then bif s.on then true else s.since == 0 else false) = stateB a s := by
  unfold stateB
  cases h1 : fitA a <;> cases h2 : flowB s.last <;> cases h3 : s.has <;> cases h4 : s.acked <;> cases h5 : s.on <;> simp [h1, h2, h3, h4, h5] at h ⊢ <;> (have h6 : s.run < a.hold := by omega) <;> (have h7 : 0 ≤ s.run := by omega) <;> simp [h6, h7] <;> (rw [Bool.eq_iff_iff]; simp; omega)
set_option maxRecDepth 20000 in
theorem state10_D (a : Al) (s : Wt) : DPure Tryd.prog 10 [.agg (alD a), .agg (wtD s)] (bl (stateB a s)) := by
  refine DFun.data (DFun.body Tryd.func10 rfl (by kernel_rfl) ?_)
  repeat' (first | with_reducible rfl | ((conv => whnf); first | refine And.intro ?_ ?_ | (intro h; first | exact Bool.noConfusion h | with_reducible exact h | (have ht : true = true := h; clear ht h) | skip) | ((with_reducible refine DWl.mark ?_); repeat' (first | refine DWl.cons ?_ ?_ | exact DWl.nil | exact DW.same _ rfl | exact DW.ref _ _ _ rfl | exact DW.arr _ _ _ rfl | exact DW.sub _ _ _ _ rfl | exact DW.nilLst _ | refine DW.aggl ?_ | refine DW.tupl ?_ | refine DW.clol ?_ ?_ | refine DW.int ?_ | refine DW.bool ?_ | refine DW.str ?_)) | ((with_reducible refine SCall.mark ?_); first | refine SCall.data (flow30_D _) rfl rfl ?_ | refine SCall.scal (flow30_D _) rfl rfl ?_ | refine SCall.data (fit15_D a) rfl rfl ?_ | refine SCall.scal (fit15_D a) rfl rfl ?_) | ((with_reducible refine PCall.mark ?_); first | refine PCall.mk (flow30_D _) rfl rfl ?_ | refine PCall.mk (fit15_D a) rfl rfl ?_) | ((with_reducible refine GCall.mark ?_); first | refine GCall.data (fun _ => flow30_D _) rfl rfl ?_ | refine GCall.scal (fun _ => flow30_D _) rfl rfl ?_ | refine GCall.data (fun _ => fit15_D a) rfl rfl ?_ | refine GCall.scal (fun _ => fit15_D a) rfl rfl ?_) | ((with_reducible refine MCall.mark ?_); first | refine MCall.data (fun _ => flow30_D _) rfl rfl ?_ | refine MCall.plain (PCall.mk (flow30_D _) rfl rfl ?_) | refine MCall.data (fun _ => fit15_D a) rfl rfl ?_ | refine MCall.plain (PCall.mk (fit15_D a) rfl rfl ?_)) | refine dcell_ok rfl ?_ | refine AppC.new ?_))
  all_goals first | (with_reducible refine enters_mark ?_; kernel_rfl) | (with_reducible refine boolT_mark ?_; kernel_rfl) | rfl | trivial | assumption | exact Nat.le_of_ble_eq_true rfl | (show entersB _ _ = true; kernel_rfl) | exact DW.same _ rfl | exact DW.ref _ _ _ rfl | exact DW.arr _ _ _ rfl | refine DW.int ?_ | refine dvb ?_ | refine dvi ?_ | exact OW.cells rfl rfl (DWl.same rfl) | exact Nat.zero_le _ | omega | skip
  all_goals repeat' (first | refine OW.cells rfl rfl ?_ | exact DW.nilArr _ rfl | refine DWl.cons ?_ ?_ | exact DWl.nil | exact DW.same _ rfl | exact DW.ref _ _ _ rfl | exact DW.arr _ _ _ rfl | exact DW.sub _ _ _ _ rfl | exact DW.nilLst _ | refine DW.aggl ?_ | refine DW.tupl ?_ | refine DW.clol ?_ ?_)
  all_goals try ((conv => whnf); with_reducible first | refine Round.mark ?_ | refine Tells.mark ?_ | refine Retold.mark ?_)
  all_goals try first | (show (_ : Bool) = _; simp_all; done) | (show (_ : Int) < _; simp at *; omega) | (show (_ : Int) ≤ _; simp at *; omega) | (show (_ : Nat) < _; simp at *; omega) | (show (_ : Nat) ≤ _; simp at *; omega)
  conv => whnf
  exact Tells.mk (DW.bool rfl)
set_option maxRecDepth 20000 in
theorem state27_D (a : Al) (s : Wt) : DPure Tryd.prog 27 [.agg (alD a), .agg (wtD s)] (bl (stateB a s)) := by
  refine DFun.data (DFun.body Tryd.func27 rfl (by kernel_rfl) ?_)
  repeat' (first | with_reducible rfl | ((conv => whnf); first | refine And.intro ?_ ?_ | (intro h; first | exact Bool.noConfusion h | with_reducible exact h | (have ht : true = true := h; clear ht h) | skip) | ((with_reducible refine DWl.mark ?_); repeat' (first | refine DWl.cons ?_ ?_ | exact DWl.nil | exact DW.same _ rfl | exact DW.ref _ _ _ rfl | exact DW.arr _ _ _ rfl | exact DW.sub _ _ _ _ rfl | exact DW.nilLst _ | refine DW.aggl ?_ | refine DW.tupl ?_ | refine DW.clol ?_ ?_ | refine DW.int ?_ | refine DW.bool ?_ | refine DW.str ?_)) | ((with_reducible refine SCall.mark ?_); first | refine SCall.data (fits33_D _) rfl rfl ?_ | refine SCall.scal (fits33_D _) rfl rfl ?_ | refine SCall.data (fit26_D a) rfl rfl ?_ | refine SCall.scal (fit26_D a) rfl rfl ?_) | ((with_reducible refine PCall.mark ?_); first | refine PCall.mk (fits33_D _) rfl rfl ?_ | refine PCall.mk (fit26_D a) rfl rfl ?_) | ((with_reducible refine GCall.mark ?_); first | refine GCall.data (fun _ => fits33_D _) rfl rfl ?_ | refine GCall.scal (fun _ => fits33_D _) rfl rfl ?_ | refine GCall.data (fun _ => fit26_D a) rfl rfl ?_ | refine GCall.scal (fun _ => fit26_D a) rfl rfl ?_) | ((with_reducible refine MCall.mark ?_); first | refine MCall.data (fun _ => fits33_D _) rfl rfl ?_ | refine MCall.plain (PCall.mk (fits33_D _) rfl rfl ?_) | refine MCall.data (fun _ => fit26_D a) rfl rfl ?_ | refine MCall.plain (PCall.mk (fit26_D a) rfl rfl ?_)) | refine dcell_ok rfl ?_ | refine AppC.new ?_))
  all_goals first | (with_reducible refine enters_mark ?_; kernel_rfl) | (with_reducible refine boolT_mark ?_; kernel_rfl) | rfl | trivial | assumption | exact Nat.le_of_ble_eq_true rfl | (show entersB _ _ = true; kernel_rfl) | exact DW.same _ rfl | exact DW.ref _ _ _ rfl | exact DW.arr _ _ _ rfl | refine DW.int ?_ | refine dvb ?_ | refine dvi ?_ | exact OW.cells rfl rfl (DWl.same rfl) | exact Nat.zero_le _ | omega | skip
  all_goals repeat' (first | refine OW.cells rfl rfl ?_ | exact DW.nilArr _ rfl | refine DWl.cons ?_ ?_ | exact DWl.nil | exact DW.same _ rfl | exact DW.ref _ _ _ rfl | exact DW.arr _ _ _ rfl | exact DW.sub _ _ _ _ rfl | exact DW.nilLst _ | refine DW.aggl ?_ | refine DW.tupl ?_ | refine DW.clol ?_ ?_)
  all_goals try ((conv => whnf); with_reducible first | refine Round.mark ?_ | refine Tells.mark ?_ | refine Retold.mark ?_)
  all_goals try first | (show (_ : Bool) = _; simp_all; done) | (show (_ : Int) < _; simp at *; omega) | (show (_ : Int) ≤ _; simp at *; omega) | (show (_ : Nat) < _; simp at *; omega) | (show (_ : Nat) ≤ _; simp at *; omega)
  all_goals (conv => whnf)
  · exact Tells.mk (DW.bool (state_no h))
  · exact Tells.mk (DW.bool (state_yes h))
set_option maxRecDepth 20000 in
theorem ack24_D (s : Wt) : DPure Tryd.prog 24 [.agg (wtD s)] (.tup [.agg (wtD (ackW s).1), bl (ackW s).2]) := by
  refine DFun.data (DFun.body Tryd.func24 rfl (by kernel_rfl) ?_)
  repeat' (first | with_reducible rfl | ((conv => whnf); first | refine And.intro ?_ ?_ | (intro h; first | exact Bool.noConfusion h | with_reducible exact h | (have ht : true = true := h; clear ht h) | skip) | ((with_reducible refine DWl.mark ?_); repeat' (first | refine DWl.cons ?_ ?_ | exact DWl.nil | exact DW.same _ rfl | exact DW.ref _ _ _ rfl | exact DW.arr _ _ _ rfl | exact DW.sub _ _ _ _ rfl | exact DW.nilLst _ | refine DW.aggl ?_ | refine DW.tupl ?_ | refine DW.clol ?_ ?_ | refine DW.int ?_ | refine DW.bool ?_ | refine DW.str ?_)) | refine dcell_ok rfl ?_ | refine AppC.new ?_))
  all_goals first | (with_reducible refine enters_mark ?_; kernel_rfl) | (with_reducible refine boolT_mark ?_; kernel_rfl) | rfl | trivial | assumption | exact Nat.le_of_ble_eq_true rfl | (show entersB _ _ = true; kernel_rfl) | exact DW.same _ rfl | exact DW.ref _ _ _ rfl | exact DW.arr _ _ _ rfl | refine DW.int ?_ | refine dvb ?_ | refine dvi ?_ | exact OW.cells rfl rfl (DWl.same rfl) | exact Nat.zero_le _ | omega | skip
  all_goals repeat' (first | refine OW.cells rfl rfl ?_ | exact DW.nilArr _ rfl | refine DWl.cons ?_ ?_ | exact DWl.nil | exact DW.same _ rfl | exact DW.ref _ _ _ rfl | exact DW.arr _ _ _ rfl | exact DW.sub _ _ _ _ rfl | exact DW.nilLst _ | refine DW.aggl ?_ | refine DW.tupl ?_ | refine DW.clol ?_ ?_)
  all_goals try ((conv => whnf); with_reducible first | refine Round.mark ?_ | refine Tells.mark ?_ | refine Retold.mark ?_)
  all_goals try first | (show (_ : Bool) = _; simp_all; done) | (show (_ : Int) < _; simp at *; omega) | (show (_ : Int) ≤ _; simp at *; omega) | (show (_ : Nat) < _; simp at *; omega) | (show (_ : Nat) ≤ _; simp at *; omega)
  · exact Tells.of (r1 := .tup [.agg (wtD s), bl false]) (by rw [ack_no h]) (Tells.mk (DW.tupl (DWl.cons (DW.aggl (DWl.cons (DW.bool rfl) (DWl.cons (DW.int rfl) (DWl.cons (DW.bool rfl) (DWl.cons (DW.int rfl) (DWl.cons (DW.bool rfl) (DWl.cons (DW.int rfl) DWl.nil))))))) (DWl.cons (DW.bool rfl) DWl.nil))))
  · exact Tells.of (r1 := .tup [.agg (wtD { s with acked := true }), bl true]) (by rw [ack_yes h]) (Tells.mk (DW.tupl (DWl.cons (DW.aggl (DWl.cons (DW.bool rfl) (DWl.cons (DW.int rfl) (DWl.cons (DW.bool rfl) (DWl.cons (DW.int rfl) (DWl.cons (DW.bool rfl) (DWl.cons (DW.int rfl) DWl.nil))))))) (DWl.cons (DW.bool rfl) DWl.nil))))
set_option maxRecDepth 20000 in
theorem ack25_D (s : Wt) : DPure Tryd.prog 25 [.agg (wtD s)] (.tup [.agg (wtD (ackW s).1), bl (ackW s).2]) := by
  refine DFun.data (DFun.body Tryd.func25 rfl (by kernel_rfl) ?_)
  repeat' (first | with_reducible rfl | ((conv => whnf); first | refine And.intro ?_ ?_ | (intro h; first | exact Bool.noConfusion h | with_reducible exact h | (have ht : true = true := h; clear ht h) | skip) | ((with_reducible refine DWl.mark ?_); repeat' (first | refine DWl.cons ?_ ?_ | exact DWl.nil | exact DW.same _ rfl | exact DW.ref _ _ _ rfl | exact DW.arr _ _ _ rfl | exact DW.sub _ _ _ _ rfl | exact DW.nilLst _ | refine DW.aggl ?_ | refine DW.tupl ?_ | refine DW.clol ?_ ?_ | refine DW.int ?_ | refine DW.bool ?_ | refine DW.str ?_)) | refine dcell_ok rfl ?_ | refine AppC.new ?_))
  all_goals first | (with_reducible refine enters_mark ?_; kernel_rfl) | (with_reducible refine boolT_mark ?_; kernel_rfl) | rfl | trivial | assumption | exact Nat.le_of_ble_eq_true rfl | (show entersB _ _ = true; kernel_rfl) | exact DW.same _ rfl | exact DW.ref _ _ _ rfl | exact DW.arr _ _ _ rfl | refine DW.int ?_ | refine dvb ?_ | refine dvi ?_ | exact OW.cells rfl rfl (DWl.same rfl) | exact Nat.zero_le _ | omega | skip
  all_goals repeat' (first | refine OW.cells rfl rfl ?_ | exact DW.nilArr _ rfl | refine DWl.cons ?_ ?_ | exact DWl.nil | exact DW.same _ rfl | exact DW.ref _ _ _ rfl | exact DW.arr _ _ _ rfl | exact DW.sub _ _ _ _ rfl | exact DW.nilLst _ | refine DW.aggl ?_ | refine DW.tupl ?_ | refine DW.clol ?_ ?_)
  all_goals try ((conv => whnf); with_reducible first | refine Round.mark ?_ | refine Tells.mark ?_ | refine Retold.mark ?_)
  all_goals try first | (show (_ : Bool) = _; simp_all; done) | (show (_ : Int) < _; simp at *; omega) | (show (_ : Int) ≤ _; simp at *; omega) | (show (_ : Nat) < _; simp at *; omega) | (show (_ : Nat) ≤ _; simp at *; omega)
  · exact Tells.of (r1 := .tup [.agg (wtD s), bl false]) (by rw [ack_no h]) (Tells.mk (DW.tupl (DWl.cons (DW.aggl (DWl.cons (DW.bool rfl) (DWl.cons (DW.int rfl) (DWl.cons (DW.bool rfl) (DWl.cons (DW.int rfl) (DWl.cons (DW.bool rfl) (DWl.cons (DW.int rfl) DWl.nil))))))) (DWl.cons (DW.bool rfl) DWl.nil))))
  · exact Tells.of (r1 := .tup [.agg (wtD { s with acked := true }), bl true]) (by rw [ack_yes h]) (Tells.mk (DW.tupl (DWl.cons (DW.aggl (DWl.cons (DW.bool rfl) (DWl.cons (DW.int rfl) (DWl.cons (DW.bool rfl) (DWl.cons (DW.int rfl) (DWl.cons (DW.bool rfl) (DWl.cons (DW.int rfl) DWl.nil))))))) (DWl.cons (DW.bool rfl) DWl.nil))))
end Go.Proofs.YtphgcgggbbcjgaaDoor
