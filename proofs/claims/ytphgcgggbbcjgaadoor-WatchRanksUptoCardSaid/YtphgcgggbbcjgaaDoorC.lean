/- A sample taken: the document's. -/
import Derived.Test.YtphgcgggbbcjgaaDoorB
namespace Go.Proofs.YtphgcgggbbcjgaaDoor
open Go.RowKit Go.Dl
attribute [local irreducible] Tri SCall DFun QSem PCall GCall MCall Round Weak dloadE OW DWl Tells IntKind.wrap Retold ESem

def awayI (x y : Int) : Int := if IntKind.i64.wrap (x - y) < IntKind.i64.wrap (y - x) then IntKind.i64.wrap (y - x) else IntKind.i64.wrap (x - y)
def sp1 (a : Al) (s : Wt) (v : Int) : Bool := bif bif !s.on then decide (a.high ≤ v) else false then true else bif s.on then decide (v ≤ a.low) else false
def sp2 (a : Al) (s : Wt) (v : Int) : Bool := bif bif !s.on then decide (v ≤ a.low) else false then true else bif s.on then decide (a.high ≤ v) else false
def sp3 (a : Al) (s : Wt) (v : Int) : Bool := s.on != bif decide (v < a.low) then true else decide (a.high < v)
def sp4 (a : Al) (s : Wt) (v : Int) : Bool := bif s.has then bif bif !s.on then decide (a.high < awayI v s.last) else false then true else bif s.on then decide (awayI v s.last ≤ a.low) else false else false
def speaksB (a : Al) (s : Wt) (v : Int) : Bool := if (a.kind == 1) = true then sp1 a s v else if (a.kind == 2) = true then sp2 a s v else if (a.kind == 3) = true then sp3 a s v else sp4 a s v
set_option maxRecDepth 20000 in
theorem speaks32_D (a : Al) (s : Wt) (v : Int) : DPure Tryd.prog 32 [.agg (alD a), .agg (wtD s), int1 v] (bl (speaksB a s v)) := by
  refine DFun.data (DFun.body Tryd.func32 rfl (by kernel_rfl) ?_)
  repeat' (first | with_reducible rfl | ((conv => whnf); first | refine And.intro ?_ ?_ | (intro h; first | exact Bool.noConfusion h | with_reducible exact h | (have ht : true = true := h; clear ht h) | skip) | ((with_reducible refine DWl.mark ?_); repeat' (first | refine DWl.cons ?_ ?_ | exact DWl.nil | exact DW.same _ rfl | exact DW.ref _ _ _ rfl | exact DW.arr _ _ _ rfl | exact DW.sub _ _ _ _ rfl | exact DW.nilLst _ | refine DW.aggl ?_ | refine DW.tupl ?_ | refine DW.clol ?_ ?_ | refine DW.int ?_ | refine DW.bool ?_ | refine DW.str ?_)) | refine dcell_ok rfl ?_ | refine AppC.new ?_))
  all_goals first | (with_reducible refine enters_mark ?_; kernel_rfl) | (with_reducible refine boolT_mark ?_; kernel_rfl) | rfl | trivial | assumption | exact Nat.le_of_ble_eq_true rfl | (show entersB _ _ = true; kernel_rfl) | exact DW.same _ rfl | exact DW.ref _ _ _ rfl | exact DW.arr _ _ _ rfl | refine DW.int ?_ | refine dvb ?_ | refine dvi ?_ | exact OW.cells rfl rfl (DWl.same rfl) | exact Nat.zero_le _ | omega | skip
  all_goals repeat' (first | refine OW.cells rfl rfl ?_ | exact DW.nilArr _ rfl | refine DWl.cons ?_ ?_ | exact DWl.nil | exact DW.same _ rfl | exact DW.ref _ _ _ rfl | exact DW.arr _ _ _ rfl | exact DW.sub _ _ _ _ rfl | exact DW.nilLst _ | refine DW.aggl ?_ | refine DW.tupl ?_ | refine DW.clol ?_ ?_)
  all_goals try ((conv => whnf); with_reducible first | refine Round.mark ?_ | refine Tells.mark ?_ | refine Retold.mark ?_)
  all_goals try first | (show (_ : Bool) = _; simp_all; done) | (show (_ : Int) < _; simp at *; omega) | (show (_ : Int) ≤ _; simp at *; omega) | (show (_ : Nat) < _; simp at *; omega) | (show (_ : Nat) ≤ _; simp at *; omega)
  all_goals (conv => whnf)
  · exact Tells.mk (DW.bool (show sp1 a s v = speaksB a s v from by rw [speaksB, if_pos h]))
  · rename_i h1
    exact Tells.mk (DW.bool (show sp2 a s v = speaksB a s v from by rw [speaksB, if_neg (by rw [h1]; decide), if_pos h]))
  · rename_i h1 h2
    exact Tells.mk (DW.bool (show sp3 a s v = speaksB a s v from by rw [speaksB, if_neg (by rw [h1]; decide), if_neg (by rw [h2]; decide), if_pos h]))
  · rename_i h1 h2
    exact Tells.mk (DW.bool (show sp4 a s v = speaksB a s v from by rw [speaksB, if_neg (by rw [h1]; decide), if_neg (by rw [h2]; decide), if_neg (by rw [h]; decide)]))
def turnT (a : Al) (s : Wt) (m : Sm) (r : Int) : Wt × Int :=
  if r = a.hold then (if s.on = true then (⟨false, 0, true, m.value, false, 0⟩, 2) else (⟨true, 0, true, m.value, false, m.tick⟩, 1)) else (⟨s.on, r, true, m.value, s.acked, s.since⟩, 0)
def takeT (a : Al) (s : Wt) (m : Sm) : Wt × Int :=
  if m.has = true then turnT a s m (if speaksB a s m.value = true then IntKind.i64.wrap (s.run + 1) else 0) else (⟨s.on, 0, s.has, s.last, s.acked, s.since⟩, 0)
theorem take_none {a : Al} {s : Wt} {m : Sm} (h : (!m.has) = true) : takeT a s m = (⟨s.on, 0, s.has, s.last, s.acked, s.since⟩, 0) := by
  rw [takeT, if_neg (by intro e; rw [e] at h; cases h)]
theorem take_yes {a : Al} {s : Wt} {m : Sm} (h : (!m.has) = false) (h2 : speaksB a s m.value = true) : takeT a s m = turnT a s m (IntKind.i64.wrap (s.run + 1)) := by
  rw [takeT, if_pos (by cases e : m.has <;> rw [e] at h <;> simp at h ⊢), if_pos h2]
theorem take_no {a : Al} {s : Wt} {m : Sm} (h : (!m.has) = false) (h2 : speaksB a s m.value = false) : takeT a s m = turnT a s m 0 := by
  rw [takeT, if_pos (by cases e : m.has <;> rw [e] at h <;> simp at h ⊢), if_neg (by rw [h2]; decide)]
theorem turn_no {a : Al} {s : Wt} {m : Sm} {r : Int} (h : (r == a.hold) = false) : turnT a s m r = (⟨s.on, r, true, m.value, s.acked, s.since⟩, 0) := by
  rw [turnT, if_neg (by simpa using h)]
theorem turn_off {a : Al} {s : Wt} {m : Sm} {r : Int} (h : (r == a.hold) = true) (h2 : (!s.on) = false) : turnT a s m r = (⟨false, 0, true, m.value, false, 0⟩, 2) := by
  rw [turnT, if_pos (by simpa using h), if_pos (by simpa using h2)]
theorem turn_on {a : Al} {s : Wt} {m : Sm} {r : Int} (h : (r == a.hold) = true) (h2 : (!s.on) = true) : turnT a s m r = (⟨true, 0, true, m.value, false, m.tick⟩, 1) := by
  rw [turnT, if_pos (by simpa using h), if_neg (by simpa using h2)]
attribute [local irreducible] speaksB
set_option maxRecDepth 20000 in
theorem take14_D (a : Al) (s : Wt) (m : Sm) : DPure Tryd.prog 14 [.agg (alD a), .agg (wtD s), .agg (smD m)] (.tup [.agg (wtD (takeT a s m).1), int1 (takeT a s m).2]) := by
  refine DFun.data (DFun.body Tryd.func14 rfl (by kernel_rfl) ?_)
  repeat' (first | with_reducible rfl | ((conv => whnf); first | refine And.intro ?_ ?_ | (intro h; first | exact Bool.noConfusion h | with_reducible exact h | (have ht : true = true := h; clear ht h) | skip) | ((with_reducible refine DWl.mark ?_); repeat' (first | refine DWl.cons ?_ ?_ | exact DWl.nil | exact DW.same _ rfl | exact DW.ref _ _ _ rfl | exact DW.arr _ _ _ rfl | exact DW.sub _ _ _ _ rfl | exact DW.nilLst _ | refine DW.aggl ?_ | refine DW.tupl ?_ | refine DW.clol ?_ ?_ | refine DW.int ?_ | refine DW.bool ?_ | refine DW.str ?_)) | ((with_reducible refine SCall.mark ?_); first | refine SCall.data (speaks32_D _ _ _) rfl rfl ?_ | refine SCall.scal (speaks32_D _ _ _) rfl rfl ?_) | ((with_reducible refine PCall.mark ?_); first | refine PCall.mk (speaks32_D _ _ _) rfl rfl ?_) | ((with_reducible refine GCall.mark ?_); first | refine GCall.data (fun _ => speaks32_D _ _ _) rfl rfl ?_ | refine GCall.scal (fun _ => speaks32_D _ _ _) rfl rfl ?_) | ((with_reducible refine MCall.mark ?_); first | refine MCall.data (fun _ => speaks32_D _ _ _) rfl rfl ?_ | refine MCall.plain (PCall.mk (speaks32_D _ _ _) rfl rfl ?_)) | refine dcell_ok rfl ?_ | refine AppC.new ?_))
  all_goals first | (with_reducible refine enters_mark ?_; kernel_rfl) | (with_reducible refine boolT_mark ?_; kernel_rfl) | rfl | trivial | assumption | exact Nat.le_of_ble_eq_true rfl | (show entersB _ _ = true; kernel_rfl) | exact DW.same _ rfl | exact DW.ref _ _ _ rfl | exact DW.arr _ _ _ rfl | refine DW.int ?_ | refine dvb ?_ | refine dvi ?_ | exact OW.cells rfl rfl (DWl.same rfl) | exact Nat.zero_le _ | omega | skip
  all_goals repeat' (first | refine OW.cells rfl rfl ?_ | exact DW.nilArr _ rfl | refine DWl.cons ?_ ?_ | exact DWl.nil | exact DW.same _ rfl | exact DW.ref _ _ _ rfl | exact DW.arr _ _ _ rfl | exact DW.sub _ _ _ _ rfl | exact DW.nilLst _ | refine DW.aggl ?_ | refine DW.tupl ?_ | refine DW.clol ?_ ?_)
  all_goals try ((conv => whnf); with_reducible first | refine Round.mark ?_ | refine Tells.mark ?_ | refine Retold.mark ?_)
  all_goals try first | (show (_ : Bool) = _; simp_all; done) | (show (_ : Int) < _; simp at *; omega) | (show (_ : Int) ≤ _; simp at *; omega) | (show (_ : Nat) < _; simp at *; omega) | (show (_ : Nat) ≤ _; simp at *; omega)
  · exact Tells.of (r1 := .tup [.agg (wtD ⟨s.on, 0, s.has, s.last, s.acked, s.since⟩), int1 0]) (by rw [take_none h]) (Tells.mk (DW.tupl (DWl.cons (DW.aggl (DWl.cons (DW.bool rfl) (DWl.cons (DW.int rfl) (DWl.cons (DW.bool rfl) (DWl.cons (DW.int rfl) (DWl.cons (DW.bool rfl) (DWl.cons (DW.int rfl) DWl.nil))))))) (DWl.cons (DW.int rfl) DWl.nil))))
  · rename_i h1 h2 h3
    exact Tells.of (r1 := .tup [.agg (wtD ⟨true, 0, true, m.value, false, m.tick⟩), int1 1]) (by rw [take_yes h1 h2, turn_on h3 h]) (Tells.mk (DW.tupl (DWl.cons (DW.aggl (DWl.cons (DW.bool h) (DWl.cons (DW.int rfl) (DWl.cons (DW.bool rfl) (DWl.cons (DW.int rfl) (DWl.cons (DW.bool rfl) (DWl.cons (DW.int rfl) DWl.nil))))))) (DWl.cons (DW.int rfl) DWl.nil))))
  · rename_i h1 h2 h3
    exact Tells.of (r1 := .tup [.agg (wtD ⟨false, 0, true, m.value, false, 0⟩), int1 2]) (by rw [take_yes h1 h2, turn_off h3 h]) (Tells.mk (DW.tupl (DWl.cons (DW.aggl (DWl.cons (DW.bool h) (DWl.cons (DW.int rfl) (DWl.cons (DW.bool rfl) (DWl.cons (DW.int rfl) (DWl.cons (DW.bool rfl) (DWl.cons (DW.int rfl) DWl.nil))))))) (DWl.cons (DW.int rfl) DWl.nil))))
  · rename_i h1 h2
    exact Tells.of (r1 := .tup [.agg (wtD ⟨s.on, (IntKind.i64.wrap (s.run + 1)), true, m.value, s.acked, s.since⟩), int1 0]) (by rw [take_yes h1 h2, turn_no h]) (Tells.mk (DW.tupl (DWl.cons (DW.aggl (DWl.cons (DW.bool rfl) (DWl.cons (DW.int rfl) (DWl.cons (DW.bool rfl) (DWl.cons (DW.int rfl) (DWl.cons (DW.bool rfl) (DWl.cons (DW.int rfl) DWl.nil))))))) (DWl.cons (DW.int rfl) DWl.nil))))
  · rename_i h1 h2 h3
    exact Tells.of (r1 := .tup [.agg (wtD ⟨true, 0, true, m.value, false, m.tick⟩), int1 1]) (by rw [take_no h1 h2, turn_on h3 h]) (Tells.mk (DW.tupl (DWl.cons (DW.aggl (DWl.cons (DW.bool h) (DWl.cons (DW.int rfl) (DWl.cons (DW.bool rfl) (DWl.cons (DW.int rfl) (DWl.cons (DW.bool rfl) (DWl.cons (DW.int rfl) DWl.nil))))))) (DWl.cons (DW.int rfl) DWl.nil))))
  · rename_i h1 h2 h3
    exact Tells.of (r1 := .tup [.agg (wtD ⟨false, 0, true, m.value, false, 0⟩), int1 2]) (by rw [take_no h1 h2, turn_off h3 h]) (Tells.mk (DW.tupl (DWl.cons (DW.aggl (DWl.cons (DW.bool h) (DWl.cons (DW.int rfl) (DWl.cons (DW.bool rfl) (DWl.cons (DW.int rfl) (DWl.cons (DW.bool rfl) (DWl.cons (DW.int rfl) DWl.nil))))))) (DWl.cons (DW.int rfl) DWl.nil))))
  · rename_i h1 h2
    exact Tells.of (r1 := .tup [.agg (wtD ⟨s.on, 0, true, m.value, s.acked, s.since⟩), int1 0]) (by rw [take_no h1 h2, turn_no h]) (Tells.mk (DW.tupl (DWl.cons (DW.aggl (DWl.cons (DW.bool rfl) (DWl.cons (DW.int rfl) (DWl.cons (DW.bool rfl) (DWl.cons (DW.int rfl) (DWl.cons (DW.bool rfl) (DWl.cons (DW.int rfl) DWl.nil))))))) (DWl.cons (DW.int rfl) DWl.nil))))
end Go.Proofs.YtphgcgggbbcjgaaDoor
