/- A sample taken: the program's. -/
import Derived.Test.YtphgcgggbbcjgaaDoorC
namespace Go.Proofs.YtphgcgggbbcjgaaDoor
open Go.RowKit Go.Dl
attribute [local irreducible] Tri SCall DFun QSem PCall GCall MCall Round Weak dloadE OW DWl Tells Retold ESem
theorem not_t {b : Bool} {Q : Prop} (h : b = true) (h' : b = false) : Q := by rw [h'] at h; cases h
theorem not_f {b : Bool} {Q : Prop} (h : b = false) (h' : b = true) : Q := by rw [h'] at h; cases h
theorem nb {b : Bool} (h : (!b) = true) : b = false := by cases b <;> simp at h ⊢
theorem pb {b : Bool} (h : (!b) = false) : b = true := by cases b <;> simp at h ⊢
theorem wrapI {x : Int} (h : -9223372036854775808 ≤ x) (h2 : x < 9223372036854775808) : IntKind.i64.wrap x = x := by
  simp [IntKind.wrap, IntKind.bits, IntKind.signed]; omega
def RunOk (a : Al) (s : Wt) : Prop := 0 ≤ s.run ∧ s.run < a.hold ∧ a.hold ≤ 1000
theorem take_q {a : Al} {s : Wt} {m : Sm} (hr : RunOk a s) (hm : (!m.has) = false) (hs : speaksB a s m.value = false) : takeT a s m = (⟨s.on, 0, true, m.value, s.acked, s.since⟩, 0) := by
  unfold RunOk at hr
  rw [take_no hm hs, turn_no (by simp; omega)]
theorem take_w {a : Al} {s : Wt} {m : Sm} (hr : RunOk a s) (hm : (!m.has) = false) (hs : speaksB a s m.value = true) (h : decide (IntKind.i64.wrap (s.run + 1) < a.hold) = true) : takeT a s m = (⟨s.on, IntKind.i64.wrap (s.run + 1), true, m.value, s.acked, s.since⟩, 0) := by
  have h := of_decide_eq_true h
  rw [take_yes hm hs, turn_no (by simp; omega)]
theorem run_full {a : Al} {s : Wt} (hr : RunOk a s) (h : decide (IntKind.i64.wrap (s.run + 1) < a.hold) = false) : (IntKind.i64.wrap (s.run + 1) == a.hold) = true := by
  unfold RunOk at hr
  have h := of_decide_eq_false h
  rw [wrapI (by omega) (by omega)] at *
  simp; omega
theorem take_x {a : Al} {s : Wt} {m : Sm} (hr : RunOk a s) (hm : (!m.has) = false) (hs : speaksB a s m.value = true) (h : decide (IntKind.i64.wrap (s.run + 1) < a.hold) = false) (ho : s.on = false) : takeT a s m = (⟨true, 0, true, m.value, false, m.tick⟩, 1) := by
  rw [take_yes hm hs, turn_on (run_full hr h) (by rw [ho]; rfl)]
theorem take_y {a : Al} {s : Wt} {m : Sm} (hr : RunOk a s) (hm : (!m.has) = false) (hs : speaksB a s m.value = true) (h : decide (IntKind.i64.wrap (s.run + 1) < a.hold) = false) (ho : s.on = true) : takeT a s m = (⟨false, 0, true, m.value, false, 0⟩, 2) := by
  rw [take_yes hm hs, turn_off (run_full hr h) (by rw [ho]; rfl)]
theorem spk1 (l u o : Int) (s : Wt) (v : Int) : speaksB ⟨1, l, u, o⟩ s v = sp1 ⟨1, l, u, o⟩ s v := by unfold speaksB; simp
theorem spk2 (l u o : Int) (s : Wt) (v : Int) : speaksB ⟨2, l, u, o⟩ s v = sp2 ⟨2, l, u, o⟩ s v := by unfold speaksB; simp
theorem spk3 (l u o : Int) (s : Wt) (v : Int) : speaksB ⟨3, l, u, o⟩ s v = sp3 ⟨3, l, u, o⟩ s v := by unfold speaksB; simp
theorem spk4 (l u o : Int) (s : Wt) (v : Int) : speaksB ⟨4, l, u, o⟩ s v = sp4 ⟨4, l, u, o⟩ s v := by unfold speaksB; simp
set_option maxRecDepth 20000 in
set_option maxHeartbeats 1000000 in
theorem take13_1f (l u o r la si : Int) (ha ac : Bool) (m : Sm) (hr : RunOk ⟨1, l, u, o⟩ ⟨false, r, ha, la, ac, si⟩) : DPure Tryd.prog 13 [.agg [int1 1, int1 l, int1 u, int1 o], .agg [bl false, int1 r, bl ha, int1 la, bl ac, int1 si], .agg (smD m)] (.tup [.agg (wtD (takeT ⟨1, l, u, o⟩ ⟨false, r, ha, la, ac, si⟩ m).1), int1 (takeT ⟨1, l, u, o⟩ ⟨false, r, ha, la, ac, si⟩ m).2]) := by
  refine DFun.data (DFun.body Tryd.func13 rfl (by kernel_rfl) ?_)
  repeat' (first | with_reducible rfl | ((conv => whnf); first | refine And.intro ?_ ?_ | (intro h; first | exact Bool.noConfusion h | with_reducible exact h | (refine not_t h ?_; rfl) | (refine not_f h ?_; rfl) | (have ht : true = true := h; clear ht h) | skip) | ((with_reducible refine DWl.mark ?_); repeat' (first | refine DWl.cons ?_ ?_ | exact DWl.nil | exact DW.same _ rfl | exact DW.ref _ _ _ rfl | exact DW.arr _ _ _ rfl | exact DW.sub _ _ _ _ rfl | exact DW.nilLst _ | refine DW.aggl ?_ | refine DW.tupl ?_ | refine DW.clol ?_ ?_ | refine DW.int ?_ | refine DW.bool ?_ | refine DW.str ?_)) | ((with_reducible refine SCall.mark ?_); first | refine SCall.run Tryd.func31 rfl (Nat.le_of_ble_eq_true rfl) (by kernel_rfl) ?_) | ((with_reducible refine GCall.mark ?_); first | refine GCall.none rfl ?_ | (refine GCall.none ?gz ?_; case gz => (simp; done)) | refine GCall.split (fun _ => SCall.run Tryd.func49 rfl (Nat.le_of_ble_eq_true rfl) (by kernel_rfl) ?_) (fun h => Bool.noConfusion (show true = false from h)) | refine GCall.split (fun _ => SCall.run Tryd.func50 rfl (Nat.le_of_ble_eq_true rfl) (by kernel_rfl) ?_) (fun h => Bool.noConfusion (show true = false from h))) | ((with_reducible refine Tri.mark ?_); first | refine Tri.rounds 5 (by kernel_rfl) ?_ | (refine Tri.movesN [1] [(true, 0), (true, 1), (true, 2), (false, 3), (true, 4), (false, 5)] ?_ (by kernel_rfl) ?_; rfl)) | refine dcell_ok rfl ?_ | refine AppC.new ?_))
  all_goals first | (with_reducible refine enters_mark ?_; kernel_rfl) | (with_reducible refine boolT_mark ?_; kernel_rfl) | rfl | trivial | assumption | exact Nat.le_of_ble_eq_true rfl | (show entersB _ _ = true; kernel_rfl) | exact DW.same _ rfl | exact DW.ref _ _ _ rfl | exact DW.arr _ _ _ rfl | refine DW.int ?_ | refine dvb ?_ | refine dvi ?_ | exact OW.cells rfl rfl (DWl.same rfl) | exact Nat.zero_le _ | omega | skip
  all_goals repeat' (first | refine OW.cells rfl rfl ?_ | exact DW.nilArr _ rfl | refine DWl.cons ?_ ?_ | exact DWl.nil | exact DW.same _ rfl | exact DW.ref _ _ _ rfl | exact DW.arr _ _ _ rfl | exact DW.sub _ _ _ _ rfl | exact DW.nilLst _ | refine DW.aggl ?_ | refine DW.tupl ?_ | refine DW.clol ?_ ?_)
  all_goals try ((conv => whnf); with_reducible first | refine Round.mark ?_ | refine Tells.mark ?_ | refine Retold.mark ?_)
  all_goals try first | (show (_ : Bool) = _; simp_all; done) | (show (_ : Int) < _; simp at *; omega) | (show (_ : Int) ≤ _; simp at *; omega) | (show (_ : Nat) < _; simp at *; omega) | (show (_ : Nat) ≤ _; simp at *; omega)
  · exact Tells.of (r1 := .tup [.agg (wtD ⟨false, 0, ha, la, ac, si⟩), int1 0]) (by rw [take_none h]) (Tells.mk (DW.tupl (DWl.cons (DW.aggl (DWl.cons (DW.bool rfl) (DWl.cons (DW.int rfl) (DWl.cons (DW.bool rfl) (DWl.cons (DW.int rfl) (DWl.cons (DW.bool rfl) (DWl.cons (DW.int rfl) DWl.nil))))))) (DWl.cons (DW.int rfl) DWl.nil))))
  · have hm := ‹(!m.has) = false›
    have hs : speaksB ⟨1, l, u, o⟩ ⟨false, r, ha, la, ac, si⟩ m.value = false := (spk1 _ _ _ _ _).trans (nb h)
    exact Tells.of (r1 := .tup [.agg (wtD ⟨false, 0, true, m.value, ac, si⟩), int1 0]) (by rw [take_q hr hm hs]) (Tells.mk (DW.tupl (DWl.cons (DW.aggl (DWl.cons (DW.bool rfl) (DWl.cons (DW.int rfl) (DWl.cons (DW.bool rfl) (DWl.cons (DW.int rfl) (DWl.cons (DW.bool rfl) (DWl.cons (DW.int rfl) DWl.nil))))))) (DWl.cons (DW.int rfl) DWl.nil))))
  · rename_i hx
    have hm := ‹(!m.has) = false›
    have hs : speaksB ⟨1, l, u, o⟩ ⟨false, r, ha, la, ac, si⟩ m.value = true := (spk1 _ _ _ _ _).trans (pb hx)
    exact Tells.of (r1 := .tup [.agg (wtD ⟨false, IntKind.i64.wrap (r + 1), true, m.value, ac, si⟩), int1 0]) (by rw [take_w hr hm hs h]) (Tells.mk (DW.tupl (DWl.cons (DW.aggl (DWl.cons (DW.bool rfl) (DWl.cons (DW.int rfl) (DWl.cons (DW.bool rfl) (DWl.cons (DW.int rfl) (DWl.cons (DW.bool rfl) (DWl.cons (DW.int rfl) DWl.nil))))))) (DWl.cons (DW.int rfl) DWl.nil))))
  · rename_i hx
    have hm := ‹(!m.has) = false›
    have hs : speaksB ⟨1, l, u, o⟩ ⟨false, r, ha, la, ac, si⟩ m.value = true := (spk1 _ _ _ _ _).trans (pb hx)
    exact Tells.of (r1 := .tup [.agg (wtD ⟨true, 0, true, m.value, false, m.tick⟩), int1 1]) (by rw [take_x hr hm hs h rfl]) (Tells.mk (DW.tupl (DWl.cons (DW.aggl (DWl.cons (DW.bool rfl) (DWl.cons (DW.int rfl) (DWl.cons (DW.bool rfl) (DWl.cons (DW.int rfl) (DWl.cons (DW.bool rfl) (DWl.cons (DW.int rfl) DWl.nil))))))) (DWl.cons (DW.int rfl) DWl.nil))))
set_option maxRecDepth 20000 in
set_option maxHeartbeats 1000000 in
theorem take13_1t (l u o r la si : Int) (ha ac : Bool) (m : Sm) (hr : RunOk ⟨1, l, u, o⟩ ⟨true, r, ha, la, ac, si⟩) : DPure Tryd.prog 13 [.agg [int1 1, int1 l, int1 u, int1 o], .agg [bl true, int1 r, bl ha, int1 la, bl ac, int1 si], .agg (smD m)] (.tup [.agg (wtD (takeT ⟨1, l, u, o⟩ ⟨true, r, ha, la, ac, si⟩ m).1), int1 (takeT ⟨1, l, u, o⟩ ⟨true, r, ha, la, ac, si⟩ m).2]) := by
  refine DFun.data (DFun.body Tryd.func13 rfl (by kernel_rfl) ?_)
  repeat' (first | with_reducible rfl | ((conv => whnf); first | refine And.intro ?_ ?_ | (intro h; first | exact Bool.noConfusion h | with_reducible exact h | (refine not_t h ?_; rfl) | (refine not_f h ?_; rfl) | (have ht : true = true := h; clear ht h) | skip) | ((with_reducible refine DWl.mark ?_); repeat' (first | refine DWl.cons ?_ ?_ | exact DWl.nil | exact DW.same _ rfl | exact DW.ref _ _ _ rfl | exact DW.arr _ _ _ rfl | exact DW.sub _ _ _ _ rfl | exact DW.nilLst _ | refine DW.aggl ?_ | refine DW.tupl ?_ | refine DW.clol ?_ ?_ | refine DW.int ?_ | refine DW.bool ?_ | refine DW.str ?_)) | ((with_reducible refine SCall.mark ?_); first | refine SCall.run Tryd.func31 rfl (Nat.le_of_ble_eq_true rfl) (by kernel_rfl) ?_) | ((with_reducible refine GCall.mark ?_); first | refine GCall.none rfl ?_ | (refine GCall.none ?gz ?_; case gz => (simp; done)) | refine GCall.split (fun _ => SCall.run Tryd.func49 rfl (Nat.le_of_ble_eq_true rfl) (by kernel_rfl) ?_) (fun h => Bool.noConfusion (show true = false from h)) | refine GCall.split (fun _ => SCall.run Tryd.func50 rfl (Nat.le_of_ble_eq_true rfl) (by kernel_rfl) ?_) (fun h => Bool.noConfusion (show true = false from h))) | ((with_reducible refine Tri.mark ?_); first | refine Tri.rounds 5 (by kernel_rfl) ?_ | (refine Tri.movesN [1] [(true, 0), (true, 1), (true, 2), (false, 3), (true, 4), (false, 5)] ?_ (by kernel_rfl) ?_; rfl)) | refine dcell_ok rfl ?_ | refine AppC.new ?_))
  all_goals first | (with_reducible refine enters_mark ?_; kernel_rfl) | (with_reducible refine boolT_mark ?_; kernel_rfl) | rfl | trivial | assumption | exact Nat.le_of_ble_eq_true rfl | (show entersB _ _ = true; kernel_rfl) | exact DW.same _ rfl | exact DW.ref _ _ _ rfl | exact DW.arr _ _ _ rfl | refine DW.int ?_ | refine dvb ?_ | refine dvi ?_ | exact OW.cells rfl rfl (DWl.same rfl) | exact Nat.zero_le _ | omega | skip
  all_goals repeat' (first | refine OW.cells rfl rfl ?_ | exact DW.nilArr _ rfl | refine DWl.cons ?_ ?_ | exact DWl.nil | exact DW.same _ rfl | exact DW.ref _ _ _ rfl | exact DW.arr _ _ _ rfl | exact DW.sub _ _ _ _ rfl | exact DW.nilLst _ | refine DW.aggl ?_ | refine DW.tupl ?_ | refine DW.clol ?_ ?_)
  all_goals try ((conv => whnf); with_reducible first | refine Round.mark ?_ | refine Tells.mark ?_ | refine Retold.mark ?_)
  all_goals try first | (show (_ : Bool) = _; simp_all; done) | (show (_ : Int) < _; simp at *; omega) | (show (_ : Int) ≤ _; simp at *; omega) | (show (_ : Nat) < _; simp at *; omega) | (show (_ : Nat) ≤ _; simp at *; omega)
  · exact Tells.of (r1 := .tup [.agg (wtD ⟨true, 0, ha, la, ac, si⟩), int1 0]) (by rw [take_none h]) (Tells.mk (DW.tupl (DWl.cons (DW.aggl (DWl.cons (DW.bool rfl) (DWl.cons (DW.int rfl) (DWl.cons (DW.bool rfl) (DWl.cons (DW.int rfl) (DWl.cons (DW.bool rfl) (DWl.cons (DW.int rfl) DWl.nil))))))) (DWl.cons (DW.int rfl) DWl.nil))))
  · have hm := ‹(!m.has) = false›
    have hs : speaksB ⟨1, l, u, o⟩ ⟨true, r, ha, la, ac, si⟩ m.value = false := (spk1 _ _ _ _ _).trans (nb h)
    exact Tells.of (r1 := .tup [.agg (wtD ⟨true, 0, true, m.value, ac, si⟩), int1 0]) (by rw [take_q hr hm hs]) (Tells.mk (DW.tupl (DWl.cons (DW.aggl (DWl.cons (DW.bool rfl) (DWl.cons (DW.int rfl) (DWl.cons (DW.bool rfl) (DWl.cons (DW.int rfl) (DWl.cons (DW.bool rfl) (DWl.cons (DW.int rfl) DWl.nil))))))) (DWl.cons (DW.int rfl) DWl.nil))))
  · rename_i hx
    have hm := ‹(!m.has) = false›
    have hs : speaksB ⟨1, l, u, o⟩ ⟨true, r, ha, la, ac, si⟩ m.value = true := (spk1 _ _ _ _ _).trans (pb hx)
    exact Tells.of (r1 := .tup [.agg (wtD ⟨true, IntKind.i64.wrap (r + 1), true, m.value, ac, si⟩), int1 0]) (by rw [take_w hr hm hs h]) (Tells.mk (DW.tupl (DWl.cons (DW.aggl (DWl.cons (DW.bool rfl) (DWl.cons (DW.int rfl) (DWl.cons (DW.bool rfl) (DWl.cons (DW.int rfl) (DWl.cons (DW.bool rfl) (DWl.cons (DW.int rfl) DWl.nil))))))) (DWl.cons (DW.int rfl) DWl.nil))))
  · rename_i hx hw
    have hm := ‹(!m.has) = false›
    have hs : speaksB ⟨1, l, u, o⟩ ⟨true, r, ha, la, ac, si⟩ m.value = true := (spk1 _ _ _ _ _).trans (pb hx)
    exact Tells.of (r1 := .tup [.agg (wtD ⟨false, 0, true, m.value, false, 0⟩), int1 2]) (by rw [take_y hr hm hs hw rfl]) (Tells.mk (DW.tupl (DWl.cons (DW.aggl (DWl.cons (DW.bool rfl) (DWl.cons (DW.int rfl) (DWl.cons (DW.bool rfl) (DWl.cons (DW.int rfl) (DWl.cons (DW.bool rfl) (DWl.cons (DW.int rfl) DWl.nil))))))) (DWl.cons (DW.int rfl) DWl.nil))))
set_option maxRecDepth 20000 in
set_option maxHeartbeats 1000000 in
theorem take13_2f (l u o r la si : Int) (ha ac : Bool) (m : Sm) (hr : RunOk ⟨2, l, u, o⟩ ⟨false, r, ha, la, ac, si⟩) : DPure Tryd.prog 13 [.agg [int1 2, int1 l, int1 u, int1 o], .agg [bl false, int1 r, bl ha, int1 la, bl ac, int1 si], .agg (smD m)] (.tup [.agg (wtD (takeT ⟨2, l, u, o⟩ ⟨false, r, ha, la, ac, si⟩ m).1), int1 (takeT ⟨2, l, u, o⟩ ⟨false, r, ha, la, ac, si⟩ m).2]) := by
  refine DFun.data (DFun.body Tryd.func13 rfl (by kernel_rfl) ?_)
  repeat' (first | with_reducible rfl | ((conv => whnf); first | refine And.intro ?_ ?_ | (intro h; first | exact Bool.noConfusion h | with_reducible exact h | (refine not_t h ?_; rfl) | (refine not_f h ?_; rfl) | (have ht : true = true := h; clear ht h) | skip) | ((with_reducible refine DWl.mark ?_); repeat' (first | refine DWl.cons ?_ ?_ | exact DWl.nil | exact DW.same _ rfl | exact DW.ref _ _ _ rfl | exact DW.arr _ _ _ rfl | exact DW.sub _ _ _ _ rfl | exact DW.nilLst _ | refine DW.aggl ?_ | refine DW.tupl ?_ | refine DW.clol ?_ ?_ | refine DW.int ?_ | refine DW.bool ?_ | refine DW.str ?_)) | ((with_reducible refine SCall.mark ?_); first | refine SCall.run Tryd.func31 rfl (Nat.le_of_ble_eq_true rfl) (by kernel_rfl) ?_) | ((with_reducible refine GCall.mark ?_); first | refine GCall.none rfl ?_ | (refine GCall.none ?gz ?_; case gz => (simp; done)) | refine GCall.split (fun _ => SCall.run Tryd.func51 rfl (Nat.le_of_ble_eq_true rfl) (by kernel_rfl) ?_) (fun h => Bool.noConfusion (show true = false from h)) | refine GCall.split (fun _ => SCall.run Tryd.func52 rfl (Nat.le_of_ble_eq_true rfl) (by kernel_rfl) ?_) (fun h => Bool.noConfusion (show true = false from h))) | ((with_reducible refine Tri.mark ?_); first | refine Tri.rounds 5 (by kernel_rfl) ?_ | (refine Tri.movesN [1] [(true, 0), (true, 1), (true, 2), (false, 3), (true, 4), (false, 5)] ?_ (by kernel_rfl) ?_; rfl)) | refine dcell_ok rfl ?_ | refine AppC.new ?_))
  all_goals first | (with_reducible refine enters_mark ?_; kernel_rfl) | (with_reducible refine boolT_mark ?_; kernel_rfl) | rfl | trivial | assumption | exact Nat.le_of_ble_eq_true rfl | (show entersB _ _ = true; kernel_rfl) | exact DW.same _ rfl | exact DW.ref _ _ _ rfl | exact DW.arr _ _ _ rfl | refine DW.int ?_ | refine dvb ?_ | refine dvi ?_ | exact OW.cells rfl rfl (DWl.same rfl) | exact Nat.zero_le _ | omega | skip
  all_goals repeat' (first | refine OW.cells rfl rfl ?_ | exact DW.nilArr _ rfl | refine DWl.cons ?_ ?_ | exact DWl.nil | exact DW.same _ rfl | exact DW.ref _ _ _ rfl | exact DW.arr _ _ _ rfl | exact DW.sub _ _ _ _ rfl | exact DW.nilLst _ | refine DW.aggl ?_ | refine DW.tupl ?_ | refine DW.clol ?_ ?_)
  all_goals try ((conv => whnf); with_reducible first | refine Round.mark ?_ | refine Tells.mark ?_ | refine Retold.mark ?_)
  all_goals try first | (show (_ : Bool) = _; simp_all; done) | (show (_ : Int) < _; simp at *; omega) | (show (_ : Int) ≤ _; simp at *; omega) | (show (_ : Nat) < _; simp at *; omega) | (show (_ : Nat) ≤ _; simp at *; omega)
  · exact Tells.of (r1 := .tup [.agg (wtD ⟨false, 0, ha, la, ac, si⟩), int1 0]) (by rw [take_none h]) (Tells.mk (DW.tupl (DWl.cons (DW.aggl (DWl.cons (DW.bool rfl) (DWl.cons (DW.int rfl) (DWl.cons (DW.bool rfl) (DWl.cons (DW.int rfl) (DWl.cons (DW.bool rfl) (DWl.cons (DW.int rfl) DWl.nil))))))) (DWl.cons (DW.int rfl) DWl.nil))))
  · have hm := ‹(!m.has) = false›
    have hs : speaksB ⟨2, l, u, o⟩ ⟨false, r, ha, la, ac, si⟩ m.value = false := (spk2 _ _ _ _ _).trans (nb h)
    exact Tells.of (r1 := .tup [.agg (wtD ⟨false, 0, true, m.value, ac, si⟩), int1 0]) (by rw [take_q hr hm hs]) (Tells.mk (DW.tupl (DWl.cons (DW.aggl (DWl.cons (DW.bool rfl) (DWl.cons (DW.int rfl) (DWl.cons (DW.bool rfl) (DWl.cons (DW.int rfl) (DWl.cons (DW.bool rfl) (DWl.cons (DW.int rfl) DWl.nil))))))) (DWl.cons (DW.int rfl) DWl.nil))))
  · rename_i hx
    have hm := ‹(!m.has) = false›
    have hs : speaksB ⟨2, l, u, o⟩ ⟨false, r, ha, la, ac, si⟩ m.value = true := (spk2 _ _ _ _ _).trans (pb hx)
    exact Tells.of (r1 := .tup [.agg (wtD ⟨false, IntKind.i64.wrap (r + 1), true, m.value, ac, si⟩), int1 0]) (by rw [take_w hr hm hs h]) (Tells.mk (DW.tupl (DWl.cons (DW.aggl (DWl.cons (DW.bool rfl) (DWl.cons (DW.int rfl) (DWl.cons (DW.bool rfl) (DWl.cons (DW.int rfl) (DWl.cons (DW.bool rfl) (DWl.cons (DW.int rfl) DWl.nil))))))) (DWl.cons (DW.int rfl) DWl.nil))))
  · rename_i hx
    have hm := ‹(!m.has) = false›
    have hs : speaksB ⟨2, l, u, o⟩ ⟨false, r, ha, la, ac, si⟩ m.value = true := (spk2 _ _ _ _ _).trans (pb hx)
    exact Tells.of (r1 := .tup [.agg (wtD ⟨true, 0, true, m.value, false, m.tick⟩), int1 1]) (by rw [take_x hr hm hs h rfl]) (Tells.mk (DW.tupl (DWl.cons (DW.aggl (DWl.cons (DW.bool rfl) (DWl.cons (DW.int rfl) (DWl.cons (DW.bool rfl) (DWl.cons (DW.int rfl) (DWl.cons (DW.bool rfl) (DWl.cons (DW.int rfl) DWl.nil))))))) (DWl.cons (DW.int rfl) DWl.nil))))
set_option maxRecDepth 20000 in
set_option maxHeartbeats 1000000 in
theorem take13_2t (l u o r la si : Int) (ha ac : Bool) (m : Sm) (hr : RunOk ⟨2, l, u, o⟩ ⟨true, r, ha, la, ac, si⟩) : DPure Tryd.prog 13 [.agg [int1 2, int1 l, int1 u, int1 o], .agg [bl true, int1 r, bl ha, int1 la, bl ac, int1 si], .agg (smD m)] (.tup [.agg (wtD (takeT ⟨2, l, u, o⟩ ⟨true, r, ha, la, ac, si⟩ m).1), int1 (takeT ⟨2, l, u, o⟩ ⟨true, r, ha, la, ac, si⟩ m).2]) := by
  refine DFun.data (DFun.body Tryd.func13 rfl (by kernel_rfl) ?_)
  repeat' (first | with_reducible rfl | ((conv => whnf); first | refine And.intro ?_ ?_ | (intro h; first | exact Bool.noConfusion h | with_reducible exact h | (refine not_t h ?_; rfl) | (refine not_f h ?_; rfl) | (have ht : true = true := h; clear ht h) | skip) | ((with_reducible refine DWl.mark ?_); repeat' (first | refine DWl.cons ?_ ?_ | exact DWl.nil | exact DW.same _ rfl | exact DW.ref _ _ _ rfl | exact DW.arr _ _ _ rfl | exact DW.sub _ _ _ _ rfl | exact DW.nilLst _ | refine DW.aggl ?_ | refine DW.tupl ?_ | refine DW.clol ?_ ?_ | refine DW.int ?_ | refine DW.bool ?_ | refine DW.str ?_)) | ((with_reducible refine SCall.mark ?_); first | refine SCall.run Tryd.func31 rfl (Nat.le_of_ble_eq_true rfl) (by kernel_rfl) ?_) | ((with_reducible refine GCall.mark ?_); first | refine GCall.none rfl ?_ | (refine GCall.none ?gz ?_; case gz => (simp; done)) | refine GCall.split (fun _ => SCall.run Tryd.func51 rfl (Nat.le_of_ble_eq_true rfl) (by kernel_rfl) ?_) (fun h => Bool.noConfusion (show true = false from h)) | refine GCall.split (fun _ => SCall.run Tryd.func52 rfl (Nat.le_of_ble_eq_true rfl) (by kernel_rfl) ?_) (fun h => Bool.noConfusion (show true = false from h))) | ((with_reducible refine Tri.mark ?_); first | refine Tri.rounds 5 (by kernel_rfl) ?_ | (refine Tri.movesN [1] [(true, 0), (true, 1), (true, 2), (false, 3), (true, 4), (false, 5)] ?_ (by kernel_rfl) ?_; rfl)) | refine dcell_ok rfl ?_ | refine AppC.new ?_))
  all_goals first | (with_reducible refine enters_mark ?_; kernel_rfl) | (with_reducible refine boolT_mark ?_; kernel_rfl) | rfl | trivial | assumption | exact Nat.le_of_ble_eq_true rfl | (show entersB _ _ = true; kernel_rfl) | exact DW.same _ rfl | exact DW.ref _ _ _ rfl | exact DW.arr _ _ _ rfl | refine DW.int ?_ | refine dvb ?_ | refine dvi ?_ | exact OW.cells rfl rfl (DWl.same rfl) | exact Nat.zero_le _ | omega | skip
  all_goals repeat' (first | refine OW.cells rfl rfl ?_ | exact DW.nilArr _ rfl | refine DWl.cons ?_ ?_ | exact DWl.nil | exact DW.same _ rfl | exact DW.ref _ _ _ rfl | exact DW.arr _ _ _ rfl | exact DW.sub _ _ _ _ rfl | exact DW.nilLst _ | refine DW.aggl ?_ | refine DW.tupl ?_ | refine DW.clol ?_ ?_)
  all_goals try ((conv => whnf); with_reducible first | refine Round.mark ?_ | refine Tells.mark ?_ | refine Retold.mark ?_)
  all_goals try first | (show (_ : Bool) = _; simp_all; done) | (show (_ : Int) < _; simp at *; omega) | (show (_ : Int) ≤ _; simp at *; omega) | (show (_ : Nat) < _; simp at *; omega) | (show (_ : Nat) ≤ _; simp at *; omega)
  · exact Tells.of (r1 := .tup [.agg (wtD ⟨true, 0, ha, la, ac, si⟩), int1 0]) (by rw [take_none h]) (Tells.mk (DW.tupl (DWl.cons (DW.aggl (DWl.cons (DW.bool rfl) (DWl.cons (DW.int rfl) (DWl.cons (DW.bool rfl) (DWl.cons (DW.int rfl) (DWl.cons (DW.bool rfl) (DWl.cons (DW.int rfl) DWl.nil))))))) (DWl.cons (DW.int rfl) DWl.nil))))
  · have hm := ‹(!m.has) = false›
    have hs : speaksB ⟨2, l, u, o⟩ ⟨true, r, ha, la, ac, si⟩ m.value = false := (spk2 _ _ _ _ _).trans (nb h)
    exact Tells.of (r1 := .tup [.agg (wtD ⟨true, 0, true, m.value, ac, si⟩), int1 0]) (by rw [take_q hr hm hs]) (Tells.mk (DW.tupl (DWl.cons (DW.aggl (DWl.cons (DW.bool rfl) (DWl.cons (DW.int rfl) (DWl.cons (DW.bool rfl) (DWl.cons (DW.int rfl) (DWl.cons (DW.bool rfl) (DWl.cons (DW.int rfl) DWl.nil))))))) (DWl.cons (DW.int rfl) DWl.nil))))
  · rename_i hx
    have hm := ‹(!m.has) = false›
    have hs : speaksB ⟨2, l, u, o⟩ ⟨true, r, ha, la, ac, si⟩ m.value = true := (spk2 _ _ _ _ _).trans (pb hx)
    exact Tells.of (r1 := .tup [.agg (wtD ⟨true, IntKind.i64.wrap (r + 1), true, m.value, ac, si⟩), int1 0]) (by rw [take_w hr hm hs h]) (Tells.mk (DW.tupl (DWl.cons (DW.aggl (DWl.cons (DW.bool rfl) (DWl.cons (DW.int rfl) (DWl.cons (DW.bool rfl) (DWl.cons (DW.int rfl) (DWl.cons (DW.bool rfl) (DWl.cons (DW.int rfl) DWl.nil))))))) (DWl.cons (DW.int rfl) DWl.nil))))
  · rename_i hx hw
    have hm := ‹(!m.has) = false›
    have hs : speaksB ⟨2, l, u, o⟩ ⟨true, r, ha, la, ac, si⟩ m.value = true := (spk2 _ _ _ _ _).trans (pb hx)
    exact Tells.of (r1 := .tup [.agg (wtD ⟨false, 0, true, m.value, false, 0⟩), int1 2]) (by rw [take_y hr hm hs hw rfl]) (Tells.mk (DW.tupl (DWl.cons (DW.aggl (DWl.cons (DW.bool rfl) (DWl.cons (DW.int rfl) (DWl.cons (DW.bool rfl) (DWl.cons (DW.int rfl) (DWl.cons (DW.bool rfl) (DWl.cons (DW.int rfl) DWl.nil))))))) (DWl.cons (DW.int rfl) DWl.nil))))
end Go.Proofs.YtphgcgggbbcjgaaDoor
