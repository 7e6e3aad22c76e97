/- Whose turn it is. -/
import Derived.Test.YtopdllcpeaflaaaT
namespace Go.Proofs.Ytopdllcpeaflaaa
open Go.RowKit Go.Dl
attribute [local irreducible] Tri SCall DFun QSem PCall GCall MCall Round Weak dloadE OW DWl Tells IntKind.wrap Retold ESem

theorem next0_D (turn : Int) : DPure Try.prog 38 [ints [], int1 turn] (.tup [int1 0, int1 turn, .v (.bool false)]) := by
  refine DFun.data (DFun.body Try.func38 rfl (by kernel_rfl) ?_)
  repeat' (first | with_reducible rfl | ((conv => whnf); first | refine And.intro ?_ ?_ | (intro h; first | exact Bool.noConfusion h | with_reducible exact h | (have ht : true = true := h; clear ht h) | skip) | ((with_reducible refine DWl.mark ?_); repeat' (first | refine DWl.cons ?_ ?_ | exact DWl.nil | exact DW.same _ rfl | exact DW.ref _ _ _ rfl | exact DW.arr _ _ _ rfl | exact DW.sub _ _ _ _ rfl | exact DW.nilLst _ | refine DW.aggl ?_ | refine DW.tupl ?_ | refine DW.clol ?_ ?_ | refine DW.int ?_ | refine DW.bool ?_ | refine DW.str ?_)) | ((with_reducible refine SCall.mark ?_); first | refine SCall.run Try.func61 rfl (Nat.le_of_ble_eq_true rfl) (by kernel_rfl) ?_) | refine dcell_ok rfl ?_ | refine AppC.new ?_))
  · show entersB _ _ = true; kernel_rfl
  · conv => whnf
    refine Tri.range rfl (by kernel_rfl) rfl rfl (by rfl) (by kernel_rfl) fun lb => ?_
    repeat' (first | with_reducible rfl | ((conv => whnf); first | refine And.intro ?_ ?_ | (intro h; first | exact Bool.noConfusion h | with_reducible exact h | (have ht : true = true := h; clear ht h) | skip) | ((with_reducible refine DWl.mark ?_); repeat' (first | refine DWl.cons ?_ ?_ | exact DWl.nil | exact DW.same _ rfl | exact DW.ref _ _ _ rfl | exact DW.arr _ _ _ rfl | exact DW.sub _ _ _ _ rfl | exact DW.nilLst _ | refine DW.aggl ?_ | refine DW.tupl ?_ | refine DW.clol ?_ ?_ | refine DW.int ?_ | refine DW.bool ?_ | refine DW.str ?_)) | ((with_reducible refine Tri.mark ?_); first | refine Tri.scope (by kernel_rfl) ?_) | refine dcell_ok rfl ?_ | refine AppC.new ?_))
    all_goals first | (with_reducible refine enters_mark ?_; kernel_rfl) | (with_reducible refine boolT_mark ?_; kernel_rfl) | rfl | trivial | assumption | exact Nat.le_of_ble_eq_true rfl | (show entersB _ _ = true; kernel_rfl) | exact DW.same _ rfl | exact DW.ref _ _ _ rfl | exact DW.arr _ _ _ rfl | refine DW.int ?_ | refine dvb ?_ | refine dvi ?_ | exact OW.cells rfl rfl (DWl.same rfl) | exact Nat.zero_le _ | omega | skip
    all_goals repeat' (first | refine OW.cells rfl rfl ?_ | exact DW.nilArr _ rfl | refine DWl.cons ?_ ?_ | exact DWl.nil | exact DW.same _ rfl | exact DW.ref _ _ _ rfl | exact DW.arr _ _ _ rfl | exact DW.sub _ _ _ _ rfl | exact DW.nilLst _ | refine DW.aggl ?_ | refine DW.tupl ?_ | refine DW.clol ?_ ?_)
    all_goals try ((conv => whnf); with_reducible first | refine Round.mark ?_ | refine Tells.mark ?_ | refine Retold.mark ?_)
    all_goals try first | (show (_ : Bool) = _; simp_all; done) | (show (_ : Int) < _; simp at *; omega) | (show (_ : Int) ≤ _; simp at *; omega) | (show (_ : Nat) < _; simp at *; omega) | (show (_ : Nat) ≤ _; simp at *; omega)
    refine Tells.mk ?_
    repeat' (first | exact DW.same _ rfl |  exact DW.nilLst _ | refine DW.tupl ?_ | refine DW.aggl ?_ | refine DWl.cons ?_ ?_ | exact DWl.nil | refine DW.int ?_ | refine DW.bool ?_ | refine DW.str ?_ | refine DW.lstE ?_)
theorem next_D (l : List Int) (t : Nat) (ht : t < l.length) (hl : l.length ≤ 1000000) : DPure Try.prog 38 [ints l, int1 t] (.tup [int1 (l.getD t 0), int1 ((t + 1) % l.length : Nat), .v (.bool true)]) := by
  refine DFun.data (DFun.body Try.func38 rfl (by kernel_rfl) ?_)
  repeat' (first | with_reducible rfl | ((conv => whnf); first | refine And.intro ?_ ?_ | (intro h; first | exact Bool.noConfusion h | with_reducible exact h | (have ht : true = true := h; clear ht h) | skip) | ((with_reducible refine DWl.mark ?_); repeat' (first | refine DWl.cons ?_ ?_ | exact DWl.nil | exact DW.same _ rfl | exact DW.ref _ _ _ rfl | exact DW.arr _ _ _ rfl | exact DW.sub _ _ _ _ rfl | exact DW.nilLst _ | refine DW.aggl ?_ | refine DW.tupl ?_ | refine DW.clol ?_ ?_ | refine DW.int ?_ | refine DW.bool ?_ | refine DW.str ?_)) | ((with_reducible refine SCall.mark ?_); first | refine SCall.run Try.func61 rfl (Nat.le_of_ble_eq_true rfl) (by kernel_rfl) ?_) | refine dcell_ok rfl ?_ | refine AppC.new ?_))
  · show entersB _ _ = true; kernel_rfl
  · conv => whnf
    refine Tri.range rfl (by kernel_rfl) rfl rfl (by rfl) (by kernel_rfl) fun lb => ?_
    repeat' (first | with_reducible rfl | ((conv => whnf); first | refine And.intro ?_ ?_ | (intro h; first | exact Bool.noConfusion h | with_reducible exact h | (have ht : true = true := h; clear ht h) | skip) | ((with_reducible refine DWl.mark ?_); repeat' (first | refine DWl.cons ?_ ?_ | exact DWl.nil | exact DW.same _ rfl | exact DW.ref _ _ _ rfl | exact DW.arr _ _ _ rfl | exact DW.sub _ _ _ _ rfl | exact DW.nilLst _ | refine DW.aggl ?_ | refine DW.tupl ?_ | refine DW.clol ?_ ?_ | refine DW.int ?_ | refine DW.bool ?_ | refine DW.str ?_)) | ((with_reducible refine Tri.mark ?_); first | refine Tri.scope (by kernel_rfl) ?_) | refine dloadE_map (0) ?_ ?_ | refine dcell_ok rfl ?_ | refine AppC.new ?_))
    all_goals first | (with_reducible refine enters_mark ?_; kernel_rfl) | (with_reducible refine boolT_mark ?_; kernel_rfl) | rfl | trivial | assumption | exact Nat.le_of_ble_eq_true rfl | (show entersB _ _ = true; kernel_rfl) | exact DW.same _ rfl | exact DW.ref _ _ _ rfl | exact DW.arr _ _ _ rfl | refine DW.int ?_ | refine dvb ?_ | refine dvi ?_ | exact OW.cells rfl rfl (DWl.same rfl) | exact Nat.zero_le _ | omega | skip
    all_goals repeat' (first | refine OW.cells rfl rfl ?_ | exact DW.nilArr _ rfl | refine DWl.cons ?_ ?_ | exact DWl.nil | exact DW.same _ rfl | exact DW.ref _ _ _ rfl | exact DW.arr _ _ _ rfl | exact DW.sub _ _ _ _ rfl | exact DW.nilLst _ | refine DW.aggl ?_ | refine DW.tupl ?_ | refine DW.clol ?_ ?_)
    all_goals try ((conv => whnf); with_reducible first | refine Round.mark ?_ | refine Tells.mark ?_ | refine Retold.mark ?_)
    all_goals try first | (show (_ : Bool) = _; simp_all; done) | (show (_ : Int) < _; simp at *; omega) | (show (_ : Int) ≤ _; simp at *; omega) | (show (_ : Nat) < _; simp at *; omega) | (show (_ : Nat) ≤ _; simp at *; omega)
    · rw [List.length_map] at h
      have := eq_of_beq h
      omega
    · rw [List.length_map] at h
      omega
    · refine Tells.mk ?_
      repeat' (first | exact DW.same _ rfl |  exact DW.nilLst _ | refine DW.tupl ?_ | refine DW.aggl ?_ | refine DWl.cons ?_ ?_ | exact DWl.nil | refine DW.int ?_ | refine DW.bool ?_ | refine DW.str ?_ | refine DW.lstE ?_)
      rw [wrapI (by omega) (by omega), List.length_map, Int.tmod_eq_emod_of_nonneg (by omega)]
      rfl
def firsts (l : List Int) (t k : Nat) : List Int := (List.range k).map fun i => l.getD ((t + i) % l.length) 0
theorem firsts_succ (l : List Int) (t k : Nat) : firsts l t (k + 1) = firsts l t k ++ [l.getD ((t + k) % l.length) 0] := by
  simp [firsts, List.range_succ]
theorem firsts_len (l : List Int) (t k : Nat) : (firsts l t k).length = k := by simp [firsts]

theorem first1 (l : List Int) (t : Nat) (ht : t < l.length) : rowC (firsts l t 1) = [.v (.int .i64 (l.getD (t : Int).toNat 0))] := by
  have : (t + 0) % l.length = t := Nat.mod_eq_of_lt ht
  simp only [firsts, List.range_succ, List.range_zero, List.nil_append, List.map_cons, List.map_nil, this]
  rfl
theorem firsts_row (l : List Int) (t k : Nat) (ht : t < l.length) : (rowC (firsts l t k)).take (k * 1) ++ [.v (.int .i64 (l.getD (((t + k) % l.length : Nat) : Int).toNat 0))] = rowC (firsts l t (k + 1)) := by
  rw [firsts_succ, rowC_app, List.take_of_length_le (by rw [rowC_len, firsts_len]; omega)]
  rfl
theorem modE {l : List Int} {t : Nat} (ht : t < l.length) (hl : l.length ≤ 1000000) : (IntKind.i64.wrap ((t : Int) + 1)).tmod ((l.map intD).length : Nat) = ((t + 1) % l.length : Nat) := by
  rw [wrapI (by omega) (by omega), List.length_map, Int.tmod_eq_emod_of_nonneg (by omega)]
  rfl
theorem modE2 {l : List Int} {t k : Nat} (ht : t < l.length) (hl : l.length ≤ 1000000) : (IntKind.i64.wrap ((((t + k) % l.length : Nat) : Int) + 1)).tmod ((l.map intD).length : Nat) = ((t + (k + 1)) % l.length : Nat) := by
  have h := Nat.mod_lt (t + k) (show 0 < l.length by omega)
  rw [modE h hl, Nat.mod_add_mod, Nat.add_assoc]

def tsSt (lb : Nat) (l : List Int) (t : Nat) (n : Int) (k : Nat) : St :=
  ⟨⟨4, [.normal]⟩, tmOf [(0, .clo (.yield lb) [] []), (1, .ref 3 0), (2, .ref 2 0), (4, int1 ((t + k) % l.length : Nat))],
    .of [(0, ⟨3, 1, [int1 n]⟩), (1, ⟨25, 1, [.arr 4 k]⟩), (2, ⟨25, 1, [ints l]⟩), (3, ⟨3, 1, [int1 t]⟩), (4, ⟨3, 1, rowC (firsts l t k)⟩)] 5⟩
theorem turns42_D (l : List Int) (t : Nat) (ht : t < l.length) (hl : l.length ≤ 1000000) (n : Int) (hn : 0 < n) : DPure Try.prog 42 [ints l, int1 t, int1 n] (ints (firsts l t (min n.toNat 100000))) := by
  refine DFun.data (DFun.body Try.func42 rfl (by kernel_rfl) ?_)
  repeat' (first | with_reducible rfl | ((conv => whnf); first | refine And.intro ?_ ?_ | (intro h; first | exact Bool.noConfusion h | with_reducible exact h | (have ht : true = true := h; clear ht h) | skip) | ((with_reducible refine DWl.mark ?_); repeat' (first | refine DWl.cons ?_ ?_ | exact DWl.nil | exact DW.same _ rfl | exact DW.ref _ _ _ rfl | exact DW.arr _ _ _ rfl | exact DW.sub _ _ _ _ rfl | exact DW.nilLst _ | refine DW.aggl ?_ | refine DW.tupl ?_ | refine DW.clol ?_ ?_ | refine DW.int ?_ | refine DW.bool ?_ | refine DW.str ?_)) | ((with_reducible refine SCall.mark ?_); first | refine SCall.run Try.func61 rfl (Nat.le_of_ble_eq_true rfl) (by kernel_rfl) ?_) | refine dcell_ok rfl ?_ | refine AppC.new ?_))
  all_goals first | (show entersB _ _ = true; kernel_rfl) | skip
  · simp at h; omega
  · conv => whnf
    refine Tri.range rfl (by kernel_rfl) rfl rfl (by rfl) (by kernel_rfl) fun lb => ?_
    repeat' (first | with_reducible rfl | ((conv => whnf); first | refine And.intro ?_ ?_ | (intro h; first | exact Bool.noConfusion h | with_reducible exact h | (have ht : true = true := h; clear ht h) | skip) | ((with_reducible refine DWl.mark ?_); repeat' (first | refine DWl.cons ?_ ?_ | exact DWl.nil | exact DW.same _ rfl | exact DW.ref _ _ _ rfl | exact DW.arr _ _ _ rfl | exact DW.sub _ _ _ _ rfl | exact DW.nilLst _ | refine DW.aggl ?_ | refine DW.tupl ?_ | refine DW.clol ?_ ?_ | refine DW.int ?_ | refine DW.bool ?_ | refine DW.str ?_)) | ((with_reducible refine Tri.mark ?_); first | refine Tri.scopeJ 0 (tsSt lb l t n) (fun k => 0 < k ∧ (k : Int) < n ∧ k < 100000) (fun k => 100000 - k) (by rfl) (by kernel_rfl) (by kernel_rfl) ?_ ?_) | refine dloadE_map (0) ?_ ?_ | refine dcell_ok rfl ?_ | refine AppC.new ?_))
    all_goals first | (with_reducible refine enters_mark ?_; kernel_rfl) | (with_reducible refine boolT_mark ?_; kernel_rfl) | rfl | trivial | assumption | exact Nat.le_of_ble_eq_true rfl | (show entersB _ _ = true; kernel_rfl) | exact DW.same _ rfl | exact DW.ref _ _ _ rfl | exact DW.arr _ _ _ rfl | refine DW.int ?_ | refine dvb ?_ | refine dvi ?_ | exact OW.cells rfl rfl (DWl.same rfl) | exact Nat.zero_le _ | omega | skip
    all_goals repeat' (first | refine OW.cells rfl rfl ?_ | exact DW.nilArr _ rfl | refine DWl.cons ?_ ?_ | exact DWl.nil | exact DW.same _ rfl | exact DW.ref _ _ _ rfl | exact DW.arr _ _ _ rfl | exact DW.sub _ _ _ _ rfl | exact DW.nilLst _ | refine DW.aggl ?_ | refine DW.tupl ?_ | refine DW.clol ?_ ?_)
    all_goals try ((conv => whnf); with_reducible first | refine Round.mark ?_ | refine Tells.mark ?_ | refine Retold.mark ?_)
    all_goals try first | (show (_ : Bool) = _; simp_all; done) | (show (_ : Int) < _; simp at *; omega) | (show (_ : Int) ≤ _; simp at *; omega) | (show (_ : Nat) < _; simp at *; omega) | (show (_ : Nat) ≤ _; simp at *; omega)
    · rw [List.length_map] at h
      have := eq_of_beq h
      omega
    · rw [List.length_map] at h
      omega
    · rename_i e1 e2
      simp at e2
      have e3 : min n.toNat 100000 = 1 := by split at e2 <;> omega
      exact Tells.of (r1 := ints (firsts l t 1)) (by rw [e3]) (Tells.mk (DW.pubM rfl rfl rfl rfl (intsRow _) (first1 l t ht).symm))
    · rename_i e1
      simp at h
      refine ⟨1, ⟨by omega, by split at h <;> omega, by omega⟩, Weak.list [(4, some 5)] [] (by kernel_rfl) ?_ ?_⟩
      · repeat' (first | exact modE ht hl | exact OW.same rfl rfl (first1 l t ht).symm (rowC_all _) | exact DW.same _ rfl | exact DW.ref _ _ _ rfl | exact DW.arr _ _ _ rfl | exact OW.cells rfl rfl (DWl.same rfl) | refine OW.cells rfl rfl ?_ | refine DWl.cons ?_ ?_ | exact DWl.nil | exact DW.nilArr _ rfl | exact DW.nilLst _ | refine DW.clol ?_ ?_ | refine DW.aggl ?_ | refine DW.tupl ?_ | refine DW.int ?_ | refine DW.bool ?_ | refine DW.str ?_ | refine DW.arrE rfl ?_ | ((conv => whnf); first | refine And.intro ?_ ?_ | trivial))
      · repeat' (first | exact modE ht hl | exact OW.same rfl rfl (first1 l t ht).symm (rowC_all _) | exact DW.same _ rfl | exact DW.ref _ _ _ rfl | exact DW.arr _ _ _ rfl | exact OW.cells rfl rfl (DWl.same rfl) | refine OW.cells rfl rfl ?_ | refine DWl.cons ?_ ?_ | exact DWl.nil | exact DW.nilArr _ rfl | exact DW.nilLst _ | refine DW.clol ?_ ?_ | refine DW.aggl ?_ | refine DW.tupl ?_ | refine DW.int ?_ | refine DW.bool ?_ | refine DW.str ?_ | refine DW.arrE rfl ?_ | ((conv => whnf); first | refine And.intro ?_ ?_ | trivial))
    · rename_i k hk
      rw [List.length_map] at h
      have := eq_of_beq h
      omega
    · rename_i k hk
      rw [List.length_map]
      have := Nat.mod_lt (t + k) (show 0 < l.length by omega)
      omega
    · rename_i k hk
      have := Nat.mod_lt (t + k) (show 0 < l.length by omega)
      omega
    · rw [List.length_map] at h
      omega
    · rename_i k hk
      show k * 1 ≤ (rowC (firsts l t k)).length
      rw [rowC_len, firsts_len]; omega
    · simp only [maxLen]; omega
    · rename_i k hk e0 e2
      simp at e2
      have e3 : min n.toNat 100000 = k + 1 := by split at e2 <;> omega
      exact Tells.of (r1 := ints (firsts l t (k + 1))) (by rw [e3]) (Tells.mk (DW.pubM rfl (firsts_len l t _) rfl rfl (intsRow _) (firsts_row l t k ht)))
    · rename_i k hk e0
      simp at h
      refine Round.go (· + 1) ⟨by omega, by split at h <;> omega, by split at h <;> omega⟩ (by show _ - (k + 1) < _ - k; omega) (Weak.list [(4, some 6)] [] ?_ ?_ ?_)
      · kernel_rfl
      · repeat' (first | exact modE2 ht hl | exact OW.same rfl rfl (firsts_row l t k ht) (rowC_all _) | exact DW.same _ rfl | exact DW.ref _ _ _ rfl | exact DW.arr _ _ _ rfl | exact OW.cells rfl rfl (DWl.same rfl) | refine OW.cells rfl rfl ?_ | refine DWl.cons ?_ ?_ | exact DWl.nil | exact DW.nilArr _ rfl | exact DW.nilLst _ | refine DW.clol ?_ ?_ | refine DW.aggl ?_ | refine DW.tupl ?_ | refine DW.int ?_ | refine DW.bool ?_ | refine DW.str ?_ | refine DW.arrE rfl ?_ | ((conv => whnf); first | refine And.intro ?_ ?_ | trivial))
      · repeat' (first | exact modE2 ht hl | exact OW.same rfl rfl (firsts_row l t k ht) (rowC_all _) | exact DW.same _ rfl | exact DW.ref _ _ _ rfl | exact DW.arr _ _ _ rfl | exact OW.cells rfl rfl (DWl.same rfl) | refine OW.cells rfl rfl ?_ | refine DWl.cons ?_ ?_ | exact DWl.nil | exact DW.nilArr _ rfl | exact DW.nilLst _ | refine DW.clol ?_ ?_ | refine DW.aggl ?_ | refine DW.tupl ?_ | refine DW.int ?_ | refine DW.bool ?_ | refine DW.str ?_ | refine DW.arrE rfl ?_ | ((conv => whnf); first | refine And.intro ?_ ?_ | trivial))
end Go.Proofs.Ytopdllcpeaflaaa
