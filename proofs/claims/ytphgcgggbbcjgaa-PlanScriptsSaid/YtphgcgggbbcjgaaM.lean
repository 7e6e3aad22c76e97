/- The document's script. -/
import Derived.Test.YtphgcgggbbcjgaaK
namespace Go.Proofs.Ytphgcgggbbcjgaa
open Go.RowKit Go.Dl
attribute [local irreducible] Tri SCall DFun QSem PCall GCall MCall Round Weak dloadE OW DWl Tells IntKind.wrap Retold ESem
attribute [local irreducible] rowS headS rounds6 setsS midS aheadS

def a1St34 (l : List Lk) (k : Nat) : St := ⟨0, tmOf [(0, links l), (3, .arr 0 (2 * k)), (4, int1 k)], .of [(0, ⟨65, 6, rowS (headS (l.take k))⟩)] 1⟩
def a2St34 (l : List Lk) (k : Nat) : St := ⟨0, tmOf [(3, .arr 0 (2 * l.length + k)), (5, int1 k)], .of [(0, ⟨65, 6, rowS (headS l ++ rounds6 k)⟩)] 1⟩
def l3St17 (c : ScrI) (k : Nat) : St := ⟨0, tmOf [(0, int1 c.n), (2, .v (.string c.name)), (5, ints c.xs), (13, .arr 0 (2 * c.l.length + 8 + k)), (14, int1 k)], .of [(0, ⟨65, 6, rowS (midS c.l c.name c.kind c.scale ++ setsS c.name c.xs k)⟩)] 1⟩
theorem t17 {n k : Nat} {xs : List Int} {b : Bool} (h : (bif decide ((k : Int) < (n : Int)) then decide ((k : Int) < ((xs.map intD).length : Nat)) else false) = b) : b = true ↔ k < min n xs.length := by
  subst h
  rw [List.length_map]
  by_cases h1 : k < n
  · simp [h1]; omega
  · simp [h1]; omega
set_option maxRecDepth 20000 in
theorem script17_D (c : ScrI) (hn : c.n ≤ 1000) (hl : c.l.length ≤ 1000) : DPure Try.prog 17 [int1 c.n, links c.l, .v (.string c.name), int1 c.kind, int1 c.scale, ints c.xs] (stpsD (scriptT c.n c.l c.name c.kind c.scale c.xs)) := by
  refine DFun.data (DFun.body Try.func17 rfl (by kernel_rfl) ?_)
  repeat' (first | with_reducible rfl | ((conv => whnf); first | refine And.intro ?_ ?_ | (intro h; first | exact Bool.noConfusion h | with_reducible exact h | (have ht : true = true := h; clear ht h) | skip) | ((with_reducible refine DWl.mark ?_); repeat' (first | refine DWl.cons ?_ ?_ | exact DWl.nil | exact DW.same _ rfl | exact DW.ref _ _ _ rfl | exact DW.arr _ _ _ rfl | exact DW.sub _ _ _ _ rfl | exact DW.nilLst _ | refine DW.aggl ?_ | refine DW.tupl ?_ | refine DW.clol ?_ ?_ | refine DW.int ?_ | refine DW.bool ?_ | refine DW.str ?_)) | ((with_reducible refine SCall.mark ?_); first | refine SCall.run Try.func34 rfl (Nat.le_of_ble_eq_true rfl) (by kernel_rfl) ?_) | ((with_reducible refine Tri.mark ?_); first | (refine Tri.at (4) (int1 0) (by rfl) ?_; refine Tri.loop (a1St34 c.l) ((· ≤ c.l.length)) (fun k => c.l.length - k) (0) (by kernel_rfl) (Weak.list [(0, none)] [] ?_ ?_ ?_) ?_ ?_) | (refine Tri.at (5) (int1 0) (by rfl) ?_; refine Tri.loop (a2St34 c.l) ((· ≤ 6)) (fun k => 6 - k) (0) (by kernel_rfl) (Weak.list [(0, some 0)] [] ?_ ?_ ?_) ?_ ?_) | (refine Tri.at (14) (int1 0) (by rfl) ?_; refine Tri.loop (l3St17 c) ((· ≤ min c.n c.xs.length)) (fun k => min c.n c.xs.length - k) (0) (by kernel_rfl) (Weak.list [(0, some 2)] [] ?_ ?_ ?_) ?_ ?_) | (refine Tri.movesN [0] [(true, 0), (true, 1), (true, 2), (true, 3), (true, 4), (true, 5), (true, 6), (true, 7), (true, 8), (true, 9), (true, 10), (true, 11), (true, 12), (true, 13), (true, 14), (true, 15), (true, 16), (true, 17), (true, 18), (true, 19), (true, 20), (true, 21), (true, 22), (false, 23), (false, 24), (false, 25)] ?_ (by kernel_rfl) ?_; rfl)) | refine dloadE_map (lk0) ?_ ?_ | refine dloadE_map (0) ?_ ?_ | refine dcell_ok rfl ?_ | refine AppC.new ?_))
  all_goals first | (with_reducible refine enters_mark ?_; kernel_rfl) | (with_reducible refine boolT_mark ?_; kernel_rfl) | rfl | trivial | assumption | exact Nat.le_of_ble_eq_true rfl | (show entersB _ _ = true; kernel_rfl) | exact DW.same _ rfl | exact DW.ref _ _ _ rfl | exact DW.arr _ _ _ rfl | refine DW.int ?_ | refine dvb ?_ | refine dvi ?_ | exact OW.cells rfl rfl (DWl.same rfl) | exact Nat.zero_le _ | omega | skip
  all_goals repeat' (first | refine OW.cells rfl rfl ?_ | exact DW.nilArr _ rfl | refine DWl.cons ?_ ?_ | exact DWl.nil | exact DW.same _ rfl | exact DW.ref _ _ _ rfl | exact DW.arr _ _ _ rfl | exact DW.sub _ _ _ _ rfl | exact DW.nilLst _ | refine DW.aggl ?_ | refine DW.tupl ?_ | refine DW.clol ?_ ?_)
  all_goals try ((conv => whnf); with_reducible first | refine Round.mark ?_ | refine Tells.mark ?_ | refine Retold.mark ?_)
  all_goals try first | (show (_ : Bool) = _; simp_all; done) | (show (_ : Int) < _; simp at *; omega) | (show (_ : Int) ≤ _; simp at *; omega) | (show (_ : Nat) < _; simp at *; omega) | (show (_ : Nat) ≤ _; simp at *; omega)
  · exact rowS_zero _
  · rename_i k hk
    show 2 * k * 6 ≤ _
    rw [rowS_len, headS_len, List.length_take]; omega
  · simp only [maxLen]; omega
  · rename_i k hk
    have hkl := lt_of_test h
    refine Round.go (· + 1) hkl (by show c.l.length - (k + 1) < c.l.length - k; omega) (Weak.list [(0, some 2)] [] (by kernel_rfl) ?_ ?_)
    · repeat' (first | exact wsucc hkl (by omega) | exact DWl.eq (push_head c.l hkl) (rowS_all _) | exact DW.same _ rfl | exact DW.ref _ _ _ rfl | exact DW.arr _ _ _ rfl | exact OW.cells rfl rfl (DWl.same rfl) | refine OW.cells rfl rfl ?_ | refine DWl.cons ?_ ?_ | exact DWl.nil | exact DW.nilArr _ rfl | exact DW.nilLst _ | refine DW.clol ?_ ?_ | refine DW.aggl ?_ | refine DW.tupl ?_ | refine DW.int ?_ | refine DW.bool ?_ | refine DW.str ?_ | refine DW.arrE rfl ?_ | ((conv => whnf); first | refine And.intro ?_ ?_ | trivial))
    · repeat' (first | exact wsucc hkl (by omega) | exact DWl.eq (push_head c.l hkl) (rowS_all _) | exact DW.same _ rfl | exact DW.ref _ _ _ rfl | exact DW.arr _ _ _ rfl | exact OW.cells rfl rfl (DWl.same rfl) | refine OW.cells rfl rfl ?_ | refine DWl.cons ?_ ?_ | exact DWl.nil | exact DW.nilArr _ rfl | exact DW.nilLst _ | refine DW.clol ?_ ?_ | refine DW.aggl ?_ | refine DW.tupl ?_ | refine DW.int ?_ | refine DW.bool ?_ | refine DW.str ?_ | refine DW.arrE rfl ?_ | ((conv => whnf); first | refine And.intro ?_ ?_ | trivial))
  · rename_i k hk
    have hkl := ge_of_test h
    exact DW.arrE rfl (by omega)
  · rename_i k hk
    have hkl := ge_of_test h
    refine DWl.eq ?_ (rowS_all _)
    show rowS (headS (c.l.take k)) = _
    rw [List.take_of_length_le hkl]
    exact congrArg rowS (headr_zero _)
  · rename_i k hk
    show (2 * c.l.length + k) * 6 ≤ _
    rw [rowS_len, headr_len]; exact Nat.le_refl _
  · simp only [maxLen]; omega
  · rename_i k hk
    have hkl : k < 6 := by have := of_decide_eq_true h; omega
    refine Round.go (· + 1) hkl (by show 6 - (k + 1) < 6 - k; omega) (Weak.list [(0, some 2)] [] (by kernel_rfl) ?_ ?_)
    · repeat' (first | exact wsucc hkl (by omega) | exact DWl.eq (push_round c.l k) (rowS_all _) | exact DW.same _ rfl | exact DW.ref _ _ _ rfl | exact DW.arr _ _ _ rfl | exact OW.cells rfl rfl (DWl.same rfl) | refine OW.cells rfl rfl ?_ | refine DWl.cons ?_ ?_ | exact DWl.nil | exact DW.nilArr _ rfl | exact DW.nilLst _ | refine DW.clol ?_ ?_ | refine DW.aggl ?_ | refine DW.tupl ?_ | refine DW.int ?_ | refine DW.bool ?_ | refine DW.str ?_ | refine DW.arrE rfl ?_ | ((conv => whnf); first | refine And.intro ?_ ?_ | trivial))
    · repeat' (first | exact wsucc hkl (by omega) | exact DWl.eq (push_round c.l k) (rowS_all _) | exact DW.same _ rfl | exact DW.ref _ _ _ rfl | exact DW.arr _ _ _ rfl | exact OW.cells rfl rfl (DWl.same rfl) | refine OW.cells rfl rfl ?_ | refine DWl.cons ?_ ?_ | exact DWl.nil | exact DW.nilArr _ rfl | exact DW.nilLst _ | refine DW.clol ?_ ?_ | refine DW.aggl ?_ | refine DW.tupl ?_ | refine DW.int ?_ | refine DW.bool ?_ | refine DW.str ?_ | refine DW.arrE rfl ?_ | ((conv => whnf); first | refine And.intro ?_ ?_ | trivial))
  · rename_i k hk
    show (2 * c.l.length + k) * 6 ≤ _
    rw [rowS_len, headr_len]; exact Nat.le_refl _
  · simp only [maxLen]; omega
  · rename_i k hk
    have : k = 6 := by simp at h; omega
    subst this
    exact DW.arrE rfl (by omega)
  · rename_i k hk
    have : k = 6 := by simp at h; omega
    subst this
    exact DWl.eq (push_mid c.l c.name c.kind c.scale c.xs) (rowS_all _)
  · rename_i k hk
    show (2 * c.l.length + 8 + k) * 6 ≤ _
    rw [rowS_len, mids_len]; exact Nat.le_refl _
  · simp only [maxLen]; omega
  · rename_i k hk
    have hkl := (t17 h).1 rfl
    refine Round.go (· + 1) hkl (by show min c.n c.xs.length - (k + 1) < min c.n c.xs.length - k; omega) (Weak.list [(0, some 2)] [] (by kernel_rfl) ?_ ?_)
    · repeat' (first | exact wsucc (n := 1000) (by omega) (by omega) | exact DWl.eq (push_set c.l c.name c.kind c.scale c.xs k) (rowS_all _) | exact DW.same _ rfl | exact DW.ref _ _ _ rfl | exact DW.arr _ _ _ rfl | exact OW.cells rfl rfl (DWl.same rfl) | refine OW.cells rfl rfl ?_ | refine DWl.cons ?_ ?_ | exact DWl.nil | exact DW.nilArr _ rfl | exact DW.nilLst _ | refine DW.clol ?_ ?_ | refine DW.aggl ?_ | refine DW.tupl ?_ | refine DW.int ?_ | refine DW.bool ?_ | refine DW.str ?_ | refine DW.arrE rfl ?_ | ((conv => whnf); first | refine And.intro ?_ ?_ | trivial))
    · repeat' (first | exact wsucc (n := 1000) (by omega) (by omega) | exact DWl.eq (push_set c.l c.name c.kind c.scale c.xs k) (rowS_all _) | exact DW.same _ rfl | exact DW.ref _ _ _ rfl | exact DW.arr _ _ _ rfl | exact OW.cells rfl rfl (DWl.same rfl) | refine OW.cells rfl rfl ?_ | refine DWl.cons ?_ ?_ | exact DWl.nil | exact DW.nilArr _ rfl | exact DW.nilLst _ | refine DW.clol ?_ ?_ | refine DW.aggl ?_ | refine DW.tupl ?_ | refine DW.int ?_ | refine DW.bool ?_ | refine DW.str ?_ | refine DW.arrE rfl ?_ | ((conv => whnf); first | refine And.intro ?_ ?_ | trivial))
  · rename_i k hk
    have : ¬ k < min c.n c.xs.length := fun hh => by have := (t17 h).2 hh; cases this
    have : k = min c.n c.xs.length := by omega
    subst this
    exact Tells.mk (DW.pubM rfl (mids_len _ _ _ _ _ _) rfl rfl (stpsRow _) (rowS_eq _))
end Go.Proofs.Ytphgcgggbbcjgaa
