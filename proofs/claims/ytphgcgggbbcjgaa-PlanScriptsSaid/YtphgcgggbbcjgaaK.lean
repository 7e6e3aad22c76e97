/- The script: the program's and the document's. -/
import Derived.Test.YtphgcgggbbcjgaaJ
import Derived.Test.YtphgcgggbbcjgaaE
namespace Go.Proofs.Ytphgcgggbbcjgaa
open Go.RowKit Go.Dl
attribute [local irreducible] Tri SCall DFun QSem PCall GCall MCall Round Weak dloadE OW DWl Tells IntKind.wrap Retold ESem
theorem minTake (xs : List Int) (n : Nat) : ((xs.map intD).take (if (((xs.map intD).length : Nat) : Int) < (n : Int) then (((xs.map intD).length : Nat) : Int) else (n : Int)).toNat).drop (Int.toNat 0) = (xs.take n).map intD := by
  rw [List.length_map]
  show List.drop 0 _ = _
  rw [List.drop_zero, List.map_take]
  split
  · rename_i h
    rw [Int.toNat_natCast, List.take_of_length_le (by simp), List.take_of_length_le (by simp; omega)]
  · rw [Int.toNat_natCast]
attribute [local irreducible] rowS headS rounds6 setsS midS aheadS

structure ScrI where
  n : Nat
  l : List Lk
  name : ByteArray
  kind : Int
  scale : Int
  xs : List Int
def scrTm (c : ScrI) : List (Nat × DV) := [(0, int1 c.n), (1, links c.l), (2, .v (.string c.name)), (3, int1 c.kind), (4, int1 c.scale), (5, ints c.xs)]
def l1St16 (c : ScrI) (k : Nat) : St := ⟨0, tmOf ([(13, .arr 0 (2 * k)), (18, links c.l), (19, int1 (c.l.map linkD).length), (20, int1 k)] ++ scrTm c), .of [(0, ⟨65, 6, rowS (headS (c.l.take k))⟩)] 1⟩
def l2St16 (c : ScrI) (k : Nat) : St := ⟨0, tmOf ([(13, .arr 0 (2 * c.l.length + k)), (38, int1 k)] ++ scrTm c), .of [(0, ⟨65, 6, rowS (headS c.l ++ rounds6 k)⟩)] 1⟩
def l3St16 (c : ScrI) (k : Nat) : St := ⟨0, tmOf ([(13, .arr 0 (2 * c.l.length + 8 + k)), (58, ints (c.xs.take c.n)), (59, int1 (min c.n c.xs.length : Nat)), (60, int1 k)] ++ scrTm c), .of [(0, ⟨65, 6, rowS (midS c.l c.name c.kind c.scale ++ setsS c.name c.xs k)⟩)] 1⟩
theorem push_set16 (c : ScrI) {k : Nat} (hk : k < min c.n c.xs.length) : (rowS (midS c.l c.name c.kind c.scale ++ setsS c.name c.xs k)).take ((2 * c.l.length + 8 + k) * 6) ++ lit [⟨5, (k : Nat), 0, c.name, 0, (c.xs.take c.n).getD k 0⟩] = rowS (midS c.l c.name c.kind c.scale ++ setsS c.name c.xs (k + 1)) := by
  have : (c.xs.take c.n).getD k 0 = c.xs.getD k 0 := by
    rw [List.getD_eq_getElem?_getD, List.getD_eq_getElem?_getD, List.getElem?_take, if_pos (by omega)]
  rw [this]
  exact push_set c.l c.name c.kind c.scale c.xs k
set_option maxRecDepth 20000 in
theorem script16_D (c : ScrI) (hn : c.n ≤ 1000) (hl : c.l.length ≤ 1000) : DPure Try.prog 16 [int1 c.n, links c.l, .v (.string c.name), int1 c.kind, int1 c.scale, ints c.xs] (stpsD (scriptT c.n c.l c.name c.kind c.scale c.xs)) := by
  refine DFun.data (DFun.body Try.func16 rfl (by kernel_rfl) ?_)
  repeat' (first | with_reducible rfl | ((conv => whnf); first | refine And.intro ?_ ?_ | (intro h; first | exact Bool.noConfusion h | with_reducible exact h | (have ht : true = true := h; clear ht h) | skip) | ((with_reducible refine DWl.mark ?_); repeat' (first | refine DWl.cons ?_ ?_ | exact DWl.nil | exact DW.same _ rfl | exact DW.ref _ _ _ rfl | exact DW.arr _ _ _ rfl | exact DW.sub _ _ _ _ rfl | exact DW.nilLst _ | refine DW.aggl ?_ | refine DW.tupl ?_ | refine DW.clol ?_ ?_ | refine DW.int ?_ | refine DW.bool ?_ | refine DW.str ?_)) | ((with_reducible refine Tri.mark ?_); first | (refine Tri.at (20) (int1 0) (by rfl) ?_; refine Tri.loop (l1St16 c) ((· ≤ c.l.length)) (fun k => c.l.length - k) (0) (by kernel_rfl) (Weak.list [(0, none)] [] ?_ ?_ ?_) ?_ ?_) | (refine Tri.at (38) (int1 0) (by rfl) ?_; refine Tri.loop (l2St16 c) ((· ≤ 6)) (fun k => 6 - k) (0) (by kernel_rfl) (Weak.list [(0, some 0)] [] ?_ ?_ ?_) ?_ ?_) | (refine Tri.at (60) (int1 0) (by rfl) ?_; refine Tri.loop (l3St16 c) ((· ≤ min c.n c.xs.length)) (fun k => min c.n c.xs.length - k) (0) (by kernel_rfl) (Weak.list [(0, some 2)] [] ?_ ?_ ?_) ?_ ?_)) | refine dloadE_map (lk0) ?_ ?_ | refine dloadE_map (0) ?_ ?_ | refine dcell_ok rfl ?_ | refine AppC.new ?_))
  all_goals first | (with_reducible refine enters_mark ?_; kernel_rfl) | (with_reducible refine boolT_mark ?_; kernel_rfl) | rfl | trivial | assumption | exact Nat.le_of_ble_eq_true rfl | (show entersB _ _ = true; kernel_rfl) | exact DW.same _ rfl | exact DW.ref _ _ _ rfl | exact DW.arr _ _ _ rfl | refine DW.int ?_ | refine dvb ?_ | refine dvi ?_ | exact OW.cells rfl rfl (DWl.same rfl) | exact Nat.zero_le _ | omega | skip
  all_goals repeat' (first | refine OW.cells rfl rfl ?_ | exact DW.nilArr _ rfl | refine DWl.cons ?_ ?_ | exact DWl.nil | exact DW.same _ rfl | exact DW.ref _ _ _ rfl | exact DW.arr _ _ _ rfl | exact DW.sub _ _ _ _ rfl | exact DW.nilLst _ | refine DW.aggl ?_ | refine DW.tupl ?_ | refine DW.clol ?_ ?_)
  all_goals try ((conv => whnf); with_reducible first | refine Round.mark ?_ | refine Tells.mark ?_ | refine Retold.mark ?_)
  all_goals try first | (show (_ : Bool) = _; simp_all; done) | (show (_ : Int) < _; simp at *; omega) | (show (_ : Int) ≤ _; simp at *; omega) | (show (_ : Nat) < _; simp at *; omega) | (show (_ : Nat) ≤ _; simp at *; omega)
  · exact rowS_zero _
  · rename_i k hk
    show 2 * k * 6 ≤ _
    rw [rowS_len, headS_len, List.length_take]; omega
  · simp only [maxLen]; omega
  · rename_i k hk
    have hkl := lt_of_test h
    refine Round.go (· + 1) hkl (by show c.l.length - (k + 1) < c.l.length - k; omega) (Weak.list [(0, some 3)] [] (by kernel_rfl) ?_ ?_)
    · repeat' (first | exact wsucc hkl (by omega) | exact DWl.eq (push_head c.l hkl) (rowS_all _) | exact DW.same _ rfl | exact DW.ref _ _ _ rfl | exact DW.arr _ _ _ rfl | exact OW.cells rfl rfl (DWl.same rfl) | refine OW.cells rfl rfl ?_ | refine DWl.cons ?_ ?_ | exact DWl.nil | exact DW.nilArr _ rfl | exact DW.nilLst _ | refine DW.clol ?_ ?_ | refine DW.aggl ?_ | refine DW.tupl ?_ | refine DW.int ?_ | refine DW.bool ?_ | refine DW.str ?_ | refine DW.arrE rfl ?_ | ((conv => whnf); first | refine And.intro ?_ ?_ | trivial))
    · repeat' (first | exact wsucc hkl (by omega) | exact DWl.eq (push_head c.l hkl) (rowS_all _) | exact DW.same _ rfl | exact DW.ref _ _ _ rfl | exact DW.arr _ _ _ rfl | exact OW.cells rfl rfl (DWl.same rfl) | refine OW.cells rfl rfl ?_ | refine DWl.cons ?_ ?_ | exact DWl.nil | exact DW.nilArr _ rfl | exact DW.nilLst _ | refine DW.clol ?_ ?_ | refine DW.aggl ?_ | refine DW.tupl ?_ | refine DW.int ?_ | refine DW.bool ?_ | refine DW.str ?_ | refine DW.arrE rfl ?_ | ((conv => whnf); first | refine And.intro ?_ ?_ | trivial))
  · rename_i k hk
    have hkl := ge_of_test h
    exact DW.arrE rfl (by omega)
  · rename_i k hk
    have hkl := ge_of_test h
    refine DWl.eq ?_ (rowS_all _)
    show rowS (headS (c.l.take k)) = _
    rw [List.take_of_length_le hkl]
    exact congrArg rowS (headr_zero _)
  · rename_i k hk
    show (2 * c.l.length + k) * 6 ≤ _
    rw [rowS_len, headr_len]; exact Nat.le_refl _
  · simp only [maxLen]; omega
  · rename_i k hk
    have hkl : k < 6 := by have := of_decide_eq_true h; omega
    refine Round.go (· + 1) hkl (by show 6 - (k + 1) < 6 - k; omega) (Weak.list [(0, some 2)] [] (by kernel_rfl) ?_ ?_)
    · repeat' (first | exact wsucc hkl (by omega) | exact DWl.eq (push_round c.l k) (rowS_all _) | exact DW.same _ rfl | exact DW.ref _ _ _ rfl | exact DW.arr _ _ _ rfl | exact OW.cells rfl rfl (DWl.same rfl) | refine OW.cells rfl rfl ?_ | refine DWl.cons ?_ ?_ | exact DWl.nil | exact DW.nilArr _ rfl | exact DW.nilLst _ | refine DW.clol ?_ ?_ | refine DW.aggl ?_ | refine DW.tupl ?_ | refine DW.int ?_ | refine DW.bool ?_ | refine DW.str ?_ | refine DW.arrE rfl ?_ | ((conv => whnf); first | refine And.intro ?_ ?_ | trivial))
    · repeat' (first | exact wsucc hkl (by omega) | exact DWl.eq (push_round c.l k) (rowS_all _) | exact DW.same _ rfl | exact DW.ref _ _ _ rfl | exact DW.arr _ _ _ rfl | exact OW.cells rfl rfl (DWl.same rfl) | refine OW.cells rfl rfl ?_ | refine DWl.cons ?_ ?_ | exact DWl.nil | exact DW.nilArr _ rfl | exact DW.nilLst _ | refine DW.clol ?_ ?_ | refine DW.aggl ?_ | refine DW.tupl ?_ | refine DW.int ?_ | refine DW.bool ?_ | refine DW.str ?_ | refine DW.arrE rfl ?_ | ((conv => whnf); first | refine And.intro ?_ ?_ | trivial))
  · rename_i k hk
    show (2 * c.l.length + k) * 6 ≤ _
    rw [rowS_len, headr_len]; exact Nat.le_refl _
  · simp only [maxLen]; omega
  · rename_i k hk
    have : k = 6 := by simp at h; omega
    subst this
    exact DW.arrE rfl (by omega)
  · exact DW.lstE (minTake c.xs c.n)
  · rw [minTake, List.length_map, List.length_take]
  · rename_i k hk
    have : k = 6 := by simp at h; omega
    subst this
    exact DWl.eq (push_mid c.l c.name c.kind c.scale c.xs) (rowS_all _)
  · rename_i k hk
    show (2 * c.l.length + 8 + k) * 6 ≤ _
    rw [rowS_len, mids_len]; exact Nat.le_refl _
  · simp only [maxLen]; omega
  · rename_i k hk
    have hkl := lt_int h
    refine Round.go (· + 1) hkl (by show min c.n c.xs.length - (k + 1) < min c.n c.xs.length - k; omega) (Weak.list [(0, some 2)] [] (by kernel_rfl) ?_ ?_)
    · repeat' (first | exact wsucc (n := 1000) (by omega) (by omega) | exact DWl.eq (push_set16 c hkl) (rowS_all _) | exact DW.same _ rfl | exact DW.ref _ _ _ rfl | exact DW.arr _ _ _ rfl | exact OW.cells rfl rfl (DWl.same rfl) | refine OW.cells rfl rfl ?_ | refine DWl.cons ?_ ?_ | exact DWl.nil | exact DW.nilArr _ rfl | exact DW.nilLst _ | refine DW.clol ?_ ?_ | refine DW.aggl ?_ | refine DW.tupl ?_ | refine DW.int ?_ | refine DW.bool ?_ | refine DW.str ?_ | refine DW.arrE rfl ?_ | ((conv => whnf); first | refine And.intro ?_ ?_ | trivial))
    · repeat' (first | exact wsucc (n := 1000) (by omega) (by omega) | exact DWl.eq (push_set16 c hkl) (rowS_all _) | exact DW.same _ rfl | exact DW.ref _ _ _ rfl | exact DW.arr _ _ _ rfl | exact OW.cells rfl rfl (DWl.same rfl) | refine OW.cells rfl rfl ?_ | refine DWl.cons ?_ ?_ | exact DWl.nil | exact DW.nilArr _ rfl | exact DW.nilLst _ | refine DW.clol ?_ ?_ | refine DW.aggl ?_ | refine DW.tupl ?_ | refine DW.int ?_ | refine DW.bool ?_ | refine DW.str ?_ | refine DW.arrE rfl ?_ | ((conv => whnf); first | refine And.intro ?_ ?_ | trivial))
  · rename_i k hk
    have : k = min c.n c.xs.length := by have := ge_int h; omega
    subst this
    exact Tells.mk (DW.pubM rfl (mids_len _ _ _ _ _ _) rfl rfl (stpsRow _) (rowS_eq _))
end Go.Proofs.Ytphgcgggbbcjgaa
